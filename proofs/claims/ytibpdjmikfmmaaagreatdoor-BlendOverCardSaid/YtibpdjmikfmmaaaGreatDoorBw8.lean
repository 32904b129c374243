/- Part 8 of a proof: the texts Y11 Y12 Q4 Q5 Q6 Q7 Q8 T4 T5 Q9 Q10 Q11 Q12, one behind the other. -/
import Derived.Test.YtibpdjmikfmmaaaGreatDoorBw1
import Derived.Test.YtibpdjmikfmmaaaGreatDoorBw7
import Derived.Test.YtibpdjmikfmmaaaGreatDoorBw6
noncomputable section
namespace Go.Proofs.YtibpdjmikfmmaaaGreatDoor.Rf
open Go Go.RowKit Go.Sort Go.Proofs.YtibpdjmikfmmaaaGreatDoor.bB
def pkL:List (anY):=[dA,og,qK,Ac]
def aao(y:An):Port:=⟨aN y qK [],nE y og,nE y dA,aN y Ac VZ⟩
def Ws(y:An):Bool:=bif(bif(bif !(N8 y dA)then true else !(N8 y og))then true else !(bV y qK []))then true else !(bV y Ac VZ)
def FK(y:An):anY:=bif y.kind==1 then(bif(jo y.text).2 != 0 then[]else Au (jo y.text).1)else bif !(eX y pkL)then[]else bif Ws y then[]else Au (aao y)
structure Kz (y:An):Prop where
 text:y.text.length<=1000
 KE:fit y=true
 SK:∀k,(aG y k).text.length<=1000
theorem XJ{y:An}(h:∀k,(aG y k).text.length<=1000)(k o:anY)(ho:o.length<=1000):(aN y k o).length<=1000:=by unfold aN;grind
theorem TP(y:An)(h:Kz y):uj y=some (FK y):=by
 refine dh rfl ?_;have ho:=Hy y pkL (sM.1 h.KE).1.1 rfl;have n1:=M4 y dA h.KE (Nat.le_trans (h.SK _) (by decide));have n2:=M4 y og h.KE (Nat.le_trans (h.SK _) (by decide));have f1:=nG y qK [] h.KE;have f2:=nG y Ac VZ h.KE;unfold pkL dA og qK Ac at ho;unfold dA at n1;unfold og at n2;unfold qK at f1;unfold Ac VZ at f2;have hp:=V4 y.text (by have:=h.text;omega);simp only[aK,aW,uh,aQ,amD y.text (by have:=h.text;omega),aD,ho,n1,n2,f1,f2];unfold FK;cases y.kind==1 with
 | true =>
  rw[cond_true,cond_true];cases(jo y.text).2 != 0 with
  | true=>rfl
  | false =>rw[cond_false,cond_false,aco _ (by omega)];rfl
 | false =>
  rw[cond_false,cond_false];change (bif !(eX y pkL)then _ else(bif Ws y then _ else _));cases !(eX y pkL)with
  | true=>rfl
  | false =>
   rw[cond_false,cond_false];cases Ws y with
   | true=>rfl
   | false =>rw[cond_false,cond_false,aco _ (by have:=XJ h.SK qK [] (by decide);show(aN y qK []).length<=_;omega)];rfl
def Wt:List An->An->Option An
 | [],o=>some o
 | y::t,o=>bif FK y==[]then none else Wt t (bg o (FK y) zn)
def IJ:List (anY)->List An->An->Option An
 | s::t,y::r,o=>bif(bif(bif y.kind==0 then FK (bI s)==s else false)then s==[]else true)then none else IJ t r (bg o s zn)
 | _,_,o=>some o
def M5(n:An):Option An:=bif(bif decide ((32:Int)<(n.kids.length:Int))then true else decide (n.kind<2))then none else bif n.kind==2 then Wt n.kids zn else IJ n.keys n.kids zn
def ze(n:An):An:=oV (M5 n)
def Bz(n:An):Bool:=oB (M5 n)
theorem aBj{s:anY}(h:s.length<=1000):Kz (bI s):=⟨h,rfl,fun _=>aa4 _⟩
theorem amJ(n:An)(h3:n.kind=3->n.keys.length=n.kids.length)(hkd:n.kind<=3)(hs:∀s∈n.keys,s.length<=1000)(hy:∀y∈n.kids,Kz y):Dy n=some (ze n,Bz n):=by
 refine iB rfl (fun | .e y=>y=n | .h0 v0 v1 _ _ v4=>v1=n/\n.kids.length<=32/\∃i:Nat,v0=(i:Int)/\i<=n.kids.length/\Bo 1 i v4/\((n.kind=2/\Wt (n.kids.drop i) v4=M5 n)\/(n.kind=3/\IJ (n.keys.drop i) (n.kids.drop i) v4=M5 n))) (fun | .e _=>10000000000 | .h0 v0 _ _ _ _=>((n.kids.length:Int)-v0).toNat) rfl (by show 10000000000<_;omega) ?_;rintro(y | ⟨v0,v1,v2,v3,o⟩) hs'
 ·have hs':y=n:=hs';subst hs';simp only[aK,aW,ql];have e:M5 y=bif(bif decide ((32:Int)<(y.kids.length:Int))then true else decide (y.kind<2))then none else bif y.kind==2 then Wt y.kids zn else IJ y.keys y.kids zn:=rfl
  cases hc:(bif decide ((32:Int)<(y.kids.length:Int))then true else decide (y.kind<2))with
  | true =>rw[hc]at e;unfold ze Bz;rw[e];rfl
  | false =>
   rw[hc,cond_false]at e;have hl:y.kids.length<=32/\2<=y.kind:=by grind
   rw[cond_false];refine⟨⟨trivial,hl.1,0,rfl,aa4 _,Bo.nil (.inl rfl),?_⟩,?_⟩
   ·by_cases h2:y.kind=2
    ·rw[jL h2]at e;exact .inl ⟨h2,e.symm⟩
    ·rw[eT h2]at e;exact .inr ⟨by omega,e.symm⟩
   grind
 ·obtain⟨rfl,h32,i,rfl,h1,hB,h2⟩:=hs';simp only[aK,aW,ql,aQ];have fin:M5 v1=some o->(fu o true,fq o true)=(ze v1,Bz v1):=fun h=>by
   unfold ze Bz;rw[h];rfl
  by_cases hi:i<v1.kids.length
  ·have e1:au ((i:Int)+1)=((i+1:Nat):Int):=by rw[aT (by omega) (by omega)];omega
   have hg:v1.kids.getD i (Df.d:An)=v1.kids[i]:=by rw[List.getD,aaO hi];rfl
   have hM:((v1.kids.length:Int)-((i+1:Nat):Int)).toNat<((v1.kids.length:Int)-(i:Int)).toNat:=by omega
   have hyi:=hy _ (acw hi);have none_:M5 v1=none->((⟨0,[],[],[]⟩:An),false)=(ze v1,Bz v1):=fun h=>by unfold ze Bz;rw[h];rfl
   rw[dT (show(i:Int)<(v1.kids.length:Int) by omega),cond_true];rcases h2 with⟨hk,h2⟩ | ⟨hk,h2⟩
   ·rw[<- abJ hi,Wt]at h2;rw[jL hk,cond_true,wI];refine⟨by omega,by omega,?_⟩;rw[aaY,hg,TP _ hyi,e1];simp only[aD];cases hb:FK v1.kids[i]==[]with
    | true=>rw[hb]at h2;exact none_ h2.symm
    | false =>rw[hb,cond_false]at h2;rw[cond_false,hB.ok (by omega),ak];exact⟨⟨trivial,h32,i+1,rfl,by omega,hB.put (ahF 0),.inl ⟨hk,h2⟩⟩,hM⟩
   ·have hj:i<v1.keys.length:=by have:=h3 hk;omega
    have hg2:v1.keys.getD i (Df.d:anY)=v1.keys[i]:=by rw[List.getD,aaO hj];rfl
    have hg3:v1.keys.getD i (dflt Ty.str:anY)=v1.keys[i]:=hg2;have hsi:=hs _ (acw hj);rw[<- abJ hi,<- abJ hj,IJ]at h2;rw[eT (show v1.kind≠2 by omega),cond_false,wI];refine⟨by omega,by omega,?_⟩;rw[aaY,hg,hg3,mD,dO,TP _ (aBj hsi),dO,e1,dT (show(0:Int)<=(i:Int) by omega),dT (show(i:Int)<(v1.keys.length:Int) by omega)];simp only[acf,aci,ak,aff];cases hb:(bif v1.kids[i].kind==0 then FK (bI v1.keys[i])==v1.keys[i]else false)with
    | false =>rw[hb]at h2;exact none_ h2.symm
    | true =>
     rw[hb,cond_true]at h2;rw[cond_true,wI];refine⟨by omega,by omega,?_⟩;rw[aaY,hg2];cases hz:v1.keys[i]==[]with
     | true=>rw[hz]at h2;exact none_ h2.symm
     | false =>rw[hz,cond_false]at h2;rw[cond_false,hB.ok (by omega),ak];exact⟨⟨trivial,h32,i+1,rfl,by omega,hB.put (ahF 0),.inr ⟨hk,h2⟩⟩,hM⟩
  ·rw[dF (show ¬ (i:Int)<(v1.kids.length:Int) by omega),cond_false,hB.done (by decide)];refine fin ?_;rcases h2 with⟨hk,h2⟩ | ⟨hk,h2⟩
   ·rw[<- h2,abb (by omega)];rfl
   ·rw[<- h2,abb (show v1.keys.length<=i by have:=h3 hk;omega)];rfl
def Wu:List (anY):=[jC,dA,l9,mg]
def KF(y:An):gD:=⟨aN y jC [],aN y dA [],aN y l9 o7==kg⟩
def akM(y:An):Bool:=bif(bif(bif(bif(bif bV y jC []then bV y dA []else false)then KA y l9 o7 else false)then bV y mg Ad else false)then vE (KF y)else false)then(bif(bif aN y mg Ad==[118,111,108,117,109,101]then true else aN y mg Ad==[98,105,110,100])then true else aN y mg Ad==[116,109,112,102,115])else false
def q9(y:An):gD:=bif y.kind==1 then(oh y.text).1 else bif !(eX y Wu)then mz else KF y
def FL(y:An):Bool:=bif y.kind==1 then(oh y.text).2==0 else bif !(eX y Wu)then false else akM y
theorem axV{l:List (anY)}{B:Nat}(h:∀x∈l,x.length<=B)(ro:Bool):(J5 l ro).1.target.length<=B:=by
 have hg:=fun i=>rG h i
 have hz:([]:anY).length<=B:=aa4 _;have hf:∀m:gD,m.target.length<=B->(wo m).1.target.length<=B:=fun m hm=>by
  unfold wo;cases vE m with
  | true=>exact hm
  | false=>exact hz
 unfold J5;cases(l.length:Int)==1 with
 | true=>exact hf _ (hg 0)
 | false =>
  cases(l.length:Int)==2 with
  | false=>exact hf ⟨[],[],ro⟩ hz
  | true =>
   cases l.getD 0 []==[]with
   | true=>exact hz
   | false=>grind
theorem awm(s:anY):(oh s).1.target.length<=s.length:=by
 obtain⟨_,_,a3⟩:=Eo s 58 0 (-1);unfold oh;cases mEn s with
 | true=>exact axV (fun x hx=>a3 x (aj2 hx)) _
 | false=>exact axV a3 _
theorem Qr(y:An)(h:Kz y):Ao y=some (q9 y,FL y)/\(q9 y).source.length<=1000/\(q9 y).target.length<=1000:=by
 have lens:(q9 y).source.length<=1000/\(q9 y).target.length<=1000:=by
  have h1:=ad5 y.text;have h2:=awm y.text;have h3:=h.text;unfold q9;cases y.kind==1 with
  | true=>rw[cond_true];omega
  | false =>
   rw[cond_false];cases !(eX y Wu)with
   | true=>exact⟨aa4 _,aa4 _⟩
   | false=>exact⟨XJ h.SK _ _ (by decide),XJ h.SK _ _ (by decide)⟩
 refine⟨?_,lens⟩;refine dh rfl ?_;have ho:=Hy y Wu (sM.1 h.KE).1.1 rfl;have f1:=nG y jC [] h.KE;have f2:=nG y dA [] h.KE;have f3:=Pb y l9 o7 h.KE;have f4:=nG y mg Ad h.KE;have hR:iD (KF y)=some (vE (KF y)):=JE _ (Nat.le_trans (XJ h.SK jC [] (by decide)) (by decide)) (Nat.le_trans (XJ h.SK dA [] (by decide)) (by decide));unfold Wu jC dA l9 mg at ho;unfold jC at f1;unfold dA at f2;unfold l9 o7 at f3;unfold mg Ad at f4;simp only[aK,aW,rV,aQ,amF y.text (by have:=h.text;omega),aD,ho,f1,f2,f3,f4];unfold q9 FL;cases y.kind==1 with
 | true=>rfl
 | false =>rw[cond_false,cond_false];change (bif !(eX y Wu)then _ else(ck ((iD (KF y)).isSome||_) False ((KF y,(bif(bif(bif(bif(bif bV y jC []then bV y dA []else false)then KA y l9 o7 else false)then bV y mg Ad else false)then gv (iD (KF y))else false)then _ else false))=_)));rw[hR];simp only[aff,aci,ak,dO];cases !(eX y Wu)<;>rfl
def Wv:List An->An->Option An
 | [],o=>some o
 | y::t,o=>bif !(FL y)then none else Wv t (bg o (q9 y).target (bI (o8 (q9 y))))
def IK:List (anY)->List An->An->Option An
 | s::t,y::r,o=>bif(bif !(FL y)then true else(bif(bif y.kind != 1 then true else !(y.text==o8 (q9 y)))then true else !(s==(q9 y).target)))then none else IK t r (bg o (q9 y).target (bI (o8 (q9 y))))
 | _,_,o=>some o
def M6(n:An):Option An:=bif(bif decide ((32:Int)<(n.kids.length:Int))then true else decide (n.kind<2))then none else bif n.kind==2 then Wv n.kids zn else IK n.keys n.kids zn
def zf(n:An):An:=oV (M6 n)
def BA(n:An):Bool:=oB (M6 n)
theorem akN(n:An)(h3:n.kind=3->n.keys.length=n.kids.length)(hkd:n.kind<=3)(hy:∀y∈n.kids,Kz y):CJ n=some (zf n,BA n):=by
 refine iB rfl (fun | .e y=>y=n | .h0 v0 v1 _ _ v4=>v1=n/\n.kids.length<=32/\∃i:Nat,v0=(i:Int)/\i<=n.kids.length/\Bo 1 i v4/\((n.kind=2/\Wv (n.kids.drop i) v4=M6 n)\/(n.kind=3/\IK (n.keys.drop i) (n.kids.drop i) v4=M6 n))) (fun | .e _=>10000000000 | .h0 v0 _ _ _ _=>((n.kids.length:Int)-v0).toNat) rfl (by show 10000000000<_;omega) ?_;rintro(y | ⟨v0,v1,v2,v3,o⟩) hs'
 ·have hs':y=n:=hs';subst hs';simp only[aK,aW,oU];have e:M6 y=bif(bif decide ((32:Int)<(y.kids.length:Int))then true else decide (y.kind<2))then none else bif y.kind==2 then Wv y.kids zn else IK y.keys y.kids zn:=rfl
  cases hc:(bif decide ((32:Int)<(y.kids.length:Int))then true else decide (y.kind<2))with
  | true =>rw[hc]at e;unfold zf BA;rw[e];rfl
  | false =>
   rw[hc,cond_false]at e;have hl:y.kids.length<=32/\2<=y.kind:=by grind
   rw[cond_false];refine⟨⟨trivial,hl.1,0,rfl,aa4 _,Bo.nil (.inl rfl),?_⟩,?_⟩
   ·by_cases h2:y.kind=2
    ·rw[jL h2]at e;exact .inl ⟨h2,e.symm⟩
    ·rw[eT h2]at e;exact .inr ⟨by omega,e.symm⟩
   grind
 ·obtain⟨rfl,h32,i,rfl,h1,hB,h2⟩:=hs';simp only[aK,aW,oU,aQ];have fin:M6 v1=some o->(fu o true,fq o true)=(zf v1,BA v1):=fun h=>by
   unfold zf BA;rw[h];rfl
  by_cases hi:i<v1.kids.length
  ·have e1:au ((i:Int)+1)=((i+1:Nat):Int):=by rw[aT (by omega) (by omega)];omega
   have hg:v1.kids.getD i (Df.d:An)=v1.kids[i]:=by rw[List.getD,aaO hi];rfl
   have hM:((v1.kids.length:Int)-((i+1:Nat):Int)).toNat<((v1.kids.length:Int)-(i:Int)).toNat:=by omega
   obtain⟨q1,q2,q3⟩:=Qr _ (hy _ (acw hi));have hT:=aqR (q9 v1.kids[i]) (by omega) (by omega);have none_:M6 v1=none->((⟨0,[],[],[]⟩:An),false)=(zf v1,BA v1):=fun h=>by unfold zf BA;rw[h];rfl
   rw[dT (show(i:Int)<(v1.kids.length:Int) by omega),cond_true,wI];refine⟨by omega,by omega,?_⟩;rw[aaY,hg,q1];simp only[aD];rw[hT];simp only[aD,mD];rw[dT (show(0:Int)<=(i:Int) by omega),e1];simp only[acf,aci,ak];rcases h2 with⟨hk,h2⟩ | ⟨hk,h2⟩
   ·rw[<- abJ hi,Wv]at h2;rw[eT (show v1.kind≠3 by omega)];simp only[ajr,aju,acn,afZ,ak,cond_false];cases hb:FL v1.kids[i]with
    | false=>rw[hb]at h2;exact none_ h2.symm
    | true =>rw[hb,ab7,cond_false]at h2;rw[ab7,cond_false,cond_false,hB.ok (by omega),ak];exact⟨⟨trivial,h32,i+1,rfl,by omega,hB.put (pR _ 0),.inl ⟨hk,h2⟩⟩,hM⟩
   ·have hj:i<v1.keys.length:=by have:=h3 hk;omega
    have hg3:v1.keys.getD i (dflt Ty.str:anY)=v1.keys[i]:=by rw[List.getD,aaO hj];rfl
    rw[<- abJ hi,<- abJ hj,IK]at h2;rw[jL hk,hg3,dT (show(i:Int)<(v1.keys.length:Int) by omega)];simp only[acf,aci,ak,cond_true];cases hb:(bif !(FL v1.kids[i])then true else(bif(bif v1.kids[i].kind != 1 then true else !(v1.kids[i].text==o8 (q9 v1.kids[i])))then true else !(v1.keys[i]==(q9 v1.kids[i]).target)))with
    | true=>rw[hb]at h2;exact none_ h2.symm
    | false =>rw[hb,cond_false]at h2;rw[cond_false,hB.ok (by omega),ak];exact⟨⟨trivial,h32,i+1,rfl,by omega,hB.put (pR _ 0),.inr ⟨hk,h2⟩⟩,hM⟩
  ·rw[dF (show ¬ (i:Int)<(v1.kids.length:Int) by omega),cond_false,hB.done (by decide)];refine fin ?_;rcases h2 with⟨hk,h2⟩ | ⟨hk,h2⟩
   ·rw[<- h2,abb (by omega)];rfl
   ·rw[<- h2,abb (show v1.keys.length<=i by have:=h3 hk;omega)];rfl
def wE(n:An)(k:Int):An:=bif decide (k<5)then EN n k else bif k==5 then DV n else bif(bif k==6 then true else k==7)then rH n (k==6)else bif k==8 then jS n else bif k==9 then ze n else bif k==10 then zf n else bif k==11 then MW n else bif k==12 then wu n else Bv n
def vH(n:An)(k:Int):Bool:=bif decide (k<5)then Hw n k else bif k==5 then H8 n else bif(bif k==6 then true else k==7)then Ae n (k==6)else bif k==8 then rZ n else bif k==9 then Bz n else bif k==10 then BA n else bif k==11 then MX n else bif k==12 then EO n else Bw n
structure Rz (n:An):Prop where
 kz:Kz n
 keys:n.keys.length<=1000
 kids:n.kids.length<=1000
 h3:n.kind=3->n.keys.length=n.kids.length
 kd:n.kind<=3
 kl:∀s∈n.keys,s.length<=1000
 ky:∀y∈n.kids,Kz y
 ef:fit (je n)=true
 ew:(je n).kind=3->wg 10000 12 (je n)=true
 tk:(aG n bR).kids.length<=1000
 tt:∀s∈bJ (aG n bR),s.length<=10000
theorem amK(n:An)(k:Int)(h:Rz n):DN n k=some (wE n k,vH n k):=by refine dh rfl ?_;have l1:n.text.length<=1000000:=Nat.le_trans h.kz.text (by decide);have l2:n.kids.length<=1000000:=Nat.le_trans h.kids (by decide);simp only[aK,aW,wh,aQ,atz n k l1,amG n l1 l2,amH n (k==6) h.h3 h.keys h.kids (fun y hy=>(h.ky y hy).text),afW n h.keys h.kids,amJ n h.h3 h.kd h.kl h.ky,akN n h.h3 h.kd h.ky,aqU n h.h3 h.keys h.kids (fun y hy=>(h.ky y hy).KE),agO n h.ef h.ew,akL n h.kz.KE (fun k=>Nat.le_trans (h.kz.SK k) (by decide)) h.tk h.tt,aD];unfold wE vH;grind
def YX:List (anY):=[ad8,aea,aeb,ad9,ad6,ad7,aad,aae,O8,aaf,O7,aag,aah,aai]
def nbG:List (anY)->Nat->anY->Int
 | [],_,s=>bif s==SC then 8 else -1
 | a::t,i,s=>bif a==s then(i:Int)else nbG t (i+1) s
def uz(s:anY):Int:=nbG YX 0 s
theorem akO(s:anY):Cy s=some (uz s):=by
 refine iB rfl (fun | .e y=>y=s | .h0 v0 v1 v2=>v0=s/\v1=YX/\∃i:Nat,v2=(i:Int)/\i<=14/\nbG (YX.drop i) i s=uz s) (fun | .e _=>10000 | .h0 _ _ v2=>(14-v2).toNat) rfl (by show 10000<_;omega) ?_;rintro(y | ⟨v0,v1,v2⟩) hs'
 ·cases hs';exact⟨⟨rfl,rfl,0,rfl,by decide,rfl⟩,by show(14-0:Int).toNat<10000;decide⟩
 ·obtain⟨rfl,rfl,i,rfl,h1,h2⟩:=hs';simp only[aK,aW,uI];by_cases hi:i<14
  ·have hl:i<YX.length:=hi;have e1:au ((i:Int)+1)=((i+1:Nat):Int):=by rw[aT (by omega) (by omega)];omega
   have hg:YX.getD i (Df.d:anY)=YX[i]:=by rw[List.getD,aaO hl];rfl
   rw[<- abJ hl,nbG]at h2;rw[dT (show(i:Int)<(YX.length:Int) by show(i:Int)<14;omega),cond_true,wI];grind
  ·rw[abb (show YX.length<=i by show 14<=i;omega),nbG]at h2;rw[dF (show ¬ (i:Int)<(YX.length:Int) by show ¬ (i:Int)<14;omega),cond_false];change (bif v0==SC then(8:Int)=uz v0 else(-1:Int)=uz v0);rw[<- h2];cases v0==SC<;>rfl
theorem TQ(s:anY):ug s=some (ML s):=by
 refine dh rfl ?_;simp only[aK,aW,uf];have hf:ML s=[120,45].isPrefixOf s:=rfl
 match s,hf with
 | [],hf=>exact hf.symm
 | [a],hf=>rw[hf];simp[List.isPrefixOf,ak]
 | a::b::t,hf =>have h2:decide ((2:Int)<=((a::b::t).length:Int))=true:=dT (by simp only[List.length_cons];omega);have hc:cut (a::b::t) 0 2=[a,b]:=rfl;rw[h2,hc];simp only[show decide ((0:Int)<=0)=true from rfl,show decide ((0:Int)<=2)=true from rfl,acf,aci,ak,cond_true];grind
theorem M7{B:Nat}:∀(m n:Nat) (x:An),wg B n x=true->wg B n (aL m x)=true
 | 0,_,_,h=>h
 | _+1,0,_,h=>by cases h
 | m+1,n+1,x,h=>by
  have hx:=dQ.1 h;unfold aL;by_cases h3:x.kind=3
  ·have hl:=Pl.sw x.keys;rw[jL h3,cond_true];refine dQ.2 ⟨by show(Pl.bn x.keys).length<=_;omega,by show((Pl.bn x.keys).map _).length<=_;rw[List.length_map];omega,fun _=>by simp,fun y hy=>?_⟩;obtain⟨k,hk,rfl⟩:=List.mem_map.1 hy;exact M7 m n _ (Gj h (U6 h h3 (Pl.jY.1 hk)))
  ·rw[eT h3,cond_false];refine dQ.2 ⟨aa4 _,by show(x.kids.map _).length<=_;rw[List.length_map];exact hx.2.1,fun e=>absurd e h3,fun y hy=>?_⟩;obtain⟨z,hz,rfl⟩:=List.mem_map.1 hy;exact M7 m n z (hx.2.2.2 z hz)
def rJ:List (anY)->List An->An->jD
 | k::ks,v::vs,o=>bif ML k then rJ ks vs o else bif decide (uz k<0)then⟨zn,k,10⟩else bif v.kind==0 then rJ ks vs o else bif !(vH v (uz k))then⟨zn,k,10⟩else rJ ks vs (bg o k (wE v (uz k)))
 | _,_,o=>⟨aL 13 o,[],0⟩
def uD(n:An):jD:=bif(bif n.kind != 0 then n.kind != 3 else false)then⟨zn,[],10⟩else rJ n.keys n.kids ⟨3,[],[],[]⟩
def Rf1(v:An):Prop:=Rz v/\∀k,wg 10000 12 (wE v k)=true
theorem agP(n:An)(hk:n.keys.length<=1000)(h0:n.kind=0->n.keys=[])(h3:n.kind=3->n.keys.length=n.kids.length)(hy:∀y∈n.kids,Rf1 y):Bg n=some (uD n):=by
 refine iB rfl (fun | .e y=>y=n | .h0 v0 v1 _ _ _ _ v6=>v1=n/\n.keys.length<=n.kids.length/\∃i:Nat,v0=(i:Int)/\i<=n.keys.length/\Bo 12 i v6/\rJ (n.keys.drop i) (n.kids.drop i) v6=uD n) (fun | .e _=>10000000000 | .h0 v0 _ _ _ _ _ _=>((n.keys.length:Int)-v0).toNat) rfl (by show 10000000000<_;omega) ?_;have hz:(⟨0,[],[],[]⟩:An)=zn:=rfl;rintro(y | ⟨v0,v1,v2,v3,v4,v5,o⟩) hs'
 ·have hs':y=n:=hs';subst hs';simp only[aK,aW,nY];have e:uD y=bif(bif y.kind != 0 then y.kind != 3 else false)then⟨zn,[],10⟩else rJ y.keys y.kids ⟨3,[],[],[]⟩:=rfl
  cases hc:(bif y.kind != 0 then y.kind != 3 else false)with
  | true=>rw[hc]at e;exact e.symm
  | false =>
   rw[hc]at e;rw[cond_false];refine⟨⟨trivial,?_,0,rfl,aa4 _,Bo.nil (.inr rfl),e.symm⟩,?_⟩
   ·grind
   grind
 ·obtain⟨rfl,hle,i,rfl,h1,hB,h2⟩:=hs';simp only[aK,aW,nY,aQ,TQ,akO,aD];by_cases hi:i<v1.keys.length
  ·have hj:i<v1.kids.length:=by omega
   have e1:au ((i:Int)+1)=((i+1:Nat):Int):=by rw[aT (by omega) (by omega)];omega
   have hg:v1.keys.getD i (Df.d:anY)=v1.keys[i]:=by rw[List.getD,aaO hi];rfl
   have hg2:v1.kids.getD i (Df.d:An)=v1.kids[i]:=by rw[List.getD,aaO hj];rfl
   have kb:fU v1.keys (i:Int)=true:=by simp[fU];omega
   have kb2:fU v1.kids (i:Int)=true:=by simp[fU];omega
   have hM:((v1.keys.length:Int)-((i+1:Nat):Int)).toNat<((v1.keys.length:Int)-(i:Int)).toNat:=by omega
   obtain⟨y1,y2⟩:=hy _ (acw hj);rw[<- abJ hi,<- abJ hj,rJ]at h2;rw[dT (show(i:Int)<(v1.keys.length:Int) by omega),cond_true,wI];refine⟨by omega,by omega,?_⟩;rw[aaY,hg,e1,kb,kb2];simp only[ak];generalize v1.keys[i]=k at h2 ⊢;cases hf:ML k with
   | true =>rw[hf,cond_true]at h2;exact⟨⟨trivial,hle,i+1,rfl,by omega,⟨hB.kind,hB.len,by have:=hB.le;omega,hB.kids⟩,h2⟩,hM⟩
   | false =>
    rw[hf,cond_false]at h2;rw[cond_false];cases hn:decide (uz k<0)with
    | true=>rw[hn]at h2;exact h2
    | false =>
     rw[hn,cond_false]at h2;rw[cond_false,wI];refine⟨by omega,by omega,?_⟩;rw[aaY,hg2];generalize v1.kids[i]=v at y1 y2 h2 ⊢;cases hk0:v.kind==0 with
     | true =>rw[hk0,cond_true]at h2;exact⟨⟨trivial,hle,i+1,rfl,by omega,⟨hB.kind,hB.len,by have:=hB.le;omega,hB.kids⟩,h2⟩,hM⟩
     | false =>
      rw[hk0,cond_false]at h2;rw[cond_false,amK v (uz k) y1];simp only[aD];cases hb:vH v (uz k)with
      | false=>rw[hb]at h2;exact h2
      | true =>rw[hb]at h2;rw[ab7,cond_false,hB.ok (by omega),ak];exact⟨⟨trivial,hle,i+1,rfl,by omega,hB.put (y2 _),h2⟩,hM⟩
  ·have hw:wg 10000 13 o=true:=hB.MU (by have:=hB.le;omega) o.kind o.text;rw[dF (show ¬ (i:Int)<(v1.keys.length:Int) by omega),cond_false,hw,ak,<- h2,abb (by omega)];rfl
theorem atC(n:An)(hk:n.keys.length<=1000)(hy:∀y∈n.kids,Rf1 y):wg 10000 13 (uD n).n=true:=by
 have go:∀(ks:List (anY)) (vs:List An) (o:An) (L:Nat),(∀y∈vs,Rf1 y)->Bo 12 L o->L+ks.length<=5000->wg 10000 13 (rJ ks vs o).n=true:=by
  intro ks
  induction ks with
  | nil=>intro vs o L _ hB hL;exact M7 13 13 o (hB.MU (by have:=hB.le;simp only[List.length_nil]at hL;omega) o.kind o.text)
  | cons k ks ih =>
   intro vs o L hv hB hL;rw[List.length_cons]at hL;cases vs with
   | nil=>exact M7 13 13 o (hB.MU (by have:=hB.le;omega) o.kind o.text)
   | cons v vs =>
    rw[rJ];have hz:wg 10000 13 (⟨zn,k,10⟩:jD).n=true:=rfl;have hv':=fun y hy=>hv y (abD _ hy)
    have hB':Bo 12 (L+1) o:=⟨hB.kind,hB.len,by have:=hB.le;omega,hB.kids⟩
    cases ML k with
    | true=>exact ih vs o (L+1) hv' hB' (by omega)
    | false =>
     cases decide (uz k<0)with
     | true=>exact hz
     | false =>
      cases v.kind==0 with
      | true=>exact ih vs o (L+1) hv' hB' (by omega)
      | false =>
       cases vH v (uz k)with
       | false=>exact hz
       | true=>exact ih vs _ (L+1) hv' (hB.put ((hv v abI).2 _)) (by omega)
 unfold uD;cases(bif n.kind != 0 then n.kind != 3 else false)with
 | true=>rfl
 | false=>exact go n.keys n.kids _ 0 hy (Bo.nil (.inr rfl)) (by omega)
def C9(k:anY):anY:=[115,101,114,118,105,99,101,115,46]++k
def mZ:List (anY)->List An->An->jD
 | k::ks,v::vs,o=>bif !(bP fV k)then⟨zn,bif k==[]then jw else C9 k,10⟩else bif(uD v).e != 0 then⟨zn,bif !((uD v).path==[])then(C9 k++[46])++(uD v).path else C9 k,(uD v).e⟩else mZ ks vs (bg o k (uD v).n)
 | _,_,o=>bif decide ((16:Int)<(o.keys.length:Int))then⟨zn,jw,9⟩else⟨aL 14 o,[],0⟩
def qp(n:An):jD:=bif n.kind != 3 then⟨zn,jw,10⟩else mZ n.keys n.kids ⟨3,[],[],[]⟩
structure Rs1 (n:An):Prop where
 keys:n.keys.length<=1000
 h0:n.kind=0->n.keys=[]
 h3:n.kind=3->n.keys.length=n.kids.length
 kids:∀y∈n.kids,Rf1 y
 kl:∀s∈n.keys,s.length<=1000
theorem awn(n:An)(hl:∀s∈n.keys,s.length<=1000):(uD n).path.length<=1000:=by
 have go:∀(ks:List (anY)) (vs:List An) (o:An),(∀s∈ks,s.length<=1000)->(rJ ks vs o).path.length<=1000:=by
  intro ks
  induction ks with
  | nil=>intro vs o _;exact aa4 _
  | cons k ks ih =>
   intro vs o h;cases vs with
   | nil=>exact aa4 _
   | cons v vs =>rw[rJ];grind
 unfold uD;grind
theorem aef(n:An)(hk:n.keys.length<=1000)(h3:n.kind=3->n.keys.length=n.kids.length)(hl:∀s∈n.keys,s.length<=1000)(hy:∀y∈n.kids,Rs1 y):Aq n=some (qp n):=by
 refine iB rfl (fun | .e y=>y=n | .h0 v0 v1 _ _ _ _ v6=>v1=n/\n.kind=3/\∃i:Nat,v0=(i:Int)/\i<=n.keys.length/\Bo 13 i v6/\mZ (n.keys.drop i) (n.kids.drop i) v6=qp n) (fun | .e _=>10000000000 | .h0 v0 _ _ _ _ _ _=>((n.keys.length:Int)-v0).toNat) rfl (by show 10000000000<_;omega) ?_;rintro(y | ⟨v0,v1,v2,v3,v4,v5,o⟩) hs'
 ·have hs':y=n:=hs';subst hs';simp only[aK,mY];have e:qp y=bif y.kind != 3 then⟨zn,jw,10⟩else mZ y.keys y.kids ⟨3,[],[],[]⟩:=rfl
  by_cases hc:y.kind=3
  ·rw[kZ hc]at e ⊢;rw[cond_false];refine⟨⟨trivial,hc,0,rfl,aa4 _,Bo.nil (.inr rfl),e.symm⟩,?_⟩;show((y.keys.length:Int)-0).toNat<10000000000;omega
  ·rw[jK hc]at e ⊢;exact e.symm
 ·obtain⟨rfl,hk3,i,rfl,h1,hB,h2⟩:=hs';have hkk:=h3 hk3;simp only[aK,aW,mY,aQ];by_cases hi:i<v1.keys.length
  ·have hj:i<v1.kids.length:=by omega
   have e1:au ((i:Int)+1)=((i+1:Nat):Int):=by rw[aT (by omega) (by omega)];omega
   have hg:v1.keys.getD i (Df.d:anY)=v1.keys[i]:=by rw[List.getD,aaO hi];rfl
   have hg2:v1.kids.getD i (Df.d:An)=v1.kids[i]:=by rw[List.getD,aaO hj];rfl
   have kb:fU v1.keys (i:Int)=true:=by simp[fU];omega
   have hM:((v1.keys.length:Int)-((i+1:Nat):Int)).toNat<((v1.keys.length:Int)-(i:Int)).toNat:=by omega
   have yi:=hy _ (acw hj);have ki:=hl _ (acw hi);rw[<- abJ hi,<- abJ hj,mZ]at h2;rw[dT (show(i:Int)<(v1.keys.length:Int) by omega),cond_true,wI];refine⟨by omega,by omega,?_⟩;rw[aaY,hg,e1,kb];simp only[ak];generalize v1.keys[i]=k at h2 ki ⊢;change (bif !(bP fV k)then ck (decide (([115,101,114,118,105,99,101,115,46]:anY).length+k.length<=aA)) False (bif k==[]then(⟨zn,jw,10⟩:jD)=qp v1 else(⟨zn,C9 k,10⟩:jD)=qp v1)else _);rw[dT (show([115,101,114,118,105,99,101,115,46]:anY).length+k.length<=aA by rw[ms];show 9+_<=_;omega),ak];cases hn : !(bP fV k)with
   | true =>rw[hn,cond_true]at h2;rw[cond_true,<- h2];cases k==[]<;>rfl
   | false =>
    rw[hn,cond_false]at h2;rw[cond_false,wI];refine⟨by omega,by omega,?_⟩;rw[aaY,hg2];have hp:=awn v1.kids[i] yi.kl;have hw:=atC v1.kids[i] yi.keys yi.kids;rw[agP _ yi.keys yi.h0 yi.h3 yi.kids];simp only[aD];generalize uD v1.kids[i]=F at h2 hp hw ⊢;have l1:(C9 k).length=9+k.length:=by unfold C9;rw[List.length_append];rfl
    have c1:decide ((C9 k).length+([46]:anY).length<=aA)=true:=dT (by rw[ms,l1,aa9];omega);have c2:decide ((C9 k++[46]).length+F.path.length<=aA)=true:=dT (by rw[ms,List.length_append,l1,aa9];omega);cases he:F.e != 0 with
    | true =>rw[he,cond_true]at h2;change (bif !(F.path==[])then ck (decide ((C9 k).length+([46]:anY).length<=aA)) False (ck (decide ((C9 k++[46]).length+F.path.length<=aA)) False ((⟨zn,(C9 k++[46])++F.path,F.e⟩:jD)=qp v1))else(⟨zn,C9 k,F.e⟩:jD)=qp v1);rw[c1,c2,ak,ak,<- h2];cases !(F.path==[])<;>rfl
    | false =>rw[he,cond_false]at h2;rw[cond_false,hB.ok (by omega),ak];exact⟨⟨trivial,hk3,i+1,rfl,by omega,hB.put hw,h2⟩,hM⟩
  ·have hw:wg 10000 14 o=true:=hB.MU (by have:=hB.le;omega) o.kind o.text;rw[dF (show ¬ (i:Int)<(v1.keys.length:Int) by omega),cond_false,hw,ak,<- h2,abb (by omega)];show(bif decide ((16:Int)<(o.keys.length:Int))then(⟨zn,jw,9⟩:jD)=mZ [] _ o else(⟨aL 14 o,[],0⟩:jD)=mZ [] _ o);rw[mZ]
   ·cases decide ((16:Int)<(o.keys.length:Int))<;>rfl
   ·intro _ _ _ _ h;cases h
theorem azh(n:An)(hk:n.keys.length<=1000)(hy:∀y∈n.kids,Rs1 y):wg 10000 14 (qp n).n=true:=by
 have go:∀(ks:List (anY)) (vs:List An) (o:An) (L:Nat),(∀y∈vs,Rs1 y)->Bo 13 L o->L+ks.length<=5000->wg 10000 14 (mZ ks vs o).n=true:=by
  have fin:∀(o:An) (L:Nat),Bo 13 L o->L<=5000->wg 10000 14 (bif decide ((16:Int)<(o.keys.length:Int))then(⟨zn,jw,9⟩:jD)else⟨aL 14 o,[],0⟩).n=true:=fun o L hB hL=>by
   cases decide ((16:Int)<(o.keys.length:Int))with
   | true=>rfl
   | false=>exact M7 14 14 o (hB.MU (by have:=hB.le;omega) o.kind o.text)
  intro ks
  induction ks with
  | nil=>intro vs o L _ hB hL;rw[mZ];exact fin o L hB (by simp only[List.length_nil]at hL;omega);intro _ _ _ _ h;cases h
  | cons k ks ih =>
   intro vs o L hv hB hL;rw[List.length_cons]at hL;cases vs with
   | nil=>rw[mZ];exact fin o L hB (by omega);intro _ _ _ _ _ h;cases h
   | cons v vs =>
    rw[mZ];cases !(bP fV k)with
    | true=>rfl
    | false =>
     cases(uD v).e != 0 with
     | true=>rfl
     | false =>have yv:=hv v abI;exact ih vs _ (L+1) (fun y hy=>hv y (abD _ hy)) (hB.put (atC v yv.keys yv.kids)) (by omega)
 unfold qp;cases n.kind != 3 with
 | true=>rfl
 | false=>exact go n.keys n.kids _ 0 hy (Bo.nil (.inr rfl)) (by omega)
def wD(k:anY)(v:An):jD:=bif k==jw then qp v else bif k==Kv then(bif(bif v.kind != 1 then true else !(bP CV v.text))then⟨zn,k,10⟩else⟨v,[],0⟩)else(bif !(rZ v)then⟨zn,k,10⟩else⟨jS v,[],0⟩)
def yc:List (anY)->List An->An->jD
 | k::ks,v::vs,o=>bif ML k then yc ks vs o else bif YR k then⟨zn,k,10⟩else bif v.kind==0 then yc ks vs o else bif(wD k v).e != 0 then wD k v else yc ks vs (bg o k (wD k v).n)
 | _,_,o=>bif !(lg (aL 15 o))then⟨zn,[],9⟩else⟨aL 15 o,[],0⟩
def rM(n:An):jD:=bif(bif n.kind != 0 then n.kind != 3 else false)then⟨zn,[],10⟩else yc n.keys n.kids ⟨3,[],[],[]⟩
structure Rp1 (v:An):Prop where
 keys:v.keys.length<=1000
 kids:v.kids.length<=1000
 h3:v.kind=3->v.keys.length=v.kids.length
 kl:∀s∈v.keys,s.length<=1000
 ser:∀y∈v.kids,Rs1 y
 MU:wg 10000 14 v=true
 set:wg 10000 14 (jS v)=true
theorem aBl{k:anY}{v:An}(h:Rp1 v):wg 10000 14 (wD k v).n=true:=by
 unfold wD;cases k==jw with
 | true=>exact azh v h.keys h.ser
 | false =>
  cases k==Kv with
  | true =>
   cases(bif v.kind != 1 then true else !(bP CV v.text))with
   | true=>rfl
   | false=>exact h.MU
  | false =>
   cases !(rZ v)with
   | true=>rfl
   | false=>exact h.set
theorem aqV(n:An)(hk:n.keys.length<=1000)(h0:n.kind=0->n.keys=[])(h3:n.kind=3->n.keys.length=n.kids.length)(hy:∀y∈n.kids,Rp1 y):kC n=some (rM n):=by
 refine iB rfl (fun | .e y=>y=n | .h0 v0 v1 _ _ _ _ v6=>v1=n/\n.keys.length<=n.kids.length/\∃i:Nat,v0=(i:Int)/\i<=n.keys.length/\Bo 14 i v6/\yc (n.keys.drop i) (n.kids.drop i) v6=rM n) (fun | .e _=>10000000000 | .h0 v0 _ _ _ _ _ _=>((n.keys.length:Int)-v0).toNat) rfl (by show 10000000000<_;omega) ?_;rintro(y | ⟨v0,v1,v2,v3,v4,v5,o⟩) hs'
 ·have hs':y=n:=hs';subst hs';simp only[aK,aW,qY];have e:rM y=bif(bif y.kind != 0 then y.kind != 3 else false)then⟨zn,[],10⟩else yc y.keys y.kids ⟨3,[],[],[]⟩:=rfl
  cases hc:(bif y.kind != 0 then y.kind != 3 else false)with
  | true=>rw[hc]at e;exact e.symm
  | false =>
   rw[hc]at e;rw[cond_false];refine⟨⟨trivial,?_,0,rfl,aa4 _,Bo.nil (.inr rfl),e.symm⟩,?_⟩
   ·grind
   ·show((y.keys.length:Int)-0).toNat<10000000000;omega
 ·obtain⟨rfl,hle,i,rfl,h1,hB,h2⟩:=hs';simp only[aK,aW,qY,aQ,TQ,aD];by_cases hi:i<v1.keys.length
  ·have hj:i<v1.kids.length:=by omega
   have e1:au ((i:Int)+1)=((i+1:Nat):Int):=by rw[aT (by omega) (by omega)];omega
   have hg:v1.keys.getD i (Df.d:anY)=v1.keys[i]:=by rw[List.getD,aaO hi];rfl
   have hg2:v1.kids.getD i (Df.d:An)=v1.kids[i]:=by rw[List.getD,aaO hj];rfl
   have hM:((v1.keys.length:Int)-((i+1:Nat):Int)).toNat<((v1.keys.length:Int)-(i:Int)).toNat:=by omega
   have yi:=hy _ (acw hj);have hBu:Bo 14 (i+1) o:=⟨hB.kind,hB.len,by have:=hB.le;omega,hB.kids⟩
   rw[<- abJ hi,<- abJ hj,yc]at h2;rw[dT (show(i:Int)<(v1.keys.length:Int) by omega),cond_true,wI];refine⟨by omega,by omega,?_⟩;rw[aaY,hg,wI];refine⟨by omega,by omega,?_⟩;rw[aaY,hg2,e1];generalize v1.keys[i]=k at h2 ⊢;generalize v1.kids[i]=v at yi h2 ⊢;have hwf:=aBl (k:=k) yi;cases hf:ML k with
   | true =>rw[hf,cond_true]at h2;exact⟨⟨trivial,hle,i+1,rfl,by omega,hBu,h2⟩,hM⟩
   | false =>
    rw[hf,cond_false]at h2;rw[cond_false];have eK:(bif(bif(bif(!(k==([110,97,109,101]:anY)))then(!(k==([115,101,114,118,105,99,101,115]:anY)))else false)then(!(k==([110,101,116,119,111,114,107,115]:anY)))else false)then(!(k==([118,111,108,117,109,101,115]:anY)))else false)=YR k:=rfl;have eS:([115,101,114,118,105,99,101,115]:anY)=jw:=rfl;have eN:([110,97,109,101]:anY)=Kv:=rfl;rw[eK,eS,eN];cases hn:YR k with
    | true=>rw[hn]at h2;exact h2
    | false =>
     rw[hn,cond_false]at h2;rw[cond_false];cases hk0:v.kind==0 with
     | true =>rw[hk0,cond_true]at h2;exact⟨⟨trivial,hle,i+1,rfl,by omega,hBu,h2⟩,hM⟩
     | false =>
      rw[hk0,cond_false]at h2;rw[cond_false];unfold wD at h2 hwf;cases hks:k==jw with
      | true =>
       rw[hks]at h2 hwf;simp only[cond_true]at h2 hwf;rw[cond_true,aef v yi.keys yi.h3 yi.kl yi.ser];simp only[aD];cases he:(qp v).e != 0 with
       | true=>rw[he]at h2;exact h2
       | false =>rw[he,cond_false]at h2;rw[cond_false,hB.ok (by omega),ak];exact⟨⟨trivial,hle,i+1,rfl,by omega,hB.put hwf,h2⟩,hM⟩
      | false =>
       rw[hks]at h2 hwf;simp only[cond_false]at h2 hwf;rw[cond_false];cases hkn:k==Kv with
       | true =>
        rw[hkn]at h2 hwf;simp only[cond_true]at h2 hwf;rw[cond_true];cases hb:(bif v.kind != 1 then true else !(bP CV v.text))with
        | true=>rw[hb]at h2;exact h2
        | false =>rw[hb]at h2;rw[cond_false,hB.ok (by omega),ak];exact⟨⟨trivial,hle,i+1,rfl,by omega,hB.put yi.MU,h2⟩,hM⟩
       | false =>
        rw[hkn]at h2 hwf;simp only[cond_false]at h2 hwf;rw[cond_false,afW v yi.keys yi.kids];simp only[aD];cases hb:rZ v with
        | false=>rw[hb]at h2;exact h2
        | true =>rw[hb]at h2;rw[ab7,cond_false,hB.ok (by omega),ak];exact⟨⟨trivial,hle,i+1,rfl,by omega,hB.put yi.set,h2⟩,hM⟩
  ·have hw:wg 10000 15 o=true:=hB.MU (by have:=hB.le;omega) o.kind o.text;rw[abb (by omega)]at h2;rw[dF (show ¬ (i:Int)<(v1.keys.length:Int) by omega),cond_false,hw,ak,<- h2];rw[yc]
   ·cases !(lg (aL 15 o))<;>rfl
   ·intro _ _ _ _ h;cases h
def kd:Nat->An->Bool
 | 0,_=>false
 | n+1,x=>decide (0<=x.kind)&&decide (x.kind<=3)&&decide (x.kind≠3->x.keys.length=0)&&decide (x.kind<2->x.kids.length=0)&&x.kids.all (kd n)
theorem Hz{n:Nat}{x:An}:kd (n+1) x=true↔((0<=x.kind/\x.kind<=3)/\(x.kind≠3->x.keys.length=0))/\(x.kind<2->x.kids.length=0)/\∀y∈x.kids,kd n y=true:=by simp only[kd,abK,ab6,afE];grind
theorem aon:∀{n:Nat} {x:An} (k:Nat),kd n x=true->kd (n+k) x=true
 | 0,_,_,h=>by cases h
 | n+1,x,k,h=>by have:=Hz.1 h;rw[Nat.add_right_comm];exact Hz.2 ⟨this.1,this.2.1,fun y hy=>aon k (this.2.2 y hy)⟩
theorem aeg{k:anY}:∀{ks:List (anY)} {vs:List An},ks.length=vs.length->k∉ks->lk ks vs k=none
 | [],[],_,_=>rfl
 | a::t,v::w,h,hn=>by unfold lk;rw[if_neg (fun e=>hn (by rw[e];exact abI))];exact aeg (by simpa using h) (fun hm=>hn (abD _ hm))
 | [],_::_,h,_=>by simp at h
 | _::_,[],h,_=>by simp at h
theorem atE{k:anY}:∀{ks:List (anY)} {vs:List An} {v:An},lk ks vs k=some v->k∈ks
 | a::t,x::w,v,h=>by
  unfold lk at h;split at h
  ·rename_i e;rw[e];exact abI
  ·exact abD _ (atE h)
 | [],_,_,h=>by cases h
 | _::_,[],_,h=>by cases h
theorem akP{k:anY}(g:anY->An):∀(ks:List (anY)),k∈ks->lk ks (ks.map g) k=some (g k)
 | a::t,h=>by
  simp only[afu,lk];by_cases e:k=a
  ·rw[if_pos e,e]
  ·rw[if_neg e];exact akP g t ((am8.1 h).resolve_left e)
 | [],h=>by cases h
theorem atF{k:anY}:∀(ks:List (anY)) (vs:List An) (ks':List (anY)) (vs':List An),ks.length=vs.length->lk (ks++ks') (vs++vs') k=(match lk ks vs k with | some v=>some v | none=>lk ks' vs' k)
 | [],[],_,_,_=>rfl
 | a::t,v::w,ks',vs',h=>by
  simp only[aft,lk];by_cases e:k=a
  ·rw[if_pos e,if_pos e]
  ·rw[if_neg e,if_neg e];exact atF t w ks' vs' (by simpa using h)
 | [],_::_,_,_,h=>by simp at h
 | _::_,[],_,_,h=>by simp at h
theorem akQ(k:anY)(v:An)(k':anY):∀(ks:List (anY)) (vs:List An),ks.length=vs.length->lk ks (oO k v ks vs) k'=(if k'=k then(if k∈ks then some v else none)else lk ks vs k')
 | [],[],_=>by simp[lk]
 | a::t,x::w,h=>by have ih:=akQ k v k' t w (by simpa using h);simp only[oO,lk];grind
 | [],_::_,h=>by simp at h
 | _::_,[],h=>by simp at h
theorem jF{l:List (anY)}{s:anY}:fO l s=true↔s∈l:=by unfold fO;grind
theorem akR{x:An}{k:anY}{v:An}(hk:x.kind=0\/x.kind=3)(h:x.keys.length=x.kids.length)(k':anY) :
  lk (bg x k v).keys (bg x k v).kids k'=(if k'=k then some v else lk x.keys x.kids k'):=by
 have hc:(bif x.kind != 0 then x.kind != 3 else false)=false:=by rcases hk with e | e<;>rw[e]<;>rfl
 unfold bg;rw[hc];simp only[cond_false];rw[atF _ _ _ _ (Vz k v x.keys x.kids h).symm,akQ k v k' x.keys x.kids h];by_cases hm:k∈x.keys
 ·rw[jF.2 hm];by_cases e:k'=k
  ·rw[if_pos e,if_pos hm,if_pos e]
  ·rw[if_neg e,if_neg e];simp only[CX,newV,cond_true];cases lk x.keys x.kids k'<;>rfl
 ·have hb:fO x.keys k=false:=by
   cases h2:fO x.keys k with
   | false=>rfl
   | true=>exact absurd (jF.1 h2) hm
  rw[hb];simp only[CX,newV,cond_false];by_cases e:k'=k
  ·rw[if_pos e,if_neg hm,if_pos e];simp[lk,e]
  ·rw[if_neg e,if_neg e];cases hl:lk x.keys x.kids k' with
   | some y=>rfl
   | none=>simp[lk,e]
theorem SL(k:anY)(v:An):∀(ks:List (anY)) (vs:List An),ks.length=vs.length->k∉ks->oO k v ks vs=vs
 | [],[],_,_=>rfl
 | a::t,x::w,h,hn=>by
  have hb:(a==k)=false:=by simpa using fun e:a=k=>hn (by rw[e];exact abI)
  simp only[oO,hb,cond_false];rw[SL k v t w (by simpa using h) (fun hm=>hn (abD _ hm))]
 | [],_::_,h,_=>by simp at h
 | _::_,[],h,_=>by simp at h
theorem aeh(k:anY):∀(ks:List (anY)) (i:Nat),k∈ks->∃j:Nat,AQ k i ks=((i+j:Nat):Int)
 | [],_,h=>by cases h
 | a::t,i,h=>by
  unfold AQ;by_cases e:k=a
  ·rw[if_pos e];exact⟨0,by simp⟩
  ·rw[if_neg e];obtain⟨j,hj⟩:=aeh k t (i+1) ((am8.1 h).resolve_left e);exact⟨j+1,by rw[hj];congr 1;omega⟩
theorem aoo(k:anY):∀(ks:List (anY)) (i:Nat),k∉ks->AQ k i ks = -1
 | [],_,_=>rfl
 | a::t,i,h=>by unfold AQ;rw[if_neg (fun e=>h (by rw[e];exact abI))];exact aoo k t (i+1) (fun hm=>h (abD _ hm))
theorem axW(k:anY)(v:An):∀(ks:List (anY)) (vs:List An) (i:Nat),ks.length=vs.length->ks.Nodup->k∈ks->vs.set ((AQ k i ks).toNat-i) v=oO k v ks vs
 | [],_,_,_,_,h=>by cases h
 | a::t,x::w,i,hl,hn,hm=>by
  have hn':=List.nodup_cons.1 hn;unfold AQ;by_cases e:k=a
  ·subst e;rw[if_pos rfl];simp only[oO,beq_self_eq_true,cond_true,aaY,Nat.sub_self,List.set_cons_zero];rw[SL k v t w (by simpa using hl) hn'.1]
  ·have hb:(a==k)=false:=by simpa using fun h:a=k=>e h.symm
   rw[if_neg e];have hm':=(am8.1 hm).resolve_left e;obtain⟨j,hj⟩:=aeh k t (i+1) hm';have ih:=axW k v t w (i+1) (by simpa using hl) hn'.2 hm';rw[hj,aaY]at ih;rw[hj,aaY];have e2:i+1+j-i=j+1:=by omega
   have e3:i+1+j-(i+1)=j:=by omega
   rw[e3]at ih;rw[e2,List.set_cons_succ,ih];simp only[oO,hb,cond_false]
 | _::_,[],_,h,_,_=>by simp at h
theorem aap{o:An}{k:anY}{v:An}(hk:o.kind=0\/o.kind=3)(hl:o.keys.length=o.kids.length)(hn:o.keys.Nodup):aY o k v=bg o k v:=by
 have hc:(bif o.kind != 3 then o.kind != 0 else false)=false:=by rcases hk with e | e<;>rw[e]<;>rfl
 have hc':(bif o.kind != 0 then o.kind != 3 else false)=false:=by rcases hk with e | e<;>rw[e]<;>rfl
 unfold aY bg;rw[hc,hc',cond_false,cond_false];by_cases hm:k∈o.keys
 ·obtain⟨j,hj⟩:=aeh k o.keys 0 hm;have h0:0<=index o.keys k:=by unfold index;rw[hj];omega
  have hs:=axW k v o.keys o.kids 0 hl hn hm;rw[am6]at hs;have hs:o.kids.set (index o.keys k).toNat v=oO k v o.keys o.kids:=hs;rw[dT h0,cond_true,hs,jF.2 hm];simp[CX,newV]
 ·have h0:¬ 0<=index o.keys k:=by unfold index;rw[aoo k o.keys 0 hm];decide
  have hb:fO o.keys k=false:=by
   cases h2:fO o.keys k with
   | false=>rfl
   | true=>exact absurd (jF.1 h2) hm
  rw[dF h0,cond_false,hb,SL k v o.keys o.kids hl hm];simp[CX,newV]
theorem atG:Pl.bn []=[]:=Pl.tJ List.Pairwise.nil fun _=>Iff.rfl
theorem M8:∀(n:Nat) (x:An),wg 10000 n x=true->kd n x=true->dS n x=aL n x
 | 0,_,h,_=>by cases h
 | n+1,x,hw,hk=>by
  have w:=dQ.1 hw;have k:=Hz.1 hk;simp only[dS,aL];by_cases h0:x.kids.length=0
  ·rw[jL (show(x.kids.length:Int)=0 by omega),cond_true];have aqW:x.kids=[]:=aeP h0;by_cases h3:x.kind=3
   ·have hkeys:x.keys=[]:=aeP (by rw[w.2.2.1 h3];exact h0);rw[jL h3,cond_true,hkeys,atG,afM]
    conv=>lhs;rw[<- fP x,hkeys,aqW]
   ·have hkeys:x.keys=[]:=aeP (k.1.2 h3);rw[eT h3,cond_false,aqW,afM]
    conv=>lhs;rw[<- fP x,hkeys,aqW]
  ·rw[eT (show(x.kids.length:Int)≠0 by omega),cond_false];by_cases h3:x.kind=3
   ·rw[kZ h3,jL h3,cond_false,cond_true];congr 1;refine ahY fun q hq=>?_
    have hg:=U6 hw h3 (Pl.jY.1 hq);exact M8 n _ (Gj hw hg) (k.2.2 _ (rA hg))
   ·rw[jK h3,eT h3,cond_true,cond_false];congr 1;exact ahY fun y hy=>M8 n y (w.2.2.2 y hy) (k.2.2 y hy)
theorem aBm(c:UInt8):(!(VF (Int.ofNat c.toNat)))=Me c true:=beq_iff_eq.1 (yA (p:=fun n=>(!(VF (Int.ofNat n)))==(bif(bif iY (Int.ofNat n)==0 then true else decide (4<iY (Int.ofNat n)))then true else(bif true then iY (Int.ofNat n)==3 else false))) (by decide +kernel) c)
theorem aBn(c:UInt8):(!(NV (Int.ofNat c.toNat)))=Me c false:=beq_iff_eq.1 (yA (p:=fun n=>(!(NV (Int.ofNat n)))==(bif(bif iY (Int.ofNat n)==0 then true else decide (4<iY (Int.ofNat n)))then true else(bif false then iY (Int.ofNat n)==3 else false))) (by decide +kernel) c)
theorem amL(s:anY):oG VF NV s=bP Me s:=akC aBm aBn s
theorem afX(s:anY)(v:Bool):Mt v s=om s v:=by
 cases v
 ·exact vF s
 ·exact amL s
theorem aqX:∀s:anY,Lib.indexByte s 61=if fi s<s.length then(fi s:Int)else -1
 | []=>rfl
 | c::t=>by
  unfold Lib.indexByte fi;have ih:=aqX t;by_cases h:c=61
  ·subst h;simp
  ·have h1:(c==61)=false:=by simpa using h
   have h2:((c.toNat:Int)!=61)=true:=by rw[bne_iff_ne];intro e;exact h (UInt8.toNat_inj.1 (by show c.toNat=61;omega))
   grind
theorem azi(s:anY):mI s OY=s.take (fi s):=by
 have h:=aqX s;unfold mI qA;rw[show OY.headD 0=61 from rfl,h];by_cases hl:fi s<s.length
 ·grind
 ·rw[if_neg hl,dF (by omega),cond_false,aeV (by omega)]
theorem azj(s:anY):qB s OY=s.drop (fi s+1):=by
 have h:=aqX s;unfold qB qA;rw[show OY.headD 0=61 from rfl,h];by_cases hl:fi s<s.length
 ·grind
 ·rw[if_neg hl,dF (by omega),cond_false,abb (by omega)]
structure Iv (ψ:anY->Prop) (φ:An->Prop) (o:An):Prop where
 kind:o.kind=0\/o.kind=3
 none_:o.kind=0->o.keys=[]
 text:o.text=[]
 len:o.keys.length=o.kids.length
 nd:o.keys.Nodup
 key:∀k∈o.keys,ψ k
 kid:∀y∈o.kids,φ y
section
variable {ψ:anY->Prop} {φ:An->Prop}
theorem Iv.nil:Iv ψ φ zn:=⟨.inl rfl,fun _=>rfl,rfl,rfl,aj7,(fun k h=>by cases h),(fun y h=>by cases h)⟩
theorem aaq{o:An}(hk:o.kind=0\/o.kind=3)(k:anY)(v:An):bg o k v=⟨3,[],o.keys++CX (fO o.keys k) k,oO k v o.keys o.kids++newV (fO o.keys k) v⟩:=by
 have hc:(bif o.kind != 0 then o.kind != 3 else false)=false:=by rcases hk with e | e<;>rw[e]<;>rfl
 unfold bg;rw[hc];rfl
theorem Ww{l:List (anY)}{k:anY}(h:k∉l):fO l k=false:=by
 cases hb:fO l k with
 | false=>rfl
 | true=>exact absurd (jF.1 hb) h
theorem FM{o:An}(hk:o.kind=0\/o.kind=3)(hl:o.keys.length=o.kids.length){k:anY}(hn:k∉o.keys)(v:An):bg o k v=⟨3,[],o.keys++[k],o.kids++[v]⟩:=by rw[aaq hk,Ww hn,SL k v o.keys o.kids hl hn];rfl
theorem Iv.put{o:An}(h:Iv ψ φ o){k:anY}{v:An}(hk:ψ k)(hv:φ v):Iv ψ φ (bg o k v):=by
 obtain⟨h1,h2,h3,h4⟩:=EY (k:=k) (v:=v) h.kind h.len;have e:=aaq h.kind k v;have ek:(bg o k v).keys=o.keys++CX (fO o.keys k) k:=by rw[e]
 refine⟨.inr h1,(fun e=>by rw[h1]at e;cases e),(by rw[e]),h2,?_,?_,?_⟩
 ·rw[ek];by_cases hm:k∈o.keys
  ·rw[jF.2 hm];simpa[CX]using h.nd
  ·rw[Ww hm];show(o.keys++[k]).Nodup;rw[List.nodup_append];exact⟨h.nd,by simp,fun a ha b hb=>by rw[List.mem_singleton.1 hb];intro e;exact hm (e▸ha)⟩
 ·rw[ek];intro q hq;rcases List.mem_append.1 hq with hq | hq
  ·exact h.key q hq
  ·cases hb:fO o.keys k with
   | true=>rw[hb]at hq;cases hq
   | false=>rw[hb]at hq;rw[List.mem_singleton.1 hq];exact hk
 ·intro y hy;rcases h4 y hy with rfl | hy
  ·exact hv
  ·exact h.kid y hy
theorem pU{k:anY}:∀{ks:List (anY)} {vs:List An},ks.length=vs.length->(lk ks vs k).isSome=fO ks k
 | [],[],_=>rfl
 | a::t,x::w,h=>by
  unfold lk;by_cases e:k=a
  ·subst e;rw[if_pos rfl];simp[fO]
  ·have:(a==k)=false:=by simpa using fun h:a=k=>e h.symm
   rw[if_neg e,pU (by simpa using h)];simp[fO,this]
 | [],_::_,h=>by simp at h
 | _::_,[],h=>by simp at h
theorem Iv.there{o:An}(h:Iv ψ φ o)(k:anY):aB o k=fO o.keys k:=by
 unfold aB get;rcases h.kind with e | e
 ·rw[if_neg (by rw[e];decide),h.none_ e];rfl
 ·rw[if_pos e];exact pU h.len
theorem Iv.with_{o:An}(h:Iv ψ φ o)(k:anY)(v:An):aY o k v=bg o k v:=aap h.kind h.len h.nd
theorem aei(f:anY->Bool):∀(l:List (anY)) (o:An),(YJ f l o true).2=true
 | [],_=>rfl
 | _::t,_=>aei f t _
theorem aej(f:anY->Bool):∀(l:List (anY)) (r:List An) (o:An),(Tw f l r o true).2=true
 | [],_,_=>rfl
 | _::_,[],_=>rfl
 | _::t,_::r,_=>aej f t r _
theorem atH{f g:anY->Bool}(hfg:∀s,f s=g s)(hψ:∀k,g k=true->ψ k):∀(l:List (anY)) (o:An),(∀s∈l,φ (bI (s.drop (fi s+1))))->Iv ψ φ o ->
  (Wp g l o=none/\(YJ f l o false).2=true)\/∃o',Wp g l o=some o'/\YJ f l o false=(o',false)/\Iv ψ φ o'
 | [],o,_,h=>.inr ⟨o,rfl,rfl,h⟩
 | s::t,o,hφ,h=>by
  unfold Wp YJ;rw[azi,azj,hfg,h.there,h.with_,cond_false];generalize s.take (fi s)=k;cases hg:g k with
  | false =>
   refine .inl ⟨rfl,?_⟩;have:(bif fO o.keys k then true else !false)=true:=by cases fO o.keys k<;>rfl
   rw[this];exact aei f t _
  | true =>
   cases hi:fO o.keys k with
   | true=>exact .inl ⟨rfl,aei f t _⟩
   | false=>exact atH hfg hψ t _ (fun q hq=>hφ q (abD _ hq)) (h.put (hψ k hg) (hφ s abI))
theorem atI{f g:anY->Bool}(hfg:∀s,f s=g s)(hψ:∀k,g k=true->ψ k):∀(l:List (anY)) (r:List An) (o:An),(∀y∈r,φ (bI y.text))->Iv ψ φ o ->
  (Hu g l r o=none/\(Tw f l r o false).2=true)\/∃o',Hu g l r o=some o'/\Tw f l r o false=(o',false)/\Iv ψ φ o'
 | [],_,o,_,h=>.inr ⟨o,by unfold Hu;rfl,by unfold Tw;rfl,h⟩
 | _::_,[],o,_,h=>.inr ⟨o,by unfold Hu;rfl,by unfold Tw;rfl,h⟩
 | s::t,y::r,o,hφ,h=>by
  unfold Hu Tw;rw[hfg,h.with_,cond_false];cases hg:g s with
  | false =>
   refine .inl ⟨rfl,?_⟩;have:(bif decide ((1:Int)<y.kind)then true else !false)=true:=by cases decide ((1:Int)<y.kind)<;>rfl
   rw[this];exact aej f t r _
  | true =>
   cases hi:decide ((1:Int)<y.kind)with
   | true=>exact .inl ⟨rfl,aej f t r _⟩
   | false=>exact atI hfg hψ t r _ (fun q hq=>hφ q (abD _ hq)) (h.put (hψ s hg) (hφ y abI))
theorem akS{g:anY->Bool}:∀(ks:List (anY)) (vs:List An) (o o':An),ks.length=vs.length->ks.Nodup->(∀k∈ks,k∉o.keys)->(o.kind=0\/o.kind=3)->o.keys.length=o.kids.length ->
  Hu g ks vs o=some o'->o'.keys=o.keys++ks
 | [],[],o,o',_,_,_,_,_,h=>by unfold Hu at h;cases h;simp
 | s::t,y::r,o,o',hl,hn,hd,hk,hlen,h=>by
  unfold Hu at h;have hn':=List.nodup_cons.1 hn;cases hb:(bif !(g s)then true else decide ((1:Int)<y.kind))with
  | true=>rw[hb]at h;cases h
  | false =>
   rw[hb,cond_false,FM hk hlen (hd s abI)]at h;have:=akS t r _ o' (by simpa using hl) hn'.2 (fun k hm hq=>by
    rcases List.mem_append.1 hq with hq | hq
    ·exact hd k (abD _ hm) hq
    ·rw[List.mem_singleton.1 hq]at hm;exact hn'.1 hm) (.inr rfl) (by simp[hlen]) h
   rw[this];simp
 | [],_::_,_,_,h,_,_,_,_,_=>by simp at h
 | _::_,[],_,_,h,_,_,_,_,_=>by simp at h
theorem aop{g:anY->Bool}:∀(ks:List (anY)) (vs:List An) (o:An),ks.length=vs.length->ks.Nodup->(∀k∈ks,k∉o.keys)->(o.kind=0\/o.kind=3)->o.keys.length=o.kids.length->o.text=[] ->
  (∀k∈ks,g k=true)->(∀y∈vs,y=bI y.text)->∃o',Hu g ks vs o=some o'/\o'.text=[]/\o'.keys=o.keys++ks/\o'.kids=o.kids++vs
 | [],[],o,_,_,_,_,_,ht,_,_=>⟨o,by unfold Hu;rfl,ht,by simp,by simp⟩
 | s::t,y::r,o,hl,hn,hd,hk,hlen,ht,hg,hv=>by
  have hn':=List.nodup_cons.1 hn;have hy:=hv y abI;have hk1:¬ (1:Int)<y.kind:=by rw[hy];show ¬ (1:Int)<1;decide
  unfold Hu;rw[hg s abI,dF hk1,FM hk hlen (hd s abI),<- hy];obtain⟨o',h1,h2,h3,h4⟩:=aop (g:=g) t r ⟨3,[],o.keys++[s],o.kids++[y]⟩ (by simpa using hl) hn'.2 (fun k hm hq=>by
    rcases List.mem_append.1 hq with hq | hq
    ·exact hd k (abD _ hm) hq
    ·rw[List.mem_singleton.1 hq]at hm;exact hn'.1 hm) (.inr rfl) (by simp[hlen]) rfl (fun k hm=>hg k (abD _ hm)) (fun z hz=>hv z (abD _ hz))
  grind
 | [],_::_,_,h,_,_,_,_,_,_,_=>by simp at h
 | _::_,[],_,h,_,_,_,_,_,_,_=>by simp at h
theorem Iv.leafs{o:An}(h:Iv ψ φ o)(hφ:∀y,φ y->wg 10000 11 y=true/\kd 11 y=true)(h32:o.keys.length<=32):wg 10000 12 (iM o)=true/\kd 12 (iM o)=true :=
  ⟨dQ.2 ⟨by show o.keys.length<=10000;omega,by have:=h.len;show o.kids.length<=10000;omega,fun _=>h.len,fun y hy=>(hφ y (h.kid y hy)).1⟩,
   Hz.2 ⟨⟨⟨show(0:Int)<=3 by decide,show(3:Int)<=3 by decide⟩,fun e=>absurd rfl e⟩,fun e=>absurd (show(3:Int)<2 from e) (by decide),fun y hy=>(hφ y (h.kid y hy)).2⟩⟩
theorem Iv.dn{o:An}(h:Iv ψ φ o)(hφ:∀y,φ y->wg 10000 11 y=true/\kd 11 y=true):FD o false=fu o true/\FE o false=(bif fq o true then 0 else 10):=by
 unfold FD FE fu fq abY;simp only[cond_false,ab7];by_cases h32:(32:Int)<(o.keys.length:Int)
 ·rw[dT h32];exact⟨rfl,rfl⟩
 ·obtain⟨hw,hk⟩:=h.leafs hφ (by omega);rw[dF h32];have e:∀m:Nat,m=12+988->dS m (iM o)=aL 12 (iM o):=fun m hm=>by rw[hm,sort_k 12 988 _ hw,M8 12 _ hw hk]
  simp only[cond_false,acn,cond_true];exact⟨e 1000 (by omega),trivial⟩
structure Sf (ψ:anY->Prop) (φ:An->Prop) (a:An):Prop where
 kind:a.kind=3
 text:a.text=[]
 ss:Pl.SS a.keys
 len:a.keys.length=a.kids.length
 le:a.keys.length<=32
 key:∀k∈a.keys,ψ k
 kid:∀y∈a.kids,φ y
theorem lD{l:List (anY)}(h:Pl.SS l):l.Nodup:=List.Pairwise.imp (fun {a b} (h:a<b) (e:a=b)=>Pl.LW b (e▸h)) h
theorem Iv.form{o:An}(h:Iv ψ φ o)(hs:∀y,φ y->aL 11 y=y)(h32:o.keys.length<=32):Sf ψ φ (aL 12 (iM o)):=by
 have e:aL 12 (iM o)=⟨3,o.text,Pl.bn o.keys,(Pl.bn o.keys).map fun k=>aL 11 (aG (iM o) k)⟩:=rfl;rw[e];refine⟨rfl,h.text,(Pl.BP o.keys).1,by simp,Nat.le_trans (Pl.sw _) h32,fun k hk=>h.key k (Pl.jY.1 hk),fun y hy=>?_⟩;obtain⟨k,hk,rfl⟩:=List.mem_map.1 hy;have hg:aB (iM o) k=true:=by show(get (iM o) k).isSome=true;have:get (iM o) k=lk o.keys o.kids k:=if_pos rfl;rw[this,pU h.len];exact jF.2 (Pl.jY.1 hk)
 have:=h.kid _ (rA (a:=iM o) hg);rw[hs _ this];exact this
theorem Qs:∀(ks:List (anY)) (vs:List An),ks.length=vs.length->ks.Nodup->ks.map (fun k=>(lk ks vs k).getD zn)=vs
 | [],[],_,_=>rfl
 | a::t,x::w,h,hn=>by
  have hn':=List.nodup_cons.1 hn;rw[afu];congr 1
  ·unfold lk;rw[if_pos rfl];rfl
  ·rw[<- Qs t w (by simpa using h) hn'.2];refine ahY fun k hk=>?_
   have:k≠a:=fun e=>hn'.1 (e▸hk)
   rw[Qs t w (by simpa using h) hn'.2]
   conv=>lhs;unfold lk
   rw[if_neg this]
 | [],_::_,h,_=>by simp at h
 | _::_,[],h,_=>by simp at h
theorem Sf.sorted{a:An}(h:Sf ψ φ a)(hs:∀y,φ y->aL 11 y=y):aL 12 a=a:=by
 have hk:Pl.bn a.keys=a.keys:=Pl.tJ h.ss fun _=>Iff.rfl
 have e:aL 12 a=⟨a.kind,a.text,Pl.bn a.keys,(Pl.bn a.keys).map fun k=>aL 11 (aG a k)⟩:=by show(bif a.kind==3 then _ else _)=_;rw[jL h.kind];rfl
 rw[e,hk];have e2:(a.keys.map fun k=>aL 11 (aG a k))=a.keys.map fun k=>(lk a.keys a.kids k).getD zn:=by
  refine ahY fun k hk=>?_
  have hg:aB a k=true:=by show(get a k).isSome=true;rw[show get a k=lk a.keys a.kids k from if_pos h.kind,pU h.len];exact jF.2 hk
  rw[hs _ (h.kid _ (rA hg))];show(get a k).getD zn=_;rw[show get a k=lk a.keys a.kids k from if_pos h.kind]
 rw[e2,Qs _ _ h.len (lD h.ss)];exact fP a
theorem Sf.MU{a:An}(h:Sf ψ φ a)(hφ:∀y,φ y->wg 10000 11 y=true/\kd 11 y=true):wg 10000 12 a=true :=
 dQ.2 ⟨by have:=h.le;omega,by have:=h.le;have:=h.len;omega,fun _=>h.len,fun y hy=>(hφ y (h.kid y hy)).1⟩
theorem J6{a o':An}(h:Sf ψ φ a)(hs:∀y,φ y->aL 11 y=y)(h1:o'.text=[])(h2:o'.keys=a.keys)(h3:o'.kids=a.kids):fu o' true=a/\fq o' true=true:=by
 have hm:iM o'=a:=by show(⟨3,o'.text,o'.keys,o'.kids⟩:An)=a;rw[h1,h2,h3,<- h.text,<- h.kind];exact fP a
 have hb:fq o' true=true:=by unfold fq;rw[h2,ab7,cond_false,dF (show ¬ (32:Int)<(a.keys.length:Int) by have:=h.le;omega)];rfl
 unfold fu;rw[hb,hm,h.sorted hs];exact⟨rfl,rfl⟩
end
def EP(y:An):Prop:=y=bI y.text/\y.text.length<=200
theorem aoq{s:anY}(h:s.length<=200):EP (bI s):=⟨rfl,h⟩
theorem aek(y:An)(h:EP y):wg 10000 11 y=true/\kd 11 y=true:=by rw[h.1];exact⟨pR _ 10,by simp[kd,bI]⟩
theorem M9(y:An)(h:EP y):aL 11 y=y:=by rw[h.1];rfl
theorem akT{B:Nat}:∀(l:List An) (t:List (anY)),l7 l=some t->(∀y∈l,y.text.length<=B)->∀s∈t,s.length<=B
 | [],t,h,_,s,hs=>by cases h;cases hs
 | x::r,t,h,hb,s,hs=>by
  unfold l7 at h;cases hk:x.kind != 1 with
  | true=>rw[hk]at h;cases h
  | false =>
   rw[hk,cond_false]at h;cases hr:l7 r with
   | none=>rw[hr]at h;cases h
   | some q =>
    rw[hr]at h;cases h;rcases am8.1 hs with rfl | hs
    ·exact hb x abI
    ·exact akT r q hr (fun y hy=>hb y (abD _ hy)) s hs
theorem aar{B:Nat}{n:An}(h:∀y∈n.kids,y.text.length<=B):∀s∈bJ n,s.length<=B:=by
 unfold bJ;cases ht:l7 n.kids with
 | none=>intro s hs;cases hs
 | some t=>exact akT _ _ ht h
theorem acy(o:An):FD o true=zn/\FE o true=10:=⟨rfl,rfl⟩
def Gn(n:An):Prop:=(n.kind=3->n.keys.length=n.kids.length/\n.keys.Nodup)/\∀y∈n.kids,y.text.length<=200
theorem aas{n:An}(hn:Gn n)(v:Bool):(Kn n v=rH n v/\Ko n v=(bif Ae n v then 0 else 10))/\(Ae n v=true->Sf (fun k=>om k v=true) EP (rH n v)):=by
 have fin:∀(p:An×Bool) (q:Option An),((p.2=true/\oV q=zn/\oB q=false)\/∃o',q=some o'/\p=(o',false)/\Iv (fun k=>om k v=true) EP o') ->
   (FD p.1 p.2=oV q/\FE p.1 p.2=(bif oB q then 0 else 10))/\(oB q=true->Sf (fun k=>om k v=true) EP (oV q)):=by
  rintro p q (⟨hb,h1,h2⟩ | ⟨o',rfl,rfl,hi⟩)
  ·rw[hb,h1,h2];exact⟨acy _,fun h=>by cases h⟩
  ·refine⟨hi.dn aek,fun hb=>?_⟩;have hb:fq o' true=true:=hb;have h32:o'.keys.length<=32:=by
    unfold fq at hb;grind
   have e:oV (some o')=aL 12 (iM o'):=by show fu o' true=_;unfold fu;rw[hb];rfl
   rw[e];exact hi.form M9 h32
 unfold Kn Ko rH Ae;refine fin (VG n v) (rpP n v) ?_;unfold VG rpP;rw[Ll];cases ht:qF n with
 | true =>
  simp only[cond_true];rw[Cq ht];rcases atH (ψ:=fun k=>om k v=true) (φ:=EP) (f:=Mt v) (g:=fun s=>om s v) (fun s=>afX s v) (fun k h=>h) (bJ n) zn (fun s hs=>aoq (by rw[ach];have:=aar hn.2 s hs;omega)) Iv.nil with⟨h1,h2⟩ | h
  ·rw[h1];exact .inl ⟨h2,rfl,rfl⟩
  ·exact .inr h
 | false =>
  simp only[cond_false];unfold rF;by_cases h3:n.kind=3
  ·obtain⟨hl,hnd⟩:=hn.1 h3;rw[jL h3,kZ h3,cond_true,cond_false];by_cases hm:(n.kids.length:Int)<=32
   ·rw[dT hm,cond_true];rcases atI (ψ:=fun k=>om k v=true) (φ:=EP) (f:=Mt v) (g:=fun s=>om s v) (fun s=>afX s v) (fun k h=>h) n.keys n.kids zn (fun y hy=>aoq (hn.2 y hy)) Iv.nil with⟨h1,h2⟩ | h
    ·rw[h1];exact .inl ⟨h2,rfl,rfl⟩
    ·exact .inr h
   ·rw[dF hm,cond_false];cases hr:Hu (fun s=>om s v) n.keys n.kids zn with
    | none=>exact .inl ⟨rfl,rfl,rfl⟩
    | some o' =>
     have hk:=akS n.keys n.kids zn o' hl hnd (fun k _ h=>by cases h) (.inl rfl) rfl hr;have hb:fq o' true=false:=by unfold fq;grind
     refine .inl ⟨rfl,?_,hb⟩;show fu o' true=zn;unfold fu;rw[hb];rfl
  ·rw[eT h3,jK h3];exact .inl ⟨rfl,rfl,rfl⟩
theorem aqY{a:An}{v:Bool}(h:Sf (fun k=>om k v=true) EP a):rH a v=a/\Ae a v=true:=by
 have ht:EL a=false:=by unfold EL IG;rw[h.kind];rfl
 unfold rH Ae rpP;rw[ht,cond_false,kZ h.kind,cond_false];obtain⟨o',h1,h2,h3,h4⟩:=aop (g:=fun s=>om s v) a.keys a.kids zn h.len (lD h.ss) (fun k _ h=>by cases h) (.inl rfl) rfl rfl h.key (fun y hy=>(h.kid y hy).1);rw[h1];exact J6 h M9 h2 (by rw[h3];rfl) (by rw[h4];rfl)
def SN(y:An):Prop:=y=zn
theorem aor(y:An)(h:SN y):wg 10000 11 y=true/\kd 11 y=true:=by rw[h];exact⟨by simp[wg,zn],by simp[kd,zn]⟩
theorem acz(y:An)(h:SN y):aL 11 y=y:=by rw[h];rfl
theorem akU(g:anY->Bool)(l:List (anY))(o:An):(MS g l false o).2=false:=by cases l<;>rfl
section
variable {ψ:anY->Prop}
theorem atJ{f g:anY->Bool}(hfg:∀s,f s=g s)(hψ:∀k,g k=true->ψ k):∀(l:List (anY)) (o:An),Iv ψ SN o ->
  (l.any (fun s=>!(f s))=true/\(MS g l true o).2=false)\/(l.any (fun s=>!(f s))=false/\MS g l true o=(JU (fun _=>zn) l o,true)/\Iv ψ SN (JU (fun _=>zn) l o))
 | [],o,h=>.inr ⟨rfl,rfl,h⟩
 | s::t,o,h=>by
  unfold MS JU;rw[aj1,hfg,h.with_,cond_true];cases hg:g s with
  | false=>exact .inl ⟨rfl,akU g t _⟩
  | true =>rw[ab7,akg];exact atJ hfg hψ t _ (h.put (hψ s hg) rfl)
theorem aos{g:anY->Bool}:∀(ks:List (anY)) (o:An),ks.Nodup->(∀k∈ks,k∉o.keys)->(o.kind=0\/o.kind=3)->o.keys.length=o.kids.length->o.text=[] ->
  (∀k∈ks,g k=true)->∃o',MS g ks true o=(o',true)/\o'.text=[]/\o'.keys=o.keys++ks/\o'.kids=o.kids++ks.map fun _=>zn
 | [],o,_,_,_,_,ht,_=>⟨o,rfl,ht,by simp,by simp⟩
 | s::t,o,hn,hd,hk,hlen,ht,hg=>by
  have hn':=List.nodup_cons.1 hn;unfold MS;rw[hg s abI,cond_true,FM hk hlen (hd s abI)];obtain⟨o',h1,h2,h3,h4⟩:=aos (g:=g) t ⟨3,[],o.keys++[s],o.kids++[zn]⟩ hn'.2 (fun k hm hq=>by
    rcases List.mem_append.1 hq with hq | hq
    ·exact hd k (abD _ hm) hq
    ·rw[List.mem_singleton.1 hq]at hm;exact hn'.1 hm) (.inr rfl) (by simp[hlen]) rfl (fun k hm=>hg k (abD _ hm))
  grind
end
theorem Wx{n:An}(hn:Gn n):(G5 n=jS n/\G6 n=(bif rZ n then 0 else 10))/\(rZ n=true->Sf (fun k=>bP fV k=true) SN (jS n)):=by
 have fin:∀(o:An) (b:Bool) (q:An×Bool),((b=true/\q.2=false)\/(b=false/\q=(o,true)/\Iv (fun k=>bP fV k=true) SN o)) ->
   (FD o b=fu q.1 q.2/\FE o b=(bif fq q.1 q.2 then 0 else 10))/\(fq q.1 q.2=true->Sf (fun k=>bP fV k=true) SN (fu q.1 q.2)):=by
  rintro o b q (⟨rfl,hb⟩ | ⟨rfl,rfl,hi⟩)
  ·rw[hb];exact⟨acy _,fun h=>by cases h⟩
  ·refine⟨hi.dn aor,fun hb=>?_⟩;have hb:fq o true=true:=hb;have h32:o.keys.length<=32:=by
    unfold fq at hb;grind
   have e:fu o true=aL 12 (iM o):=by unfold fu;rw[hb];rfl
   show Sf _ _ (fu o true);rw[e];exact hi.form acz h32
 have hm:rF n 3=DZ n:=by
  unfold rF DZ;by_cases h3:n.kind=3
  ·rw[(hn.1 h3).1]
  ·rw[eT h3];rfl
 have step:=fun(l:List (anY))=>atJ (ψ:=fun k=>bP fV k=true) (f:=oG Bh yx) (g:=bP fV) vF (fun k h=>h) l zn Iv.nil
 unfold G5 G6 jS rZ;refine fin (Z0 n) (ZY n) (YW n) ?_;unfold Z0 ZY rY set0 YW;rw[hm];cases hr:DZ n with
 | true =>
  simp only[cond_true];cases hb:n.kids.any Bl with
  | true=>exact .inl ⟨rfl,akU _ _ _⟩
  | false =>grind
 | false =>
  simp only[cond_false];rw[Ll];cases ht:qF n with
  | false=>exact .inl ⟨rfl,akU _ _ _⟩
  | true =>rw[ab7,akg,Cq ht];exact step (bJ n)
theorem set_self{a:An}(h:Sf (fun k=>bP fV k=true) SN a):jS a=a/\rZ a=true:=by
 have hr:DZ a=true:=by unfold DZ;rw[jL h.kind,cond_true,dT (by have:=h.le;omega)]
 have hb:a.kids.any Bl=false:=by rw[List.any_eq_false];intro y hy;rw[show y=zn from h.kid y hy];decide
 obtain⟨o',h1,h2,h3,h4⟩:=aos (g:=bP fV) a.keys zn (lD h.ss) (fun k _ h=>by cases h) (.inl rfl) rfl rfl h.key;unfold jS rZ YW;rw[hr,hb,cond_true,acn,h1];refine J6 h acz h2 (by rw[h3];rfl) ?_;rw[h4,show zn.kids=[]from rfl,afn];refine List.ext_getElem (by simp[h.len]) fun i h1 h2=>?_
 rw[List.getElem_map];exact(h.kid _ (acw h2)).symm
theorem N9:∀(m l:List (anY)),m.Nodup->(∀x∈m,x∈l)->m.length<=l.length
 | [],_,_,_=>aa4 _
 | a::t,l,hn,hs=>by
  have hn':=List.nodup_cons.1 hn;have ha:=hs a abI;have:=N9 t (l.erase a) hn'.2 fun x hx=>(List.mem_erase_of_ne (fun e=>by subst e;exact hn'.1 hx)).2 (hs x (abD _ hx))
  grind
theorem axX:∀(l m:List (anY)),m.Nodup->(∀x,x∈m↔x∈l)->m.length=l.length->l.Nodup
 | [],_,_,_,_=>aj7
 | a::t,m,hn,hm,hl=>by
  have hat:a∉t:=fun ha=>by
   have:=N9 m t hn fun x hx=>by grind
   simp only[List.length_cons]at hl;omega
  have ham:a∈m:=(hm a).2 abI;refine List.nodup_cons.2 ⟨hat,axX t (m.erase a) (hn.erase a) (fun x=>?_) (by rw[List.length_erase_of_mem ham,hl];rfl)⟩;grind
theorem agQ{l:List (anY)}(h:(Pl.bn l).length=l.length):l.Nodup :=
 axX l (Pl.bn l) (lD (Pl.BP l).1) (fun _=>Pl.jY) h
theorem awo{f:UInt8->Bool->Bool}{s:anY}(h:bP f s=true):s.length<=24:=by unfold bP at h;grind
theorem azk{s:anY}{v:Bool}(h:om s v=true):s.length<=24:=by unfold om at h;cases v<;>exact awo h
theorem Qt:wg 10000 12 zn=true:=ahF 11
theorem Qu{a:An}(h:wg 10000 12 a=true):Gi 12 a a=true:=by simp only[Gi,ahl (by decide) h,acf]
theorem aBo(n:An):wg 10000 11 (Tx n)=true:=by simp[wg,Tx,dz,fK]
theorem SQ{ks L:List (anY)}(hk:ks.Nodup)(hL:L.Nodup):((L.filter (fun k=>fO ks k)).length=ks.length)↔(ks.all fun k=>fO L k)=true:=by
 have hF:(L.filter (fun k=>fO ks k)).Nodup:=hL.filter _;have hFk:∀x∈L.filter (fun k=>fO ks k),x∈ks:=fun x hx=>jF.1 (List.mem_filter.1 hx).2
 have hle:=N9 _ ks hF hFk;rw[afE];constructor
 ·intro he k hkm;cases hb:fO L k with
  | true=>rfl
  | false =>
   exfalso;have hnL:k∉L:=fun h=>by rw[jF.2 h]at hb;cases hb
   have:=N9 _ (ks.erase k) hF fun x hx=>(List.mem_erase_of_ne (fun e=>by subst e;exact hnL (List.mem_filter.1 hx).1)).2 (hFk x hx)
   grind
 ·intro ha;have:=N9 ks _ hk fun x hx=>List.mem_filter.2 ⟨jF.1 (ha x hx),jF.2 hx⟩
  omega
theorem ru{m:An}(h3:m.kind=3)(hl:m.keys.length=m.kids.length)(k:anY):aB m k=fO m.keys k:=by unfold aB get;rw[if_pos h3];exact pU hl
theorem lf3{m:An}(h3:m.kind=3)(hl:m.keys.length=m.kids.length)(hn:m.keys.Nodup):(lfV m==0)=eX m [cK,sK,rK]:=by
 have h:=SQ hn (show([cK,sK,rK]:List (anY)).Nodup by decide);have e:(([cK,sK,rK].filter fun k=>fO m.keys k).length:Int)=(b2 (fO m.keys cK)+b2 (fO m.keys sK))+b2 (fO m.keys rK):=by cases h1:fO m.keys cK<;>cases h2:fO m.keys sK<;>cases h4:fO m.keys rK<;>simp[List.filter,h1,h2,h4,b2]
 unfold lfV eX;rw[ru h3 hl,ru h3 hl,ru h3 hl,kZ h3,cond_false];grind
def tf(s:anY):Bool:=(s==kg)||(s==o7)
def co(s:anY):Bool:=((s==mM)||(s==VI))||(s==VJ)
theorem J7(s:anY):Qj s = !(tf s):=by unfold Qj tf;cases s==kg<;>cases s==o7<;>rfl
theorem akV(s:anY):nco s = !(co s):=by unfold nco co;cases s==mM<;>cases s==VI<;>cases s==VJ<;>rfl
theorem Wy(m:An)(k o:anY):KA m k o=(bV m k []&&tf (aN m k o)):=by have e:KA m k o=(bif bV m k []then(bif aN m k o==kg then true else aN m k o==o7)else false):=rfl;rw[e];unfold tf;grind
theorem aCD{m:An}(h3:m.kind=3):(!(bdV m))=(bif(bif(bif bV m cK mM then KA m sK o7 else false)then KA m rK kg else false)then(bif(bif aN m cK mM==mM then true else aN m cK mM==VI)then true else aN m cK mM==VJ)else false):=by
 have e1:bV m cK mM=bV m cK []:=rfl;have e2:(bif(bif aN m cK mM==mM then true else aN m cK mM==VI)then true else aN m cK mM==VJ)=co (aN m cK mM):=by unfold co;grind
 rw[e1,e2,Wy,Wy];unfold bdV;rw[kZ h3,J7,J7,akV];grind
def Ky(y:An):Prop:=(y.kind=0->y=zn)/\(y.kind=3->y.keys.length=y.kids.length/\y.keys.Nodup)
theorem Ky.zn:Ky zn:=⟨fun _=>rfl,fun h=>by cases h⟩
theorem aBp{y:An}(h0:y.kind≠0):em y=y:=by unfold em;rw[eT h0];rfl
theorem azl{y:An}(h0:y.kind=0):em y=⟨3,[],[],[]⟩:=by unfold em;rw[jL h0];rfl
theorem Ky.em{y:An}(h:Ky y):((em y).kind=3->(em y).keys.length=(em y).kids.length/\(em y).keys.Nodup):=by
 by_cases h0:y.kind=0
 ·rw[azl h0];exact fun _=>⟨rfl,aj7⟩
 ·rw[aBp h0];exact h.2
theorem aot{s:anY}(h:tf s=true):fK (s==kg)=bI s:=by
 unfold tf at h;cases h1:s==kg with
 | true =>
  have:s=kg:=by simpa using h1
  subst this;rfl
 | false =>
  rw[h1,akg]at h;have:s=o7:=by simpa using h
  subst this;rfl
theorem aat{y:An}(h:KH y=true):(em y).kind=3/\co (aN (em y) cK mM)=true/\tf (aN (em y) sK o7)=true/\tf (aN (em y) rK kg)=true:=by unfold KH at h;rw[abK,ah3]at h;have hb:=h.1;unfold bdV at hb;rw[J7,J7,akV]at hb;grind
theorem axY{y:An}(hy:Ky y):KH y=KC y/\(KH y=true->Tx y=MV y):=by
 by_cases h3:(em y).kind=3
 ·obtain⟨hl,hn⟩:=hy.em h3;have e:=lf3 h3 hl hn;have eb:KH y=KC y:=by
   unfold KH KC;rw[e,aCD h3];grind
  refine⟨eb,fun hb=>?_⟩;obtain⟨_,_,q2,q3⟩:=aat hb;have ho:eX (em y) [cK,sK,rK]=true:=by rw[eb]at hb;unfold KC at hb;grind
  unfold Tx MV;rw[ho,aot q2,aot q3];rfl
 ·have o:eX (em y) [cK,sK,rK]=false:=by unfold eX;rw[jK h3];rfl
  have b:KH y=false:=by unfold KH bdV;rw[jK h3];rfl
  refine⟨by rw[b];unfold KC;rw[o];rfl,fun h=>by rw[b]at h;cases h⟩
def IL(y:An):Prop:=KH y=true/\Tx y=y
theorem aou(b:Bool):(CO b==kg)=b:=by cases b<;>rfl
theorem atK(b:Bool):tf (CO b)=true:=by cases b<;>rfl
theorem awp{c:anY}(hc:co c=true)(r s:Bool):IL ⟨3,[],[cK,rK,sK],[dz c,fK r,fK s]⟩:=by
 have em_:em (⟨3,[],[cK,rK,sK],[dz c,fK r,fK s]⟩:An)=⟨3,[],[cK,rK,sK],[dz c,fK r,fK s]⟩:=rfl;have g1:aB (⟨3,[],[cK,rK,sK],[dz c,fK r,fK s]⟩:An) cK=true:=rfl;have g2:aB (⟨3,[],[cK,rK,sK],[dz c,fK r,fK s]⟩:An) rK=true:=rfl;have g3:aB (⟨3,[],[cK,rK,sK],[dz c,fK r,fK s]⟩:An) sK=true:=rfl;have v1:aG (⟨3,[],[cK,rK,sK],[dz c,fK r,fK s]⟩:An) cK=dz c:=rfl;have v2:aG (⟨3,[],[cK,rK,sK],[dz c,fK r,fK s]⟩:An) rK=fK r:=rfl;have v3:aG (⟨3,[],[cK,rK,sK],[dz c,fK r,fK s]⟩:An) sK=fK s:=rfl;have f1:∀o,aN (⟨3,[],[cK,rK,sK],[dz c,fK r,fK s]⟩:An) cK o=c:=fun o=>by unfold aN;rw[g1,v1];rfl
 have f2:∀o,aN (⟨3,[],[cK,rK,sK],[dz c,fK r,fK s]⟩:An) rK o=CO r:=fun o=>by unfold aN;rw[g2,v2];rfl
 have f3:∀o,aN (⟨3,[],[cK,rK,sK],[dz c,fK r,fK s]⟩:An) sK o=CO s:=fun o=>by unfold aN;rw[g3,v3];rfl
 constructor
 ·unfold KH bdV lfV;rw[em_,f1,f2,f3,J7,J7,akV,atK,atK,hc,g1,g2,g3];unfold bV;rw[g1,g2,g3,v1,v2,v3];rfl
 ·unfold Tx;rw[em_,f1,f2,f3,aou,aou]
theorem aCE{y:An}(h:KH y=true):IL (Tx y):=awp (aat h).2.1 _ _
theorem azm(y:An)(h:IL y):wg 10000 11 y=true/\kd 11 y=true:=by rw[<- h.2];exact⟨aBo y,by simp[kd,Tx,dz,fK]⟩
theorem aBq:Pl.bn [cK,rK,sK]=[cK,rK,sK]:=Pl.tJ (by unfold Pl.SS;decide) fun _=>Iff.rfl
theorem akW(y:An)(h:IL y):aL 11 y=y:=by
 have e:∀a b c:An,aL 10 a=a->aL 10 b=b->aL 10 c=c->aL 11 (⟨3,[],[cK,rK,sK],[a,b,c]⟩:An)=⟨3,[],[cK,rK,sK],[a,b,c]⟩:=by intro a b c h1 h2 h3;have e1:aL 11 (⟨3,[],[cK,rK,sK],[a,b,c]⟩:An)=⟨3,[],Pl.bn [cK,rK,sK],(Pl.bn [cK,rK,sK]).map fun k=>aL 10 (aG ⟨3,[],[cK,rK,sK],[a,b,c]⟩ k)⟩:=rfl;have v1:aG (⟨3,[],[cK,rK,sK],[a,b,c]⟩:An) cK=a:=rfl;have v2:aG (⟨3,[],[cK,rK,sK],[a,b,c]⟩:An) rK=b:=rfl;have v3:aG (⟨3,[],[cK,rK,sK],[a,b,c]⟩:An) sK=c:=rfl;rw[e1,aBq,afu,afu,afu,afM,v1,v2,v3,h1,h2,h3]
 rw[<- h.2];exact e _ _ _ rfl rfl rfl
theorem aov{y:An}(h:IL y):Ky y:=by rw[<- h.2];exact⟨(fun e=>by cases e),fun _=>⟨rfl,(by show[cK,rK,sK].Nodup;decide)⟩⟩
theorem awq{y:An}(h:IL y):KC y=true/\MV y=y:=by obtain⟨h1,h2⟩:=axY (aov h);exact⟨by rw[<- h1];exact h.1,by rw[<- h2 h.1];exact h.2⟩
theorem acA(f:anY->Bool):∀(l:List (anY)) (r:List An) (o:An),(pd f l r o true).2=true
 | [],_,_=>rfl
 | _::_,[],_=>rfl
 | _::t,_::r,_=>acA f t r _
theorem aqZ(g:anY->Bool)(l:List (anY))(r:List An)(o:An):(rd g l r false o).2=false:=by
 cases l with
 | nil=>rfl
 | cons s t=>cases r<;>rfl
theorem axZ{ψ:anY->Prop}{f g:anY->Bool}(hfg:∀s,f s=g s)(hψ:∀k,g k=true->ψ k):∀(l:List (anY)) (r:List An) (o:An),(∀y∈r,Ky y)->Iv ψ IL o ->
  ((pd f l r o false).2=true/\(rd g l r true o).2=false)\/∃o',pd f l r o false=(o',false)/\rd g l r true o=(o',true)/\Iv ψ IL o'
 | [],_,o,_,h=>.inr ⟨o,by unfold pd;rfl,by unfold rd;rfl,h⟩
 | _::_,[],o,_,h=>.inr ⟨o,by unfold pd;rfl,by unfold rd;rfl,h⟩
 | s::t,y::r,o,hy,h=>by
  obtain⟨q1,q2⟩:=axY (hy y abI);unfold pd rd;rw[hfg,h.with_,cond_true,cond_false,<- q1];cases he:KH y with
  | false=>exact .inl ⟨acA f t r _,aqZ g t r _⟩
  | true =>
   rw[<- q2 he];cases hg:g s with
   | false=>exact .inl ⟨acA f t r _,aqZ g t r _⟩
   | true=>exact axZ hfg hψ t r _ (fun z hz=>hy z (abD _ hz)) (h.put (hψ s hg) (aCE he))
theorem atL{g:anY->Bool}:∀(ks:List (anY)) (vs:List An) (o:An),ks.length=vs.length->ks.Nodup->(∀k∈ks,k∉o.keys)->(o.kind=0\/o.kind=3)->o.keys.length=o.kids.length->o.text=[] ->
  (∀k∈ks,g k=true)->(∀y∈vs,KC y=true/\MV y=y)->∃o',rd g ks vs true o=(o',true)/\o'.text=[]/\o'.keys=o.keys++ks/\o'.kids=o.kids++vs
 | [],[],o,_,_,_,_,_,ht,_,_=>⟨o,by unfold rd;rfl,ht,by simp,by simp⟩
 | s::t,y::r,o,hl,hn,hd,hk,hlen,ht,hg,hv=>by
  have hn':=List.nodup_cons.1 hn;obtain⟨v1,v2⟩:=hv y abI;unfold rd;rw[hg s abI,v1,v2,cond_true,cond_true,FM hk hlen (hd s abI)];obtain⟨o',h1,h2,h3,h4⟩:=atL (g:=g) t r ⟨3,[],o.keys++[s],o.kids++[y]⟩ (by simpa using hl) hn'.2 (fun k hm hq=>by
    rcases List.mem_append.1 hq with hq | hq
    ·exact hd k (abD _ hm) hq
    ·rw[List.mem_singleton.1 hq]at hm;exact hn'.1 hm) (.inr rfl) (by simp[hlen]) rfl (fun k hm=>hg k (abD _ hm)) (fun z hz=>hv z (abD _ hz))
  grind
 | [],_::_,_,h,_,_,_,_,_,_,_=>by simp at h
 | _::_,[],_,h,_,_,_,_,_,_,_=>by simp at h
def Ge(n:An):Prop:=(n.kind=3->n.keys.length=n.kids.length)/\∀y∈n.kids,Ky y
theorem aow{n:An}(hn:Ge n):(dpV n=MW n/\dpE n=(bif MX n then 0 else 10))/\(MX n=true->Sf (fun k=>bP fV k=true) IL (MW n)):=by
 have fin:∀(p q:An×Bool),((p.2=true/\q.2=false)\/∃o,p=(o,false)/\q=(o,true)/\Iv (fun k=>bP fV k=true) IL o) ->
   (FD p.1 p.2=fu q.1 q.2/\FE p.1 p.2=(bif fq q.1 q.2 then 0 else 10))/\(fq q.1 q.2=true->Sf (fun k=>bP fV k=true) IL (fu q.1 q.2)):=by
  rintro p q (⟨ha,hb⟩ | ⟨o,rfl,rfl,hi⟩)
  ·rw[ha,hb];exact⟨acy _,fun h=>by cases h⟩
  ·refine⟨hi.dn azm,fun hb=>?_⟩;have hb:fq o true=true:=hb;have h32:o.keys.length<=32:=by
    unfold fq at hb;grind
   have e:fu o true=aL 12 (iM o):=by unfold fu;rw[hb];rfl
   show Sf _ _ (fu o true);rw[e];exact hi.form akW h32
 have hm:rF n 3=DZ n:=by
  unfold rF DZ;by_cases h3:n.kind=3
  ·rw[hn.1 h3]
  ·rw[eT h3];rfl
 have hky:∀l, ∀y∈CP n l,Ky y:=fun l y hy=>by
  unfold CP at hy;by_cases h3:n.kind=3
  ·rw[jL h3]at hy;exact hn.2 y hy
  ·rw[eT h3,cond_false]at hy;obtain⟨_,_,rfl⟩:=List.mem_map.1 hy;exact Ky.zn
 have step:=fun(l:List (anY))=>axZ (ψ:=fun k=>bP fV k=true) (f:=oG Bh yx) (g:=bP fV) vF (fun k h=>h) l (CP n l) zn (hky l) Iv.nil
 unfold dpV dpE MW MX;refine fin (dpP n) (rdP n) ?_;unfold dpP rdP dp0 FH vG;rw[hm];cases hr:DZ n with
 | true=>exact step n.keys
 | false =>
  simp only[cond_false];rw[Ll];cases ht:qF n with
  | false=>exact .inl ⟨acA _ _ _ _,aqZ _ _ _ _⟩
  | true =>rw[Cq ht];exact step (bJ n)
theorem atM{a:An}(h:Sf (fun k=>bP fV k=true) IL a):MW a=a/\MX a=true:=by
 have hr:DZ a=true:=by unfold DZ;rw[jL h.kind,cond_true,dT (by have:=h.le;omega)]
 have hd:CP a a.keys=a.kids:=by unfold CP;rw[jL h.kind];rfl
 obtain⟨o',h1,h2,h3,h4⟩:=atL (g:=bP fV) a.keys a.kids zn h.len (lD h.ss) (fun k _ h=>by cases h) (.inl rfl) rfl rfl h.key (fun y hy=>awq (h.kid y hy));unfold MW MX rdP vG;rw[hr];simp only[cond_true];rw[hd,h1];exact J6 h akW h2 (by rw[h3];rfl) (by rw[h4];rfl)
theorem lf2{m:An}(h3:m.kind=3)(hl:m.keys.length=m.kids.length)(hn:m.keys.Nodup):(aqx m==0)=eX m [jd,mG]:=by
 have h:=SQ hn (show([jd,mG]:List (anY)).Nodup by decide);have e:(([jd,mG].filter fun k=>fO m.keys k).length:Int)=b2 (fO m.keys jd)+b2 (fO m.keys mG):=by cases h1:fO m.keys jd<;>cases h2:fO m.keys mG<;>simp[List.filter,h1,h2,b2]
 unfold aqx eX;rw[ru h3 hl,ru h3 hl,kZ h3,cond_false];grind
theorem azn(s:anY):decide ((s.length:Int)<1)=(s==[]):=by
 cases s with
 | nil=>rfl
 | cons c t=>grind
theorem aCF{m:An}(h3:m.kind=3)(hl:m.keys.length=m.kids.length)(hn:m.keys.Nodup):OZ m=(bif !(eX m [jd,mG])then true else MZ m):=by have e1:bV m mG xS=bV m mG []:=rfl;unfold OZ aqw MZ;rw[lf2 h3 hl hn,kZ h3,vF,azn,e1];grind
def exK(k:anY):Prop:=k=jd\/k=mG
structure Gx (m:An):Prop where
 text:m.kind=3->m.text=[]
 len:m.kind=3->m.keys.length=m.kids.length
 nd:m.kind=3->m.keys.Nodup
 MU:wg 10000 12 m=true
 kd_:kd 12 m=true
 tx:∀y∈m.kids,y.kind=1->EP y
theorem acB{m:An}(h:eX m [jd,mG]=true)(hn:m.kind=3->m.keys.Nodup):m.kind=3/\m.keys.length<=2/\∀k∈m.keys,exK k:=by
 unfold eX at h;by_cases h3:m.kind=3
 ·rw[kZ h3,cond_false,afE]at h;refine⟨h3,N9 m.keys [jd,mG] (hn h3) fun k hk=>jF.1 (h k hk),fun k hk=>?_⟩;have:=jF.1 (h k hk);simpa[exK]using this
 ·rw[jK h3]at h;cases h
theorem awr{o:An}(h3:o.kind=3)(hl:o.keys.length=o.kids.length)(k:anY):get (aL 12 o) k=(get o k).map (aL 11):=by
 have e:aL 12 o=⟨o.kind,o.text,Pl.bn o.keys,(Pl.bn o.keys).map fun k=>aL 11 (aG o k)⟩:=by show(bif o.kind==3 then _ else _)=_;rw[jL h3];rfl
 rw[e];show(if o.kind=3 then lk (Pl.bn o.keys) ((Pl.bn o.keys).map fun k=>aL 11 (aG o k)) k else none)=_;rw[if_pos h3];by_cases hk:k∈o.keys
 ·rw[akP _ _ (Pl.jY.2 hk)];obtain⟨v,hv⟩:=PK hl hk;have hg:get o k=some v:=by unfold get;rw[if_pos h3];exact hv
  unfold aG;rw[hg];rfl
 ·have h1:get o k=none:=by
   unfold get;rw[if_pos h3];have:=pU (k:=k) hl;rw[Ww hk]at this;cases hq:lk o.keys o.kids k with
   | none=>rfl
   | some v=>rw[hq]at this;cases this
  have h2:lk (Pl.bn o.keys) ((Pl.bn o.keys).map fun k=>aL 11 (aG o k)) k=none:=by
   have:=pU (k:=k) (ks:=Pl.bn o.keys) (vs:=(Pl.bn o.keys).map fun k=>aL 11 (aG o k)) (by simp);rw[Ww (fun h=>hk (Pl.jY.1 h))]at this;cases hq:lk (Pl.bn o.keys) ((Pl.bn o.keys).map fun k=>aL 11 (aG o k)) k with
   | none=>rfl
   | some v=>rw[hq]at this;cases this
  rw[h1,h2];rfl
theorem Gx.kids{m:An}(g:Gx m)(ho:eX m [jd,mG]=true)(hr:MZ m=false):∀y∈m.kids,EP y:=by
 obtain⟨h3,hle,hk⟩:=acB ho g.nd;have hl:=g.len h3;have fs:bV m jd []=true/\bV m mG []=true:=by unfold MZ at hr;have e1:bV m mG xS=bV m mG []:=rfl;grind
 intro y hy;obtain⟨i,hi,rfl⟩:=List.getElem_of_mem hy;have hik:i<m.keys.length:=by omega
 have hget:get m m.keys[i]=some m.kids[i]:=by
  unfold get;rw[if_pos h3];have hm:=Qs m.keys m.kids hl (g.nd h3);have:(m.keys.map fun k=>(lk m.keys m.kids k).getD zn)[i]? = m.kids[i]? := by rw[hm]
  rw[acj,aaO hik,aaO hi]at this;simp only[ahT,Option.some.injEq]at this;obtain⟨v,hv⟩:=PK hl (acw hik);rw[hv]at this ⊢;rw[<- this];rfl
 have hkind:m.kids[i].kind=1:=by
  have hx:∀k:anY,m.keys[i]=k->bV m k []=true->m.kids[i].kind=1:=by intro k e hf;unfold bV aB aG at hf;rw[<- e,hget]at hf;simpa using hf
  rcases hk _ (acw hik)with e | e
  ·exact hx _ e fs.1
  ·exact hx _ e fs.2
 exact g.tx _ hy hkind
theorem Gx.iv{m:An}(g:Gx m)(ho:eX m [jd,mG]=true)(hr:MZ m=false):Iv exK EP m:=by obtain⟨h3,hle,hk⟩:=acB ho g.nd;exact⟨.inr h3,(fun e=>by rw[h3]at e;cases e),g.text h3,g.len h3,g.nd h3,hk,g.kids ho hr⟩
theorem akY{m:An}(h3:m.kind=3):iM m=m:=by show(⟨3,m.text,m.keys,m.kids⟩:An)=m;rw[<- h3];exact fP m
theorem ext_eq{n:An}(g:Gx (je n)):(exV n=wu n/\YN n=(bif EO n then 0 else 10))/\(EO n=true->Sf exK EP (wu n)/\wu n=aL 12 (je n)/\eX (je n) [jd,mG]=true/\MZ (je n)=false):=by
 unfold exV YN wu EO;by_cases h3:(je n).kind=3
 ·rw[aCF h3 (g.len h3) (g.nd h3)];cases ho:eX (je n) [jd,mG]with
  | false=>grind
  | true =>
   cases hr:MZ (je n)with
   | true=>grind
   | false =>
    obtain⟨_,hle,_⟩:=acB ho g.nd;have hb:fq (je n) true=true:=by unfold fq;grind
    have hv:fu (je n) true=aL 12 (je n):=by unfold fu;rw[hb,akY h3];rfl
    have hs:dS 1000 (je n)=aL 12 (je n):=(fun(m:Nat) (hm:m=12+988)=>(by rw[hm,sort_k 12 988 _ g.MU,M8 12 _ g.MU g.kd_]:dS m (je n)=aL 12 (je n))) 1000 (by omega);simp only[ab7,cond_false];rw[hb,hv,hs];refine⟨⟨rfl,rfl⟩,fun _=>⟨?_,rfl,trivial,trivial⟩⟩;have:=(g.iv ho hr).form M9 (by omega);rwa[akY h3]at this
 ·have ho:eX (je n) [jd,mG]=false:=by unfold eX;rw[jK h3];rfl
  have hf:OZ (je n)=true:=by unfold OZ aqw;rw[jK h3];simp
  grind
theorem awt{m a:An}(g:Gx m)(ho:eX m [jd,mG]=true)(hr:MZ m=false)(ha:a=aL 12 m)(sf:Sf exK EP a):wu a=a/\EO a=true:=by
 have h3:=(acB ho g.nd).1;have iv:=g.iv ho hr;have e1:je a=a:=by unfold je;rw[eT (by rw[sf.kind];decide)];rfl
 have hget:∀k,get a k=get m k:=fun k=>by
  rw[ha,awr h3 (g.len h3)];cases hq:get m k with
  | none=>rfl
  | some v =>
   have hm:v∈m.kids:=by
    have hb:aB m k=true:=by unfold aB;rw[hq];rfl
    have:=rA hb;unfold aG at this;rw[hq]at this;exact this
   rw[ahT,M9 _ (iv.kid v hm)]
 have hoa:eX a [jd,mG]=true:=by unfold eX;rw[kZ sf.kind,cond_false,afE];intro k hk;refine jF.2 ?_;have:exK k:=sf.key k hk;simpa[exK]using this
 have hf:∀k o,aN a k o=aN m k o/\bV a k o=bV m k o:=fun k o=>by unfold aN bV aB aG;rw[hget k];exact⟨rfl,rfl⟩
 have hra:MZ a=false:=by rw[<- hr];unfold MZ;grind
 unfold wu EO;rw[e1,hoa,hra];simp only[ab7,cond_false];exact J6 sf M9 sf.text rfl rfl
def awu(t:anY):Prop:=t=[]\/∃c r,t=c::r/\fC c=true
theorem aox:∀(s t:anY),s.all fC=true->(∀c r,t=c::r->fC c=false)->fJ (s++t)=s.length
 | [],[],_,_=>rfl
 | [],c::t,_,h=>by show fJ (c::t)=0;rw[fJ,h c t rfl];rfl
 | c::s,t,h,h2=>by rw[afo,abK]at h;show fJ (c::(s++t))=_;rw[fJ,h.1,cond_true,aox s t h.2 h2,List.length_cons]
theorem ael(u:Nat):∃c r,Bq u=c::r/\fC c=false:=by unfold Bq;split<;>exact⟨_,_,rfl,by decide⟩
theorem aCG{u:Nat}(hu:u<=3){t:anY}(ht:awu t):gU (Bq u++t)=(u,(Bq u).length):=by
 have:u=0\/u=1\/u=2\/u=3:=by omega
 rcases this with rfl | rfl | rfl | rfl
 ·rfl
 ·rcases ht with rfl | ⟨c,r,rfl,hc⟩
  ·rfl
  ·have:=xZ.1 hc;show(bif(((c.toNat:Nat):Int)==115)then((3,2):Nat×Nat)else(1,1))=_;rw[eT (by omega)];rfl
 ·rfl
 ·rfl
theorem atO{k:Int}(h0:0<=k)(h1:k<9223372036854775808){u:Nat}(hu:u<=3){t:anY}(ht:awu t) :
  gH (bA k++(Bq u++t))=bA k/\gX (bA k++(Bq u++t))=(u,(Bq u).length)/\gR (bA k++(Bq u++t))=t:=by
 obtain⟨_,_,q3⟩:=yY h0 h1;obtain⟨c,r,e,hc⟩:=ael u;have hp:fJ (bA k++(Bq u++t))=(bA k).length:=aox _ _ q3 fun c' r' h=>by rw[e]at h;cases h;exact hc
 have hx:gX (bA k++(Bq u++t))=(u,(Bq u).length):=by unfold gX;rw[hp,List.drop_left,aCG hu ht]
 refine⟨by unfold gH;rw[hp,List.take_left],hx,?_⟩;unfold gR;rw[hp,hx,<- ab9];grind
theorem aoy{n:Int}{i:Nat}(h:0<n / (bS i:Int)):Qm n i=bA (n / (bS i:Int))++Bq i:=by unfold Qm;rw[dT h];rfl
theorem akZ{n:Int}{i:Nat}(h:¬ 0<n / (bS i:Int)):Qm n i=[]:=by unfold Qm;rw[dF h];rfl
theorem atP:∀(k i:Nat) (n:Int),0<=n->n<=1099511627776->awu (JW k i n)
 | 0,_,_,_,_=>.inl rfl
 | k+1,i,n,h0,h1=>by
  obtain⟨a1,a2,a3,a4,a5,a6,a7⟩:=aal i h0 h1;unfold JW;by_cases hk:0<n / (bS i:Int)
  ·rw[aoy hk];obtain⟨q1,_,q3⟩:=yY a2 (by omega);cases ht:bA (n / (bS i:Int))with
   | nil=>rw[ht]at q1;cases q1
   | cons c r =>rw[ht,afo,abK]at q3;exact .inr ⟨c,_,rfl,q3.1⟩
  ·rw[akZ hk];exact atP k (i+1) _ a5 (by omega)
theorem aau:∀(k i:Nat) (n:Int) (f:Nat) (last:Int),k+i=4->0<=n->n<=1099511627776->last<i->(0<=last\/0<n)->(JW k i n).length<f->(i=4->n=0)->qG f last (JW k i n)=some n.toNat
 | 0,i,n,f,last,h1,h2,h3,h4,h5,h6,h7=>by
  have hn:=h7 (by omega);subst hn;cases f with
  | zero=>simp[JW]at h6
  | succ f =>show qG (f+1) last []=_;rw[qG,show(([]:anY)==[])=true from rfl,cond_true,dF (by omega)];rfl
 | k+1,i,n,f,last,h1,h2,h3,h4,h5,h6,h7=>by
  obtain⟨a1,a2,a3,a4,a5,a6,a7⟩:=aal i h2 h3;have hi4:i+1=4->n%(bS i:Int)=0:=fun e=>by
   obtain rfl:i=3:=by omega
   show n%1=0;omega
  unfold JW at h6 ⊢;by_cases hk:0<n / (bS i:Int)
  ·rw[aoy hk]at h6 ⊢;have hL:=ab4 i;obtain⟨g1,g2,g3⟩:=atO (t:=JW k (i+1) (n%(bS i:Int))) a2 (show n / (bS i:Int)<9223372036854775808 by omega) (show i<=3 by omega) (atP k (i+1) _ a5 (by omega));obtain⟨q1,q2,q3⟩:=yY a2 (show n / (bS i:Int)<9223372036854775808 by omega);rw[ab9]at h6 ⊢;have hne:bA (n / (bS i:Int))++(Bq i++JW k (i+1) (n%(bS i:Int)))≠[]:=fun e=>by
    have:=congrArg List.length e;obtain⟨c,r,e2,_⟩:=ael i;rw[e2]at this;simp at this
   have hne2:(bA (n / (bS i:Int))++(Bq i++JW k (i+1) (n%(bS i:Int)))==[])=false:=by simpa using hne
   have h48:(bA (n / (bS i:Int))==[48])=false:=by rw[<- ab3 q1];simp only[afB];omega
   have hlen:((Bq i).length==0)=false:=by obtain⟨c,r,e2,_⟩:=ael i;rw[e2];rfl
   have hbad:G8 last (bA (n / (bS i:Int))++(Bq i++JW k (i+1) (n%(bS i:Int))))=false:=by unfold G8;rw[g1,g2,g3,hlen,q1,h48,dF (show ¬ (i:Int)<=last by omega)];rfl
   cases f with
   | zero=>omega
   | succ f =>
    have hlt:(JW k (i+1) (n%(bS i:Int))).length<f:=by
     rw[List.length_append,List.length_append]at h6;have:(Bq i).length≠0:=by simpa using hlen
     omega
    have ih:=aau k (i+1) (n%(bS i:Int)) f (i:Int) (by omega) a5 (by omega) (by omega) (.inl (by omega)) hlt hi4;rw[qG,hne2,hbad,cond_false,cond_false,g1,g2,g3,ih,ahT];grind
  ·rw[akZ hk]at h6 ⊢;have hz:n%(bS i:Int)=n:=zero_mod i (by omega);rw[hz]at h6 hi4 ⊢;exact aau k (i+1) n f last (by omega) h2 h3 (by omega) h5 h6 hi4
theorem ak0{n:Int}(h0:0<=n)(h1:n<=1099511627776):yZ (zF n)=(n,0):=by
 unfold zF;rw[dF (show ¬ n<0 by omega),dF (show ¬ (1099511627776:Int)<n by omega),cond_false,cond_false];by_cases hz:n=0
 ·subst hz;decide
 ·rw[eT hz,cond_false];unfold yZ;rw[aau 4 0 n _ (-1) rfl h0 h1 (by decide) (.inr (by omega)) (Nat.lt_succ_self _) (fun h=>by cases h)];simp only[G9];grind
theorem aBs(n:Int):(zF n).length<=100:=by
 unfold zF;cases(bif decide (n<0)then true else decide ((1099511627776:Int)<n))with
 | true=>exact aa4 _
 | false =>
  rw[cond_false];cases n==0 with
  | true=>grind
  | false =>have l:=azb;have l0:=l n 0;have l1:=l (n%(bS 0:Int)) 1;have l2:=l (n%(bS 0:Int)%(bS 1:Int)) 2;have l3:=l (n%(bS 0:Int)%(bS 1:Int)%(bS 2:Int)) 3;show(Qm n 0++(Qm (n%(bS 0:Int)) 1++(Qm (n%(bS 0:Int)%(bS 1:Int)) 2++(Qm (n%(bS 0:Int)%(bS 1:Int)%(bS 2:Int)) 3++[])))).length<=100;grind
theorem Qv(s:anY):0<=wm s/\wm s<=1099511627776:=by
 unfold wm yZ;cases qG (s.length+1) (-1) s with
 | none=>exact⟨by decide,by decide⟩
 | some t =>simp only[G9];grind
def hV(n:An):An:=(hP n).1
def hE(n:An):Int:=(hP n).2
theorem lf5{m:An}(h3:m.kind=3)(hl:m.keys.length=m.kids.length)(hn:m.keys.Nodup):(hLf m==0)=eX m TN:=by
 have h:=SQ hn (show TN.Nodup by decide);have e:((TN.filter fun k=>fO m.keys k).length:Int)=(((b2 (fO m.keys bR)+b2 (fO m.keys dW))+b2 (fO m.keys fF))+b2 (fO m.keys bU))+b2 (fO m.keys iZ):=by unfold TN;cases h1:fO m.keys bR<;>cases h2:fO m.keys dW<;>cases h4:fO m.keys fF<;>cases h5:fO m.keys bU<;>cases h6:fO m.keys iZ<;>simp[List.filter,h1,h2,h4,h5,h6,b2]
 unfold hLf eX;rw[ru h3 hl,ru h3 hl,ru h3 hl,ru h3 hl,ru h3 hl,kZ h3,cond_false];grind
theorem atQ(n:An)(l:Int)(k:anY)(hl:l<=1000):M0 n k l=((bV n k []&&(adR (aN n k Iz)==0))&&decide (l<=wm (aN n k Iz))):=by
 have e1:adR Iz=0:=by decide
 have e2:wm Iz=1000:=by decide
 unfold M0 bV aN;grind
theorem awv:O1 VN 65536=0/\CY VN 65536=0:=by decide
theorem ak1(n:An):nE n bU=He n:=by
 unfold nE He aN;cases aB n bU with
 | false=>rw[acn,cond_true,cond_false,awv.2]
 | true=>rfl
theorem aBt(n:An)(b:Bool):bdR n b=(bif(bif b then true else !(N8 n bU))then true else decide ((10:Int)<nE n bU)):=by
 rw[ak1];have hb:=JV (aG n bU).text 65536 (by decide);unfold bdR N8 He bV aN;cases aB n bU with
 | false=>simp only[acn,cond_true,cond_false,awv.1,awv.2];cases b<;>rfl
 | true =>grind
def Gh0(n:An):Prop:=n.kind=3->n.keys.length=n.kids.length/\n.keys.Nodup
theorem aCH{n:An}(hn:Gh0 n):(aj3 n||!(hLf n==0))=Ia n:=by
 by_cases h3:n.kind=3
 ·obtain⟨hl,hd⟩:=hn h3;rw[lf5 h3 hl hd];unfold aj3 Ia Wq;rw[aBt];have hI:=Qv (aN n dW Iz);have hS:=Qv (aN n fF Iz);rw[atQ n 1 dW (by decide),atQ n 0 fF (by decide),Wy,dT hS.1];unfold VR VT VR MB KI;rw[kZ h3,J7];have hz:(wm (aN n dW Iz)==0) = !(decide ((1:Int)<=wm (aN n dW Iz))):=by
   by_cases h:wm (aN n dW Iz)=0
   ·rw[jL h,dF (by omega)];rfl
   ·rw[eT h,dT (by omega)];rfl
  have hr:tsR (aG n bR) = !(JY (aG n bR)==0):=rfl;grind
 ·have o:eX n TN=false:=by unfold eX;rw[jK h3];rfl
  have b:aj3 n=true:=by
   have hD:KI n=true:=by unfold KI;rw[jK h3];rfl
   have hT:MB n (KI n)=true:=by unfold MB;rw[hD];rfl
   have hI:VT n (MB n (KI n))=true:=by unfold VT VR;rw[hT];rfl
   have hS:VR n fF (VT n (MB n (KI n)))=true:=by unfold VR;rw[hI];rfl
   unfold aj3 bdR;rw[hS];rfl
  unfold Ia;rw[b,o];rfl
theorem aBu{n:An}(h:Ia n=false):Z6 n=(II n==kg):=by
 unfold Ia at h;cases ho:eX n TN with
 | false=>rw[ho]at h;cases h
 | true =>
  rw[ho]at h;unfold Z6 II;cases hg:aB n bR with
  | false=>grind
  | true =>
   rw[hg]at h;simp only[cond_true,cond_false,ab7]at h ⊢;cases hk:JY (aG n bR)==0 with
   | true=>rw[hk]at h;cases h
   | false =>
    have:tsN (aG n bR)=(JY (aG n bR)==2):=by unfold JY at hk;unfold tsN JY;grind
    grind
theorem aCI{n:Int}(h0:0<=n)(h1:n<=1099511627776):(zF n==[])=false:=by
 cases h:zF n with
 | cons c t=>rfl
 | nil =>
  have:=ak0 h0 h1;rw[h]at this;have e:yZ []=(0,3):=by decide
  grind
theorem Wz(n:An)(k:anY)(l:Int):(!(q8 n k l==[]))=aB n k:=by
 unfold q8;cases aB n k with
 | false=>rfl
 | true=>rw[cond_true,aCI (Qv _).1 (Qv _).2];rfl
def isK(k:anY):Prop:=k∈TN
def mP(y:An):Prop:=y=bI y.text
theorem XK(y:An)(h:mP y):wg 10000 11 y=true/\kd 11 y=true:=by rw[h];exact⟨pR _ 10,by simp[kd,bI]⟩
theorem Na(y:An)(h:mP y):aL 11 y=y:=by rw[h];rfl
def BF(b:Bool)(k:anY)(v o:An):An:=bif b then bg o k v else o
theorem XL{b:Bool}{k:anY}{v o:An}(h:Iv isK mP o)(hk:isK k)(hv:mP v):Iv isK mP (BF b k v o):=by
 unfold BF;cases b with
 | true=>exact h.put hk hv
 | false=>exact h
theorem XM{b:Bool}{k:anY}{v o:An}(h:Iv isK mP o)(q:anY):lk (BF b k v o).keys (BF b k v o).kids q=if q=k then(bif b then some v else lk o.keys o.kids q)else lk o.keys o.kids q:=by
 unfold BF;cases b with
 | true=>rw[cond_true,akR h.kind h.len];rfl
 | false =>rw[cond_false,cond_false];split<;>rfl
theorem atS(n:An):rO n=BF (decide (0<nE n bU)) bU (bI (bA (nE n bU))) (BF (aB n fF) fF (bI (q8 n fF 0)) (BF (aB n dW) dW (bI (q8 n dW 1)) (BF (aB n bR) bR (bI (JZ (aG n bR))) zn))):=by unfold rO O9 wz SI BF;rw[Wz,Wz]
theorem kyT:isK bR/\isK dW/\isK fF/\isK bU/\isK iZ:=by unfold isK;decide
theorem IQ(s:anY):mP (bI s):=rfl
theorem aq0(b:Bool)(v:An)(hv:mP v):Iv isK mP (BF b bR v zn):=XL Iv.nil kyT.1 hv
theorem ax1(b c:Bool)(v u:An)(hv:mP v)(hu:mP u):Iv isK mP (BF c dW u (BF b bR v zn)):=XL (aq0 b v hv) kyT.2.1 hu
theorem ax2(b c d:Bool)(v u t:An)(hv:mP v)(hu:mP u)(ht:mP t):Iv isK mP (BF d fF t (BF c dW u (BF b bR v zn))):=XL (ax1 b c v u hv hu) kyT.2.2.1 ht
theorem ahG(n:An):Iv isK mP (rO n):=by rw[atS];exact XL (ax2 _ _ _ _ _ _ rfl rfl rfl) kyT.2.2.2.1 rfl
def hL(n:An)(q:anY):Option An:=if q=bU then(bif decide (0<nE n bU)then some (bI (bA (nE n bU)))else none)
 else if q=fF then(bif aB n fF then some (bI (q8 n fF 0))else none)
 else if q=dW then(bif aB n dW then some (bI (q8 n dW 1))else none)
 else if q=bR then(bif aB n bR then some (bI (JZ (aG n bR)))else none)else none
theorem ax3(n:An)(q:anY):lk (rO n).keys (rO n).kids q=hL n q:=by
 rw[atS,XM (ax2 _ _ _ _ _ _ (IQ _) (IQ _) (IQ _)),XM (ax1 _ _ _ _ (IQ _) (IQ _)),XM (aq0 _ _ (IQ _)),XM Iv.nil];unfold hL;have hz:lk zn.keys zn.kids q=none:=rfl;rw[hz];by_cases h1:q=bU
 ·subst h1;simp only[if_true,if_neg (show bU≠fF by decide),if_neg (show bU≠dW by decide),if_neg (show bU≠bR by decide)]
 grind
theorem aCJ(n:An):hO n=rO n:=by
 have e1:O4 n zn=SI n:=by
  unfold O4 SI;cases aB n bR with
  | true=>exact Iv.nil.with_ (ψ:=isK) (φ:=mP) _ _
  | false=>rfl
 have i1:Iv isK mP (SI n):=by have:SI n=BF (aB n bR) bR (bI (JZ (aG n bR))) zn:=rfl;rw[this];exact aq0 _ _ rfl
 have ep:∀(k:anY) (l:Int) (o:An),Iv isK mP o->O5 n k o=wz n k l o:=fun k l o h=>by
  unfold O5 wz;rw[Wz];have:q8 n k l=bif aB n k then zF (wm (aG n k).text)else[]:=rfl
  cases hg:aB n k with
  | false=>rfl
  | true =>
   rw[this,hg,cond_true,cond_true,cond_true,h.with_];have:aN n k Iz=(aG n k).text:=by unfold aN;rw[hg];rfl
   rw[this];rfl
 have i2:Iv isK mP (wz n dW 1 (SI n)):=by
  unfold wz;cases !(q8 n dW 1==[])with
  | true=>exact i1.put kyT.2.1 rfl
  | false=>exact i1
 have i3:Iv isK mP (wz n fF 0 (wz n dW 1 (SI n))):=by
  conv=>rhs;unfold wz
  cases !(q8 n fF 0==[])with
  | true=>exact i2.put kyT.2.2.1 rfl
  | false=>exact i2
 unfold hO rO;rw[e1,ep dW 1 _ i1,ep fF 0 _ i2];unfold aqC O9;rw[ak1];cases decide (0<He n)with
 | true=>exact i3.with_ _ _
 | false=>rfl
theorem aww:FD (aY zn iZ (fK true)) false=KD/\FE (aY zn iZ (fK true)) false=0:=by
 have e:aY zn iZ (fK true)=bg zn iZ (bI kg):=Iv.nil.with_ (ψ:=isK) (φ:=mP) _ _;have i:Iv isK mP (bg zn iZ (bI kg)):=Iv.nil.put kyT.2.2.2.2 rfl;rw[e];obtain⟨h1,h2⟩:=i.dn XK;have hm:bg zn iZ (bI kg)=KD:=FM (.inl rfl) rfl (by simp[zn]) _;have sd:Sf isK mP KD:=⟨rfl,rfl,by unfold Pl.SS;decide,rfl,by decide,fun k hk=>by rw[List.mem_singleton.1 hk];exact kyT.2.2.2.2,fun y hy=>by rw[List.mem_singleton.1 hy];rfl⟩
 obtain⟨q1,q2⟩:=J6 (o':=bg zn iZ (bI kg)) sd Na (by rw[hm];rfl) (by rw[hm]) (by rw[hm]);rw[h1,h2,q1,q2];exact⟨rfl,rfl⟩
theorem atT{n:An}(hn:Gh0 n):hV n=Bv n/\hE n=(bif Bw n then 0 else 10):=by
 unfold hV hE hP aqD Bv Bw;rw[aCH hn];cases h:Ia n with
 | true=>exact⟨rfl,rfl⟩
 | false =>
  rw[aBu h];simp only[cond_false];cases II n==kg with
  | true=>exact aww
  | false =>rw[aCJ];exact(ahG n).dn XK
theorem aCK(n:An)(hb:fq (rO n) true=true):(rO n).keys.length<=32:=by unfold fq at hb;grind
theorem azo{o:An}(h:Iv isK mP o)(q:anY):get (aL 12 (iM o)) q=lk o.keys o.kids q:=by
 have e:aL 12 (iM o)=⟨3,o.text,Pl.bn o.keys,(Pl.bn o.keys).map fun k=>aL 11 (aG (iM o) k)⟩:=rfl;rw[e];have:get (⟨3,o.text,Pl.bn o.keys,(Pl.bn o.keys).map fun k=>aL 11 (aG (iM o) k)⟩:An) q=lk (Pl.bn o.keys) ((Pl.bn o.keys).map fun k=>aL 11 (aG (iM o) k)) q:=if_pos rfl;rw[this];have hg:get (iM o) q=lk o.keys o.kids q:=if_pos rfl;by_cases hq:q∈o.keys
 ·rw[akP _ _ (Pl.jY.2 hq)];have hs:(lk o.keys o.kids q).isSome=true:=by rw[pU h.len];exact jF.2 hq
  cases hl:lk o.keys o.kids q with
  | none=>rw[hl]at hs;cases hs
  | some y =>
   have hv:aG (iM o) q=y:=by unfold aG;rw[hg,hl];rfl
   have hb:aB (iM o) q=true:=by unfold aB;rw[hg,hl];rfl
   rw[Na _ (h.kid _ (rA (a:=iM o) hb)),hv]
 ·have h1:lk o.keys o.kids q=none:=aeg h.len hq;have h2:lk (Pl.bn o.keys) ((Pl.bn o.keys).map fun k=>aL 11 (aG (iM o) k)) q=none:=aeg (by simp) (fun hm=>hq (Pl.jY.1 hm));rw[h1,h2]
theorem awx{o a:An}(h:Iv isK mP o)(ha:Sf isK mP a)(he:∀q,lk o.keys o.kids q=get a q):fu o true=a/\fq o true=true:=by
 have hga:∀q,get a q=lk a.keys a.kids q:=fun q=>if_pos ha.kind
 have hmem:∀q,q∈o.keys↔q∈a.keys:=fun q=>by have h1:=pU (k:=q) h.len;have h2:=pU (k:=q) ha.len;rw[he,hga,h2]at h1;rw[<- jF,<- jF,h1]
 have hs:Pl.bn o.keys=a.keys:=Pl.tJ ha.ss fun q=>(hmem q).symm
 have hlen:o.keys.length<=32:=by
  have:=N9 o.keys a.keys h.nd fun x hx=>(hmem x).1 hx
  have:=ha.le;omega
 have hb:fq o true=true:=by unfold fq;grind
 refine⟨?_,hb⟩;unfold fu;rw[hb,cond_true];have e:aL 12 (iM o)=⟨3,o.text,Pl.bn o.keys,(Pl.bn o.keys).map fun k=>aL 11 (aG (iM o) k)⟩:=rfl;have e2:aL 12 a=⟨3,a.text,Pl.bn a.keys,(Pl.bn a.keys).map fun k=>aL 11 (aG a k)⟩:=by show(bif a.kind==3 then _ else _)=_;rw[jL ha.kind,cond_true,ha.kind]
 have hv:∀k,aG (iM o) k=aG a k:=fun k=>by unfold aG;rw[<- he k];have:get (iM o) k=lk o.keys o.kids k:=if_pos rfl;rw[this]
 rw[<- ha.sorted Na,e,e2,hs,h.text,ha.text,show Pl.bn a.keys=a.keys from Pl.tJ ha.ss fun _=>Iff.rfl];grind
structure Fh (n a:An):Prop where
 sf:Sf isK mP a
 WA:∀q,get a q=hL n q
theorem aBv(n:An):0<=nE n bU/\nE n bU<=65536:=by rw[ak1];exact JV _ _ (by decide)
theorem Fh.b{n a:An}(h:Fh n a):(aB a bU=decide (0<nE n bU)/\aB a fF=aB n fF/\aB a dW=aB n dW/\aB a bR=aB n bR/\aB a iZ=false):=by
 unfold aB;rw[h.WA,h.WA,h.WA,h.WA,h.WA];unfold hL;simp only[if_true,if_neg (show fF≠bU by decide),if_neg (show dW≠bU by decide),if_neg (show dW≠fF by decide),if_neg (show bR≠bU by decide),if_neg (show bR≠fF by decide),if_neg (show bR≠dW by decide),if_neg (show iZ≠bU by decide),if_neg (show iZ≠fF by decide),if_neg (show iZ≠dW by decide),if_neg (show iZ≠bR by decide)];refine⟨?_,?_,?_,?_,rfl⟩
 ·cases decide (0<nE n bU)<;>rfl
 ·cases hg:aB n fF<;>(unfold aB at hg;rw[hg];rfl)
 ·cases hg:aB n dW<;>(unfold aB at hg;rw[hg];rfl)
 ·cases hg:aB n bR<;>(unfold aB at hg;rw[hg];rfl)
theorem Fh.v{n a:An}(h:Fh n a):(0<nE n bU->aG a bU=bI (bA (nE n bU)))/\(aB n fF=true->aG a fF=bI (q8 n fF 0))/\(aB n dW=true->aG a dW=bI (q8 n dW 1))/\(aB n bR=true->aG a bR=bI (JZ (aG n bR))):=by
 unfold aG;rw[h.WA,h.WA,h.WA,h.WA];unfold hL;simp only[if_true,if_neg (show fF≠bU by decide),if_neg (show dW≠bU by decide),if_neg (show dW≠fF by decide),if_neg (show bR≠bU by decide),if_neg (show bR≠fF by decide),if_neg (show bR≠dW by decide)];refine⟨fun g=>?_,fun g=>?_,fun g=>?_,fun g=>?_⟩
 ·rw[dT g];rfl
 ·rw[g];rfl
 ·rw[g];rfl
 ·rw[g];rfl
theorem Fh.sp{n a:An}(h:Fh n a):q8 a dW 1=q8 n dW 1/\q8 a fF 0=q8 n fF 0/\(∀l,M0 n dW l=true->M0 a dW l=true)/\(∀l,M0 n fF l=true->M0 a fF l=true):=by
 obtain⟨b1,b2,b3,b4,b5⟩:=h.b;obtain⟨v1,v2,v3,v4⟩:=h.v;have key:∀(k:anY) (l:Int),aB a k=aB n k->(aB n k=true->aG a k=bI (q8 n k l))->q8 a k l=q8 n k l/\∀l',M0 n k l'=true->M0 a k l'=true:=fun k l hb hv=>by
  unfold q8 M0;rw[hb];cases hg:aB n k with
  | false=>exact⟨rfl,fun _ _=>rfl⟩
  | true =>
   have hd:=Qv (aG n k).text;have hv:=hv hg;have hx:q8 n k l=zF (wm (aG n k).text):=by unfold q8;rw[hg];rfl
   have ht:(aG a k).text=zF (wm (aG n k).text):=by rw[hv,hx];rfl
   have hk:(aG a k).kind=1:=by rw[hv];rfl
   have hp:=ak0 hd.1 hd.2;have p1:wm (zF (wm (aG n k).text))=wm (aG n k).text:=by show(yZ (zF (wm (aG n k).text))).1=_;rw[hp]
   have p2:adR (zF (wm (aG n k).text))=0:=by show(yZ (zF (wm (aG n k).text))).2=_;rw[hp]
   simp only[cond_true];rw[ht,hk,p1,p2];refine⟨rfl,fun l' hl'=>?_⟩;cases h1:(bif(aG n k).kind==1 then adR (aG n k).text==0 else false)with
   | false=>rw[h1]at hl';cases hl'
   | true=>rw[h1]at hl';exact hl'
 obtain⟨i1,i2⟩:=key dW 1 b3 v3;obtain⟨s1,s2⟩:=key fF 0 b2 v2;exact⟨i1,s1,i2,s2⟩
theorem Fh.nu{n a:An}(h:Fh n a):nE a bU=nE n bU/\N8 a bU=true:=by
 obtain⟨b1,_⟩:=h.b;obtain⟨v1,_⟩:=h.v;have hb:=aBv n;have eb:N8 a bU=bif aB a bU then(bif(bif(aG a bU).kind==1 then O1 (aG a bU).text 65536==0 else false)then decide (0<CY (aG a bU).text 65536)else false)else true:=rfl
 have ev:nE a bU=bif aB a bU then CY (aG a bU).text 65536 else 0:=rfl
 rw[eb,ev,b1];by_cases hp:0<nE n bU
 ·have ht:=Z5 hb.1 hb.2 (by omega);have t1:CY (bA (nE n bU)) 65536=nE n bU:=congrArg Prod.fst ht;have t2:O1 (bA (nE n bU)) 65536=0:=congrArg Prod.snd ht;rw[dT hp,v1 hp];show CY (bA (nE n bU)) 65536=nE n bU/\(bif(bif(1:Int)==1 then O1 (bA (nE n bU)) 65536==0 else false)then decide (0<CY (bA (nE n bU)) 65536)else false)=true;rw[t1,t2,dT hp];exact⟨rfl,rfl⟩
 grind
theorem Fh.lks{n a:An}(h:Fh n a)(q:anY):hL a q=hL n q:=by
 obtain⟨b1,b2,b3,b4,b5⟩:=h.b;obtain⟨v1,v2,v3,v4⟩:=h.v;obtain⟨s1,s2,_⟩:=h.sp;unfold hL;rw[h.nu.1,b2,b3,b4,s1,s2];cases hg:aB n bR with
 | false=>rfl
 | true=>rw[v4 hg];rfl
theorem amM{n a:An}(h:Fh n a)(hno:Ia n=false):Bv a=a/\Bw a=true:=by
 obtain⟨b1,b2,b3,b4,b5⟩:=h.b;obtain⟨v1,v2,v3,v4⟩:=h.v;obtain⟨s1,s2,s3,s4⟩:=h.sp;have hk:(bif aB a bR then JY (aG a bR)==0 else false)=false/\II a=o7:=by
  have fd:aN a iZ o7=o7:=by unfold aN;rw[b5];rfl
  unfold II;rw[b4,fd];cases hg:aB n bR with
  | false=>exact⟨rfl,rfl⟩
  | true=>rw[v4 hg];exact⟨rfl,rfl⟩
 have ho:eX a TN=true:=by unfold eX;rw[kZ h.sf.kind,cond_false,afE];exact fun k hk=>jF.2 (h.sf.key k hk)
 have ht:KA a iZ o7=true:=by
  have fd:aN a iZ o7=o7:=by unfold aN;rw[b5];rfl
  have fb:bV a iZ []=true:=by unfold bV;rw[b5];rfl
  rw[Wy,fb,fd];rfl
 have hbad:Wq n=false:=by unfold Ia at hno;grind
 have hparts:M0 n dW 1=true/\M0 n fF 0=true/\decide ((10:Int)<nE n bU)=false:=by unfold Wq at hbad;grind
 have hna:Ia a=false:=by unfold Ia Wq;rw[ho,hk.1,ht,s3 1 hparts.1,s4 0 hparts.2.1,h.nu.2,h.nu.1,hparts.2.2];rfl
 obtain⟨d1,d2⟩:=awx (ahG a) h.sf fun q=>by rw[ax3,h.lks,h.WA]
 unfold Bv Bw;rw[hna,hk.2,d1,d2];exact⟨rfl,rfl⟩
theorem azp{n:An}(hb:fq (rO n) true=true):Fh n (fu (rO n) true):=by
 have h32:=aCK n hb;have e:fu (rO n) true=aL 12 (iM (rO n)):=by unfold fu;rw[hb];rfl
 rw[e];exact⟨(ahG n).form Na h32,fun q=>by rw[azo (ahG n),ax3]⟩
theorem atU:Bv KD=KD/\Bw KD=true:=by
 have h1:Ia KD=false:=by decide
 have h2:II KD=kg:=by decide
 unfold Bv Bw;rw[h1,h2];exact⟨rfl,rfl⟩
structure Ip (P:anY->An->Prop) (o:An):Prop where
 kind:o.kind=0\/o.kind=3
 none_:o.kind=0->o.keys=[]
 text:o.text=[]
 len:o.keys.length=o.kids.length
 nd:o.keys.Nodup
 val:∀k v,lk o.keys o.kids k=some v->P k v
def Fa(P:anY->An->Prop):List (anY)->List An->Prop
 | [],[]=>True
 | k::ks,v::vs=>P k v/\Fa P ks vs
 | _,_=>False
section
variable {P:anY->An->Prop}
theorem Ip.nil{k:Int}(hk:k=0\/k=3):Ip P ⟨k,[],[],[]⟩:=⟨hk,fun _=>rfl,rfl,rfl,aj7,fun k v h=>by cases h⟩
theorem Ip.put{o:An}(h:Ip P o){k:anY}{v:An}(hv:P k v):Ip P (bg o k v):=by
 obtain⟨h1,h2,h3,h4⟩:=EY (k:=k) (v:=v) h.kind h.len;have e:=aaq h.kind k v;refine⟨.inr h1,(fun e=>by rw[h1]at e;cases e),(by rw[e]),h2,?_,fun q w hq=>?_⟩
 ·rw[e];show(o.keys++CX (fO o.keys k) k).Nodup;by_cases hm:k∈o.keys
  ·rw[jF.2 hm];simpa[CX]using h.nd
  ·rw[Ww hm];show(o.keys++[k]).Nodup;rw[List.nodup_append];exact⟨h.nd,by simp,fun a ha b hb=>by rw[List.mem_singleton.1 hb];intro e;exact hm (e▸ha)⟩
 ·rw[akR h.kind h.len]at hq;by_cases hqk:q=k
  ·grind
  ·rw[if_neg hqk]at hq;exact h.val q w hq
theorem Ip.there{o:An}(h:Ip P o)(k:anY):aB o k=fO o.keys k:=by
 unfold aB get;rcases h.kind with e | e
 ·rw[if_neg (by rw[e];decide),h.none_ e];rfl
 ·rw[if_pos e];exact pU h.len
theorem Ip.with_{o:An}(h:Ip P o)(k:anY)(v:An):aY o k v=bg o k v:=aap h.kind h.len h.nd
theorem aq1:∀{ks:List (anY)} {vs:List An},ks.length=vs.length->ks.Nodup->∀y∈vs, ∃k,lk ks vs k=some y
 | [],[],_,_,y,hy=>by cases hy
 | a::t,x::w,h,hn,y,hy=>by
  have hn':=List.nodup_cons.1 hn;rcases am8.1 hy with rfl | hy
  ·exact⟨a,by unfold lk;rw[if_pos rfl]⟩
  ·obtain⟨k,hk⟩:=aq1 (by simpa using h) hn'.2 y hy;refine⟨k,?_⟩;unfold lk;rw[if_neg (fun e:k=a=>hn'.1 (e▸atE hk))];exact hk
 | [],_::_,h,_,_,_=>by simp at h
 | _::_,[],h,_,_,_=>by simp at h
theorem Ip.mem{o:An}(h:Ip P o){y:An}(hy:y∈o.kids):∃k,P k y:=by obtain⟨k,hk⟩:=aq1 h.len h.nd y hy;exact⟨k,h.val k y hk⟩
theorem Ip.leafs{o:An}(h:Ip P o){d:Nat}(hP:∀k y,P k y->wg 10000 d y=true/\kd d y=true)(hl:o.keys.length<=10000):wg 10000 (d+1) (iM o)=true/\kd (d+1) (iM o)=true:=by
 have hk:∀y∈o.kids,wg 10000 d y=true/\kd d y=true:=fun y hy=>by obtain⟨k,hp⟩:=h.mem hy;exact hP k y hp
 exact⟨dQ.2 ⟨hl,by have:=h.len;show o.kids.length<=10000;omega,fun _=>h.len,fun y hy=>(hk y hy).1⟩,
  Hz.2 ⟨⟨⟨show(0:Int)<=3 by decide,show(3:Int)<=3 by decide⟩,fun e=>absurd rfl e⟩,fun e=>absurd (show(3:Int)<2 from e) (by decide),fun y hy=>(hk y hy).2⟩⟩
theorem Qw{d:Nat}{x:An}(hd:d<=1000)(hw:wg 10000 d x=true)(hk:kd d x=true):dS 1000 x=aL d x:=by
 have e:∀m:Nat,m=d+(1000-d)->dS m x=aL d x:=fun m hm=>by rw[hm,sort_k d (1000-d) _ hw,M8 d _ hw hk]
 exact e 1000 (by omega)
theorem Ip.dn{o:An}(h:Ip P o)(hP:∀k y,P k y->wg 10000 11 y=true/\kd 11 y=true):FD o false=fu o true/\FE o false=(bif fq o true then 0 else 10):=by
 unfold FD FE fu fq abY;simp only[cond_false,ab7];by_cases h32:(32:Int)<(o.keys.length:Int)
 ·rw[dT h32];exact⟨rfl,rfl⟩
 ·obtain⟨hw,hk⟩:=h.leafs (d:=11) hP (by omega);rw[dF h32];simp only[cond_false,acn,cond_true];exact⟨Qw (by decide) hw hk,trivial⟩
structure Sp (P:anY->An->Prop) (a:An):Prop where
 kind:a.kind=3
 text:a.text=[]
 ss:Pl.SS a.keys
 all:Fa P a.keys a.kids
theorem Nb:∀{ks:List (anY)} {vs:List An},Fa P ks vs->ks.length=vs.length
 | [],[],_=>rfl
 | _::ks,_::vs,h=>by simp only[List.length_cons,Nb h.2]
 | [],_::_,h=>h.elim
 | _::_,[],h=>h.elim
theorem Qx:∀{ks:List (anY)} {vs:List An},Fa P ks vs->∀y∈vs, ∃k,P k y
 | [],[],_,y,hy=>by cases hy
 | [],_::_,h,_,_=>h.elim
 | _::_,[],h,_,_=>h.elim
 | _::ks,v::vs,h,y,hy=>by
  rcases am8.1 hy with rfl | hy
  ·exact⟨_,h.1⟩
  ·exact Qx h.2 y hy
theorem acD:∀{ks:List (anY)} {vs:List An},Fa P ks vs->∀k∈ks, ∃v,P k v
 | [],[],_,y,hy=>by cases hy
 | [],_::_,h,_,_=>h.elim
 | _::_,[],h,_,_=>h.elim
 | _::ks,v::vs,h,y,hy=>by
  rcases am8.1 hy with rfl | hy
  ·exact⟨_,h.1⟩
  ·exact acD h.2 y hy
theorem atV(g:anY->An):∀(l:List (anY)),(∀k∈l,P k (g k))->Fa P l (l.map g)
 | [],_=>trivial
 | k::l,h=>⟨h k abI,atV g l fun q hq=>h q (abD _ hq)⟩
theorem Ip.form{o:An}(h:Ip P o){d:Nat}(hs:∀k y,P k y->aL d y=y):Sp P (aL (d+1) (iM o)):=by
 have e:aL (d+1) (iM o)=⟨3,o.text,Pl.bn o.keys,(Pl.bn o.keys).map fun k=>aL d (aG (iM o) k)⟩:=rfl;rw[e];refine⟨rfl,h.text,(Pl.BP o.keys).1,atV _ _ fun k hk=>?_⟩;have hk':=Pl.jY.1 hk;have hi:(lk o.keys o.kids k).isSome=true:=by rw[pU h.len];exact jF.2 hk'
 have hg:aG (iM o) k=(lk o.keys o.kids k).getD zn:=by show(get (iM o) k).getD zn=_;rw[show get (iM o) k=lk o.keys o.kids k from if_pos rfl]
 cases hl:lk o.keys o.kids k with
 | none=>rw[hl]at hi;cases hi
 | some v =>have hp:=h.val k v hl;grind
theorem Sp.sorted{a:An}(h:Sp P a){d:Nat}(hs:∀k y,P k y->aL d y=y):aL (d+1) a=a:=by
 have hk:Pl.bn a.keys=a.keys:=Pl.tJ h.ss fun _=>Iff.rfl
 have hl:=Nb h.all;have e:aL (d+1) a=⟨a.kind,a.text,Pl.bn a.keys,(Pl.bn a.keys).map fun k=>aL d (aG a k)⟩:=by show(bif a.kind==3 then _ else _)=_;rw[jL h.kind];rfl
 rw[e,hk];have e2:(a.keys.map fun k=>aL d (aG a k))=a.keys.map fun k=>(lk a.keys a.kids k).getD zn:=by
  refine ahY fun k hk=>?_
  have hg:aB a k=true:=by show(get a k).isSome=true;rw[show get a k=lk a.keys a.kids k from if_pos h.kind,pU hl];exact jF.2 hk
  obtain⟨q,hp⟩:=Qx h.all _ (rA hg);rw[hs q _ hp];show(get a k).getD zn=_;rw[show get a k=lk a.keys a.kids k from if_pos h.kind]
 rw[e2,Qs _ _ hl (lD h.ss)];exact fP a
theorem Sp.leafs{a:An}(h:Sp P a){d:Nat}(hP:∀k y,P k y->wg 10000 d y=true/\kd d y=true)(hl:a.keys.length<=10000):wg 10000 (d+1) a=true/\kd (d+1) a=true:=by
 have hk:∀y∈a.kids,wg 10000 d y=true/\kd d y=true:=fun y hy=>by obtain⟨k,hp⟩:=Qx h.all y hy;exact hP k y hp
 have hlen:=Nb h.all;exact⟨dQ.2 ⟨hl,by omega,fun _=>hlen,fun y hy=>(hk y hy).1⟩,
  Hz.2 ⟨⟨⟨by rw[h.kind];decide,by rw[h.kind];decide⟩,fun e=>absurd h.kind e⟩,fun e=>absurd (h.kind▸e) (by decide),fun y hy=>(hk y hy).2⟩⟩
theorem aem{o:An}(ho:o.kind=0\/o.kind=3)(hl:o.keys.length=o.kids.length)(hn:o.keys.Nodup){k:anY}{v:An}(hk:k∉o.keys):bg o k v=⟨3,[],o.keys++[k],o.kids++[v]⟩/\(o.keys++[k]).Nodup:=by refine⟨FM ho hl hk v,?_⟩;grind
end
theorem aoz{P:anY->An->Prop}{a o':An}(h:Sp P a)(hs:∀k y,P k y->aL 11 y=y)(h32:a.keys.length<=32)(h1:o'.text=[])(h2:o'.keys=a.keys)(h3:o'.kids=a.kids):fu o' true=a/\fq o' true=true:=by
 have hm:iM o'=a:=by show(⟨3,o'.text,o'.keys,o'.kids⟩:An)=a;rw[h1,h2,h3,<- h.text,<- h.kind];exact fP a
 have hb:fq o' true=true:=by unfold fq;grind
 unfold fu;rw[hb,hm,h.sorted hs];exact⟨rfl,rfl⟩
theorem atW{P:anY->An->Prop}(hw:∀k y,P k y->wg 10000 11 y=true/\kd 11 y=true)(hs:∀k y,P k y->aL 11 y=y)(p:An×Bool)(q:Option An)(h:(p.2=true/\q=none)\/∃o',q=some o'/\p=(o',false)/\Ip P o') :
  (FD p.1 p.2=oV q/\FE p.1 p.2=(bif oB q then 0 else 10))/\(oB q=true->Sp P (oV q)/\(oV q).keys.length<=32):=by
 rcases h with⟨hb,rfl⟩ | ⟨o',rfl,rfl,hi⟩
 ·rw[hb];exact⟨acy _,fun h=>by cases h⟩
 ·refine⟨hi.dn hw,fun hb=>?_⟩;have hb:fq o' true=true:=hb;have h32:o'.keys.length<=32:=by
   unfold fq at hb;grind
  have e:oV (some o')=aL 12 (iM o'):=by show fu o' true=_;unfold fu;rw[hb];rfl
  rw[e];refine⟨hi.form hs,?_⟩;show(Pl.bn o'.keys).length<=32;exact Nat.le_trans (Pl.sw _) h32
theorem atX(s:anY):(jo s).2≠0->(jo s).1=DW:=by
 have hf:∀p,(qJ p).2≠0->(qJ p).1=DW:=fun p=>by unfold qJ;grind
 have hp:∀h pr,(vD h pr).2≠0->(vD h pr).1=DW:=fun h pr=>by
  match hl:bY 58 h with
  | []=>exact absurd hl (pQ _ _)
  | [a]=>rw[pP1 hl];exact hf _
  | [a,b]=>rw[pP2 hl];exact hf _
  | [a,b,c] =>rw[pP3 hl];grind
  | a::b::c::d::t=>rw[pP4 hl];exact fun _=>rfl
 unfold jo;cases AU s [47]<;>exact hp _ _
theorem ak2{p:Port}(h:kX p=false):Au p=[]:=by unfold Au;rw[h];rfl
theorem aCL:kX DW=false:=rfl
theorem azq(p:Port):(Au p).length<=p.host.length+60:=by
 have h1:=sH p.jZ;have h2:=sH p.out;unfold Au;cases !(kX p)with
 | true=>exact aa4 _
 | false =>
  have hO:(KO p).length<=21:=by unfold KO;cases decide (0<p.out)with | true=>exact h2 | false=>exact aa4 _
  have hH:(YQ p).length<=p.host.length+22:=by unfold YQ;grind
  have hC:(FI p).length<=p.host.length+23:=by unfold FI;grind
  rw[cond_false];cases p.proto==[117,100,112]with
  | true=>rw[cond_true,List.length_append,List.length_append];show _+4<=_;omega
  | false=>rw[cond_false,List.length_append];omega
def gP(k:anY)(v:An):Prop:=((jo k).2=0/\Au (jo k).1=k/\k≠[]/\k.length<=2000)/\v=zn
theorem ax4{p:Port}(h:kX p=true)(hl:p.host.length<=1900):gP (Au p) zn:=by obtain⟨h1,h2⟩:=aee h;exact⟨⟨by rw[h1],by rw[h1],h2,by have:=azq p;omega⟩,rfl⟩
theorem aCM(k:anY)(y:An)(h:gP k y):wg 10000 11 y=true/\kd 11 y=true:=aor y h.2
theorem awy(k:anY)(y:An)(h:gP k y):aL 11 y=y:=acz y h.2
theorem atY(f:field)(k:anY):zD f k=(f.bad||!(N8 f.n k))/\(iR (aN f.n k [48]) 65536).1=nE f.n k:=by
 have c0:gB [48] 65536=(0,0):=by decide
 unfold zD N8 nE bV aN;rw[count_eq _ (by decide)];cases aB f.n k with
 | false=>grind
 | true =>simp only[ab7,cond_true,cond_false];refine⟨?_,rfl⟩;have hb:=(JV (aG f.n k).text 65536 (by decide)).1;show(bif(bif(f.bad||!((aG f.n k).kind==1))then true else O1 (aG f.n k).text 65536 != 0)then true else CY (aG f.n k).text 65536==0)=_;grind
theorem lf4{m:An}(h3:m.kind=3)(hl:m.keys.length=m.kids.length)(hn:m.keys.Nodup)(a b c d:anY)(hd:[a,b,c,d].Nodup):(((((m.keys.length:Int)-b2 (aB m a))-b2 (aB m b))-b2 (aB m c))-b2 (aB m d)==0)=eX m [a,b,c,d]:=by
 have h:=SQ hn hd;have e:(([a,b,c,d].filter fun k=>fO m.keys k).length:Int)=((b2 (fO m.keys a)+b2 (fO m.keys b))+b2 (fO m.keys c))+b2 (fO m.keys d):=by cases h1:fO m.keys a<;>cases h2:fO m.keys b<;>cases h4:fO m.keys c<;>cases h5:fO m.keys d<;>simp[List.filter,h1,h2,h4,h5,b2]
 unfold eX;rw[ru h3 hl,ru h3 hl,ru h3 hl,ru h3 hl,kZ h3,cond_false];grind
def Nd(y:An):Prop:=y.kind=3->y.keys.length=y.kids.length/\y.keys.Nodup
theorem aCN{y:An}(hy:Nd y):TB y=aao y/\lgB y=(eX y pkL&&(!(Ws y)&&kX (aao y))):=by
 have c:=atY;have e1:TB y=aao y:=by unfold TB aao;rw[(c ⟨y,0,false⟩ og).2,(c ⟨y,0,false⟩ dA).2]
 refine⟨e1,?_⟩;unfold lgB;rw[e1];have hb:(lgF y).bad=((y.kind != 3)||Ws y):=by show((((zD (KP (f0 y) dA) og)||!(bV y qK []))||!(bV y Ac [])))=_;rw[(c (KP (f0 y) dA) og).1];show(((zD (f0 y) dA||!(N8 y og))||!(bV y qK []))||!(bV y Ac []))=_;rw[(c (f0 y) dA).1];show(((((y.kind != 3)||!(N8 y dA))||!(N8 y og))||!(bV y qK []))||!(bV y Ac []))=_;unfold Ws;rw[show bV y Ac VZ=bV y Ac []from rfl];grind
 have hL:(lgF y).left=((((y.keys.length:Int)-b2 (aB y dA))-b2 (aB y og))-b2 (aB y qK))-b2 (aB y Ac):=rfl;rw[hb,hL];by_cases h3:y.kind=3
 ·obtain⟨hl,hn⟩:=hy h3;have h4:=lf4 h3 hl hn dA og qK Ac (by decide);rw[h4,kZ h3];show _=(eX y [dA,og,qK,Ac]&&_)
  grind
 ·have:eX y pkL=false:=by unfold eX;rw[jK h3];rfl
  rw[jK h3,this];rfl
theorem aCO{y:An}(hy:Nd y):poB y = !(FK y==[])/\(poB y=true->poX y=FK y):=by
 unfold poB poX FK;cases hk:y.kind==1 with
 | true =>
  simp only[cond_true];by_cases he:(jo y.text).2=0
  ·have hr:=aod y.text he;have hne:=(aee hr).2;grind
  grind
 | false =>
  obtain⟨e1,e2⟩:=aCN hy;simp only[cond_false];rw[e1,e2];cases eX y pkL with
  | false=>exact⟨rfl,fun h=>by cases h⟩
  | true =>
   cases Ws y with
   | true=>exact⟨rfl,fun h=>by cases h⟩
   | false =>
    simp only[ab7,acn,cond_false,afq];cases hr:kX (aao y)with
    | false=>rw[ak2 hr];exact⟨rfl,fun h=>by cases h⟩
    | true =>have hne:=(aee hr).2;grind
theorem aCP{y:An}(hz:Kz y)(h:(FK y==[])=false):gP (FK y) zn:=by
 unfold FK at h ⊢;cases hk:y.kind==1 with
 | true =>
  rw[hk,cond_true]at h;rw[cond_true];by_cases he:(jo y.text).2=0
  ·rw[kZ he,cond_false];refine ax4 (aod y.text he) ?_;obtain⟨h1,h2⟩:=Bt y.text (by have:=hz.text;omega);rw[Ho y.text (by have:=hz.text;omega) h1]at h2;have h2:(jo y.text).1.host.length<=y.text.length:=h2;have:=hz.text;omega
  ·rw[jK he]at h;cases h
 | false =>
  rw[hk,cond_false]at h;rw[cond_false];cases ho:eX y pkL with
  | false=>rw[ho]at h;cases h
  | true =>
   rw[ho]at h;simp only[ab7,cond_false]at h ⊢;cases hn:Ws y with
   | true=>rw[hn]at h;cases h
   | false =>
    rw[hn]at h;simp only[cond_false]at h ⊢;cases hr:kX (aao y)with
    | false=>rw[ak2 hr]at h;cases h
    | true=>exact ax4 hr (by have:=XJ hz.SK qK [] (by decide);show(aN y qK []).length<=_;omega)
theorem aoA:∀(l:List An) (o:An),(poS l o true).2=true
 | [],_=>rfl
 | _::t,_=>aoA t _
theorem aoB:∀(l:List (anY)) (r:List An) (o:An),(V3 l r o true).2=true
 | [],_,_=>rfl
 | _::_,[],_=>rfl
 | _::t,_::r,_=>aoB t r _
theorem atZ:∀(l:List An) (o:An),(∀y∈l,Nd y/\Kz y)->Ip gP o->((poS l o false).2=true/\Wt l o=none)\/∃o',Wt l o=some o'/\poS l o false=(o',false)/\Ip gP o'
 | [],o,_,h=>.inr ⟨o,rfl,rfl,h⟩
 | y::t,o,hl,h=>by
  obtain⟨h1,h2⟩:=aCO (hl y abI).1;unfold Wt poS;rw[h1,cond_false,h.with_];cases hb:FK y==[]with
  | true=>exact .inl ⟨aoA t _,rfl⟩
  | false =>rw[hb]at h1;rw[h2 h1];exact atZ t _ (fun q hq=>hl q (abD _ hq)) (h.put (aCP (hl y abI).2 hb))
theorem ak3(s:anY):FK (bI s)=bif(jo s).2 != 0 then[]else Au (jo s).1:=rfl
theorem key_eq(s:anY)(k:Int):(bif(bif(!(Au (jo s).1==s))then true else(s==[]))then true else(k != 0))=(bif(bif k==0 then FK (bI s)==s else false)then s==[]else true):=by
 rw[ak3];by_cases he:(jo s).2=0
 ·grind
 ·rw[jK he,cond_true,atX s he,ak2 aCL];grind
theorem at0:∀(l:List (anY)) (r:List An) (o:An),(∀s∈l,s.length<=2000)->Ip gP o->((V3 l r o false).2=true/\IJ l r o=none)\/∃o',IJ l r o=some o'/\V3 l r o false=(o',false)/\Ip gP o'
 | [],_,o,_,h=>.inr ⟨o,by unfold IJ;rfl,by unfold V3;rfl,h⟩
 | _::_,[],o,_,h=>.inr ⟨o,by unfold IJ;rfl,by unfold V3;rfl,h⟩
 | s::t,y::r,o,hl,h=>by
  unfold IJ V3;rw[cond_false,key_eq,h.with_];cases hb:(bif(bif y.kind==0 then FK (bI s)==s else false)then s==[]else true)with
  | true=>exact .inl ⟨aoB t r _,rfl⟩
  | false =>
   refine at0 t r _ (fun q hq=>hl q (abD _ hq)) (h.put ?_);have hc:(bif y.kind==0 then FK (bI s)==s else false)=true:=by grind
   rw[hc,cond_true]at hb;have hs:FK (bI s)=s:=by grind
   have hne:s≠[]:=by simpa using hb
   rw[ak3]at hs;by_cases he:(jo s).2=0
   ·rw[kZ he]at hs;exact⟨⟨he,hs,hne,by have:=hl s abI;omega⟩,rfl⟩
   grind
theorem ak4{n:An}(_:n.kind=3->n.keys.length=n.kids.length)(hkd:n.kind<=3)(hs:∀s∈n.keys,s.length<=2000)(hy:∀y∈n.kids,Nd y/\Kz y):(TD n=ze n/\TF n=(bif Bz n then 0 else 10))/\(Bz n=true->Sp gP (ze n)/\(ze n).keys.length<=32):=by
 unfold TD TF ze Bz;refine atW aCM awy (poP n) (M5 n) ?_;unfold poP M5 rF;by_cases h32:(32:Int)<(n.kids.length:Int)
 ·grind
 ·rw[dF h32,dT (show(n.kids.length:Int)<=32 by omega),cond_false];by_cases h2:n.kind=2
  ·rw[jL h2,dF (show ¬ n.kind<2 by omega)];exact atZ n.kids zn hy (Ip.nil (.inl rfl))
  ·by_cases h3':n.kind=3
   ·rw[eT h2,jL h3',dF (show ¬ n.kind<2 by omega)];exact at0 n.keys n.kids zn hs (Ip.nil (.inl rfl))
   grind
theorem ak5:∀(ks:List (anY)) (vs:List An) (o:An),Fa gP ks vs->ks.Nodup->(∀k∈ks,k∉o.keys)->(o.kind=0\/o.kind=3)->o.keys.length=o.kids.length->o.keys.Nodup->o.text=[]->∃o',IJ ks vs o=some o'/\o'.text=[]/\o'.keys=o.keys++ks/\o'.kids=o.kids++vs
 | [],[],o,_,_,_,_,_,_,ht=>⟨o,by unfold IJ;rfl,ht,by simp,by simp⟩
 | s::t,y::r,o,hf,hn,hd,hk,hl,hnd,ht=>by
  have hn':=List.nodup_cons.1 hn;obtain⟨⟨g1,g2,g3,_⟩,rfl⟩:=hf.1;have hop:FK (bI s)=s:=by rw[ak3,kZ g1];exact g2
  have hz:(s==[])=false:=by simpa using g3
  obtain⟨p1,p2⟩:=aem hk hl hnd (v:=zn) (hd s abI);unfold IJ;rw[hop,show(zn.kind==0)=true from rfl,cond_true,show(s==s)=true by simp,cond_true,hz,cond_false,p1];obtain⟨o',q1,q2,q3,q4⟩:=ak5 t r ⟨3,[],o.keys++[s],o.kids++[zn]⟩ hf.2 hn'.2 (fun k hm hq=>by
   rcases List.mem_append.1 hq with hq | hq
   ·exact hd k (abD _ hm) hq
   ·rw[List.mem_singleton.1 hq]at hm;exact hn'.1 hm) (.inr rfl) (by simp[hl]) p2 rfl
  grind
 | [],_::_,_,h,_,_,_,_,_,_=>h.elim
 | _::_,[],_,h,_,_,_,_,_,_=>h.elim
theorem aq2{a:An}(h:Sp gP a)(h32:a.keys.length<=32):ze a=a/\Bz a=true:=by
 have hl:=Nb h.all;obtain⟨o',q1,q2,q3,q4⟩:=ak5 a.keys a.kids zn h.all (lD h.ss) (fun k _ h=>by cases h) (.inl rfl) rfl aj7 rfl;have e:M5 a=some o':=by unfold M5;rw[dF (show ¬ (32:Int)<(a.kids.length:Int) by omega),cond_false,dF (show ¬ a.kind<2 by rw[h.kind];decide),cond_false,eT (show a.kind≠2 by rw[h.kind];decide),cond_false];exact q1
 unfold ze Bz;rw[e];exact aoz h awy h32 q2 (by rw[q3];rfl) (by rw[q4];rfl)
theorem aCQ{y:An}(hy:Nd y):V7 y=KF y/\plB y=(eX y Wu&&akM y):=by
 refine⟨rfl,?_⟩;have hb:(plF y).bad=(((((y.kind != 3)||!(bV y jC []))||!(bV y dA []))||(!(bV y l9 [])||Qj (aN y l9 o7)))||!(bV y mg [])):=by show(((((((y.kind != 3)||!(bV y jC []))||!(bV y dA []))||!(bV y l9 []))||Qj (aN y l9 (CO false)))||!(bV y mg [])))=_;rw[show CO false=o7 from rfl];cases(y.kind != 3)<;>cases bV y jC []<;>cases bV y dA []<;>cases bV y l9 []<;>cases Qj (aN y l9 o7)<;>cases bV y mg []<;>rfl
 have hL:(plF y).left=((((y.keys.length:Int)-b2 (aB y jC))-b2 (aB y dA))-b2 (aB y l9))-b2 (aB y mg):=rfl;have hK:plK (aN y mg Ad)=(bif(bif aN y mg Ad==[118,111,108,117,109,101]then true else aN y mg Ad==[98,105,110,100])then true else aN y mg Ad==[116,109,112,102,115]):=by unfold plK;cases aN y mg Ad==[98,105,110,100]<;>cases aN y mg Ad==[118,111,108,117,109,101]<;>cases aN y mg Ad==[116,109,112,102,115]<;>rfl
 have hM:vE (V7 y)=vE (KF y):=rfl;unfold plB akM;rw[hb,hL,hK,hM,Wy,J7,show bV y mg Ad=bV y mg []from rfl];by_cases h3:y.kind=3
 ·obtain⟨hl,hn⟩:=hy h3;have h4:=lf4 h3 hl hn jC dA l9 mg (by decide);rw[h4,kZ h3];show _=(eX y [jC,dA,l9,mg]&&_)
  cases eX y [jC,dA,l9,mg]<;>cases bV y jC []<;>cases bV y dA []<;>cases bV y l9 []<;>cases tf (aN y l9 o7)<;>cases bV y mg []<;>cases vE (KF y)<;>rfl
 ·have:eX y Wu=false:=by unfold eX;rw[jK h3];rfl
  rw[jK h3,this];rfl
theorem aCR{y:An}(hy:Nd y):moB y=FL y/\(FL y=true->moX y=q9 y):=by
 unfold moB FL moX q9;cases hk:y.kind==1 with
 | true=>exact⟨rfl,fun _=>rfl⟩
 | false =>
  obtain⟨e1,e2⟩:=aCQ hy;simp only[cond_false];rw[e1,e2];cases eX y Wu with
  | false=>exact⟨rfl,fun h=>by cases h⟩
  | true=>exact⟨rfl,fun _=>rfl⟩
def Oa(k:anY)(v:An):Prop:=∃m:gD,vE m=true/\m.target=k/\v=bI (o8 m)/\k.length<=64
theorem aBw{m:gD}(hs:m.target.length<=1000000)(h:vE m=true):Oa m.target (bI (o8 m)):=⟨m,h,rfl,rfl,(akD hs (akE hs h).1).2.1⟩
theorem ahH{k:anY}{v:An}(h:Oa k v):mP v/\v.text.length<=200:=by obtain⟨m,h1,h2,rfl,h3⟩:=h;exact⟨rfl,(aoh (by rw[h2];omega) h1).2⟩
theorem aBx(k:anY)(y:An)(h:Oa k y):wg 10000 11 y=true/\kd 11 y=true:=XK y (ahH h).1
theorem aq3(k:anY)(y:An)(h:Oa k y):aL 11 y=y:=Na y (ahH h).1
theorem ax5{y:An}(hz:Kz y)(h:FL y=true):Oa (q9 y).target (bI (o8 (q9 y))):=by
 obtain⟨_,_,hl⟩:=Qr y hz;refine aBw (by omega) ?_;unfold FL at h;unfold q9;cases hk:y.kind==1 with
 | true =>rw[hk,cond_true]at h;exact aCB y.text (eq_of_beq h)
 | false =>
  rw[hk,cond_false]at h;cases ho:eX y Wu with
  | false=>rw[ho]at h;cases h
  | true =>
   rw[ho]at h;have h:akM y=true:=h;show vE (KF y)=true;unfold akM at h;cases hr:vE (KF y)with
   | true=>rfl
   | false =>rw[hr]at h;cases hq:(bif(bif(bif bV y jC []then bV y dA []else false)then KA y l9 o7 else false)then bV y mg Ad else false)<;>rw[hq]at h<;>cases h
theorem aoC:∀(l:List An) (o:An),(moS l o true).2=true
 | [],_=>rfl
 | _::t,_=>aoC t _
theorem aoD:∀(l:List (anY)) (r:List An) (o:An),(V8 l r o true).2=true
 | [],_,_=>rfl
 | _::_,[],_=>rfl
 | _::t,_::r,_=>aoD t r _
theorem at1:∀(l:List An) (o:An),(∀y∈l,Nd y/\Kz y)->Ip Oa o->((moS l o false).2=true/\Wv l o=none)\/∃o',Wv l o=some o'/\moS l o false=(o',false)/\Ip Oa o'
 | [],o,_,h=>.inr ⟨o,rfl,rfl,h⟩
 | y::t,o,hl,h=>by
  obtain⟨h1,h2⟩:=aCR (hl y abI).1;unfold Wv moS;rw[h1,cond_false,h.with_];cases hb:FL y with
  | false=>exact .inl ⟨aoC t _,rfl⟩
  | true =>rw[h2 hb];exact at1 t _ (fun q hq=>hl q (abD _ hq)) (h.put (ax5 (hl y abI).2 hb))
theorem azr(s:anY)(y:An):(bif(bif(bif(y.kind != 1)then true else((oh y.text).2 != 0))then true else(!((oh y.text).1.target==s)))then true else(!(o8 (oh y.text).1==y.text)))=(bif !(FL y)then true else(bif(bif y.kind != 1 then true else !(y.text==o8 (q9 y)))then true else !(s==(q9 y).target))):=by
 by_cases hk:y.kind=1
 ·have e1:FL y=((oh y.text).2==0):=by unfold FL;rw[jL hk];rfl
  have e2:q9 y=(oh y.text).1:=by unfold q9;rw[jL hk];rfl
  rw[e1,e2,kZ hk,show((oh y.text).1.target==s)=(s==(oh y.text).1.target)from Bool.beq_comm,show(o8 (oh y.text).1==y.text)=(y.text==o8 (oh y.text).1)from Bool.beq_comm,show((oh y.text).2 != 0) = !((oh y.text).2==0)from rfl];cases(oh y.text).2==0<;>cases s==(oh y.text).1.target<;>cases y.text==o8 (oh y.text).1<;>rfl
 ·rw[jK hk];cases FL y<;>rfl
theorem at5:∀(l:List (anY)) (r:List An) (o:An),(∀y∈r,Kz y/\(y.kind=1->y=bI y.text))->Ip Oa o->((V8 l r o false).2=true/\IK l r o=none)\/∃o',IK l r o=some o'/\V8 l r o false=(o',false)/\Ip Oa o'
 | [],_,o,_,h=>.inr ⟨o,by unfold IK;rfl,by unfold V8;rfl,h⟩
 | _::_,[],o,_,h=>.inr ⟨o,by unfold IK;rfl,by unfold V8;rfl,h⟩
 | s::t,y::r,o,hl,h=>by
  unfold IK V8;rw[cond_false,azr,h.with_];cases hb:(bif !(FL y)then true else(bif(bif y.kind != 1 then true else !(y.text==o8 (q9 y)))then true else !(s==(q9 y).target)))with
  | true=>exact .inl ⟨aoD t r _,rfl⟩
  | false =>
   have hc:FL y=true/\y.kind=1/\y.text=o8 (q9 y)/\s=(q9 y).target:=by
    cases h1:FL y with
    | false=>rw[h1]at hb;cases hb
    | true =>
     rw[h1]at hb;by_cases h2:y.kind=1
     ·rw[kZ h2]at hb;cases h3:y.text==o8 (q9 y)with
      | false=>rw[h3]at hb;cases hb
      | true =>rw[h3]at hb;exact⟨rfl,h2,by simpa using h3,by simpa using hb⟩
     ·rw[jK h2]at hb;cases hb
   obtain⟨c1,c2,c3,c4⟩:=hc;have hy:=hl y abI;have e:y=bI (o8 (q9 y)):=by rw[<- c3];exact hy.2 c2
   have e2:bg o s y=bg o (q9 y).target (bI (o8 (q9 y))):=by rw[<- c4,<- e]
   rw[cond_false,e2];exact at5 t r _ (fun q hq=>hl q (abD _ hq)) (h.put (ax5 hy.1 c1))
theorem afY{n:An}(hkd:n.kind<=3)(hy:∀y∈n.kids,(Nd y/\Kz y)/\(y.kind=1->y=bI y.text)):(TH n=zf n/\TI n=(bif BA n then 0 else 10))/\(BA n=true->Sp Oa (zf n)/\(zf n).keys.length<=32):=by
 unfold TH TI zf BA;refine atW aBx aq3 (moP n) (M6 n) ?_;unfold moP M6 rF;by_cases h32:(32:Int)<(n.kids.length:Int)
 ·rw[dT h32,dF (show ¬ (n.kids.length:Int)<=32 by omega)];refine .inl ⟨?_,rfl⟩;cases n.kind==2<;>cases n.kind==3<;>rfl
 ·rw[dF h32,dT (show(n.kids.length:Int)<=32 by omega),cond_false];by_cases h2:n.kind=2
  ·rw[jL h2,dF (show ¬ n.kind<2 by omega)];exact at1 n.kids zn (fun y h=>(hy y h).1) (Ip.nil (.inl rfl))
  ·by_cases h3':n.kind=3
   ·rw[eT h2,jL h3',dF (show ¬ n.kind<2 by omega)];exact at5 n.keys n.kids zn (fun y h=>⟨(hy y h).1.2,(hy y h).2⟩) (Ip.nil (.inl rfl))
   ·rw[eT h2,eT h3',dT (show n.kind<2 by omega)];exact .inl ⟨rfl,rfl⟩
theorem ak6:∀(ks:List (anY)) (vs:List An) (o:An),Fa Oa ks vs->ks.Nodup->(∀k∈ks,k∉o.keys)->(o.kind=0\/o.kind=3)->o.keys.length=o.kids.length->o.keys.Nodup->o.text=[]->∃o',IK ks vs o=some o'/\o'.text=[]/\o'.keys=o.keys++ks/\o'.kids=o.kids++vs
 | [],[],o,_,_,_,_,_,_,ht=>⟨o,by unfold IK;rfl,ht,by simp,by simp⟩
 | s::t,y::r,o,hf,hn,hd,hk,hl,hnd,ht=>by
  have hn':=List.nodup_cons.1 hn;obtain⟨m,g1,rfl,rfl,g2⟩:=hf.1;have hb:=(aoh (by omega) g1).1;have e1:FL (bI (o8 m))=true:=by show((oh (o8 m)).2==0)=true;rw[hb];rfl
  have e2:q9 (bI (o8 m))=m:=by show(oh (o8 m)).1=m;rw[hb]
  obtain⟨p1,p2⟩:=aem hk hl hnd (v:=bI (o8 m)) (hd m.target abI);unfold IK;rw[e1,e2,show((bI (o8 m)).kind != 1)=false from rfl,show(bI (o8 m)).text=o8 m from rfl,show(o8 m==o8 m)=true by simp,show(m.target==m.target)=true by simp];simp only[ab7,cond_false];rw[p1];obtain⟨o',q1,q2,q3,q4⟩:=ak6 t r ⟨3,[],o.keys++[m.target],o.kids++[bI (o8 m)]⟩ hf.2 hn'.2 (fun k hm hq=>by
   rcases List.mem_append.1 hq with hq | hq
   ·exact hd k (abD _ hm) hq
   ·rw[List.mem_singleton.1 hq]at hm;exact hn'.1 hm) (.inr rfl) (by simp[hl]) p2 rfl
  exact⟨o',q1,q2,by rw[q3];simp,by rw[q4];simp⟩
 | [],_::_,_,h,_,_,_,_,_,_=>h.elim
 | _::_,[],_,h,_,_,_,_,_,_=>h.elim
theorem amN{a:An}(h:Sp Oa a)(h32:a.keys.length<=32):zf a=a/\BA a=true:=by
 have hl:=Nb h.all;obtain⟨o',q1,q2,q3,q4⟩:=ak6 a.keys a.kids zn h.all (lD h.ss) (fun k _ h=>by cases h) (.inl rfl) rfl aj7 rfl;have e:M6 a=some o':=by unfold M6;rw[dF (show ¬ (32:Int)<(a.kids.length:Int) by omega),cond_false,dF (show ¬ a.kind<2 by rw[h.kind];decide),cond_false,eT (show a.kind≠2 by rw[h.kind];decide),cond_false];exact q1
 unfold zf BA;rw[e];exact aoz h aq3 h32 q2 (by rw[q3];rfl) (by rw[q4];rfl)
theorem p10(v0:Int)(h:2<=v0):(10:Int) ^ (v0-1).toNat=10*(10:Int) ^ (v0-2).toNat:=by rw[show(v0-1).toNat=(v0-2).toNat+1 by omega,Int.pow_succ];omega
theorem aCS:∀n:Nat,(2:Int)<=(10:Int) ^ n->1<=n
 | 0,h=>by simp at h
 | n+1,_=>by omega
theorem BG(x0:Int)(hp : -9223372036854775808<=x0/\x0<=9223372036854775807):Z (qD x0) fun r=>r.length<=20:=by
 refine jy rfl (fun | .e y0=>y0=x0 | .h0 v0 v1 v2 v3=>2<=v0/\v0<=20/\0<=v2/\v2<18446744073709551616/\v2<(10:Int) ^ (v0-1).toNat/\v3.length=20) (fun | .e _=>10000000000 | .h0 v0 v1 v2 v3=>v0.toNat) rfl (by show 10000000000<_;omega) ?_;rintro(y0 | ⟨v0,v1,v2,v3⟩) hs
 ·cases hs;simp only[bC,xq];have e1:0<=x0->IntKind.wrap .u64 x0=x0:=fun h=>DU h (by omega)
  have e2:x0<0->IntKind.wrap .u64 (0-IntKind.wrap .u64 x0) = -x0:=fun h=>by show(0-x0%18446744073709551616)%18446744073709551616 = -x0;omega
  refine⟨fun h=>?_,fun h=>?_⟩
  ·rw[e2 h];refine⟨⟨by omega,by omega,by omega,by omega,?_,rfl⟩,by show(20:Int).toNat<10000000000;decide⟩;rw[show((20:Int)-1).toNat=19 from rfl];omega
  ·rw[e1 (by omega)];refine⟨⟨by omega,by omega,by omega,by omega,?_,rfl⟩,by show(20:Int).toNat<10000000000;decide⟩;rw[show((20:Int)-1).toNat=19 from rfl];omega
 ·obtain⟨h1,h2,h3,h4,h5,h6⟩:=hs;have e1:au (v0-1)=v0-1:=aT (by omega) (by omega);have e2:au (v0-2)=v0-2:=aT (by omega) (by omega);have e3:Int.tdiv v2 10=v2 / 10:=afQ h3;have e4:IntKind.wrap .u64 (v2 / 10)=v2 / 10:=DU (by omega) (by omega);have e5:=p10 v0 h1;have e6:=aCS (v0-2).toNat;simp only[bC,xq,e1,e2,e3,e4,aiJ,show v0-1-1=v0-2 by omega,akJ,h6,List.length_map,cut,acu,ach,Nat.blt_eq,Nat.beq_eq];generalize (10:Int) ^ (v0-2).toNat=q at e5 e6 ⊢;rw[e5]at h5
  (repeat' (first | (intro _) | (apply And.intro)))<;>first | omega | trivial | rfl | (rename_i hz;have hz:=afB.1 hz;have:=e6 (by omega);omega)
theorem Pf(x0:Port)(hp:x0.host.length<=1000000):Z (zP x0) fun r=>r.length<=x0.host.length+100:=by
 refine cB rfl ?_;simp only[bC,Jc,List.length_append,List.length_cons,List.length_nil,aA];have h1:=MI x0 hp;have h2:=BG x0.out;have h3:=BG x0.jZ
 (repeat' (first | (intro _) | (apply And.intro)))<;>grind
def wr:Nat->An->Prop
 | 0,_=>False
 | n+1,x=>x.keys.length<=1000/\x.kids.length<=1000/\(x.kind=0\/x.kind=3->x.keys.length=x.kids.length)/\x.text.length<=30000/\(∀k∈x.keys,k.length<=30000)/\∀y∈x.kids,wr n y
theorem aq4:∀{d:Nat} {x:An},wr d x->wg 5000 d x=true
 | 0,_,h=>h.elim
 | _+1,_,h=>dQ.2 ⟨Nat.le_trans h.1 (by decide),Nat.le_trans h.2.1 (by decide),fun e=>h.2.2.1 (.inr e),fun y hy=>aq4 (h.2.2.2.2.2 y hy)⟩
theorem aen:∀{n:Nat} {x:An} (k:Nat),wr n x->wr (n+k) x
 | 0,_,_,h=>h.elim
 | n+1,x,k,h=>by rw[Nat.add_right_comm];exact⟨h.1,h.2.1,h.2.2.1,h.2.2.2.1,h.2.2.2.2.1,fun y hy=>aen k (h.2.2.2.2.2 y hy)⟩
def W(d:Nat)(n:An):Prop:=wr d n
def G(d:Nat)(n:An):Prop:=wg 5000 d n=true
def TL(l:List (anY)):Prop:=∀s∈l,s.length<=30000
theorem jg:TL []:=fun s h=>by cases h
theorem jh{l:List (anY)}{s:anY}(h:TL l)(hs:s.length<=30000):TL (l++[s]):=fun x hx=>by
 rcases List.mem_append.1 hx with hx | hx
 ·exact h x hx
 ·rw[List.mem_singleton.1 hx];exact hs
theorem lF{l:List (anY)}(h:TL l)(i:Nat):(l.getD i (Df.d:anY)).length<=30000:=by
 rw[List.getD];cases e:l[i]? with
 | none=>exact aa4 _
 | some x=>exact h x (afD e)
theorem oJ{l:List (anY)}(h:TL l)(i:Nat):(l.getD i (dflt Ty.str:anY)).length<=30000:=lF h i
theorem W_z{d:Nat}{n:An}(h:W (d+1) n):n.keys.length<=1000/\n.kids.length<=1000/\(n.kind=3->n.keys.length=n.kids.length)/\n.text.length<=30000/\TL n.keys:=by exact⟨h.1,h.2.1,fun e=>h.2.2.1 (.inr e),h.2.2.2.1,h.2.2.2.2.1⟩
theorem W_k{d:Nat}{n:An}(h:W (d+1) n)(h0:n.kind=0):W (d+1) ⟨3,n.text,n.keys,n.kids⟩:=⟨h.1,h.2.1,fun _=>h.2.2.1 (.inl h0),h.2.2.2.1,h.2.2.2.2.1,h.2.2.2.2.2⟩
theorem W_d{d:Nat}{n:An}(h:W (d+2) n)(i:Nat):W (d+1) (n.kids.getD i (Df.d:An)):=by
 rw[List.getD];cases e:n.kids[i]? with
 | none=>exact⟨aa4 _,aa4 _,(fun _=>rfl),aa4 _,(fun k hk=>by cases hk),(fun y hy=>by cases hy)⟩
 | some x=>exact h.2.2.2.2.2 x (afD e)
theorem aCT{d:Nat}{n:An}(h:W (d+2) n)(k:anY)(hk:aB n k=true):W (d+1) (aG n k):=h.2.2.2.2.2 _ (rA hk)
theorem aCU{d:Nat}{n:An}(h:W (d+1) n):fit n=true:=Dc (aq4 h) (by omega)
theorem W_G{d:Nat}{n:An}(h:W d n):G d n:=aq4 h
theorem aav{d:Nat}{n:An}(k:Nat)(h:G d n):G (d+k) n:=wW k h
def Fm(n:An):Prop:=(n.kind=0\/n.kind=3)/\n.keys.length=n.kids.length/\∀y∈n.kids,G 500 y
theorem iP:Fm ⟨0,[],[],[]⟩:=⟨.inl rfl,rfl,fun y h=>by cases h⟩
theorem ji{n:An}(h:Fm n)(hl:n.kids.length<=5000):fit n=true:=by refine sM.2 ⟨⟨by have:=h.2.1;omega,by omega⟩,fun _=>h.2.1⟩
theorem azs{n:An}{k:anY}{v:An}(h:Fm n)(hl:n.kids.length<=5000):fM n k v=true:=by refine sM.2 ⟨⟨by have:=h.2.1;show n.keys.length<=_;omega,by show n.kids.length<=_;omega⟩,fun _=>h.2.1⟩
theorem mem_set{l:List An}{i:Nat}{v y:An}(h:y∈l.set i v):y∈l\/y=v:=List.mem_or_eq_of_mem_set h
theorem azt{n:An}{k:anY}{v:An}(h:Fm n)(hv:G 500 v):Fm (aY n k v)/\(aY n k v).kids.length<=n.kids.length+1/\(aY n k v).kind=3:=by
 obtain⟨h1,h2,h3⟩:=h;unfold aY;rw[show(bif n.kind != 3 then n.kind != 0 else false)=false by rcases h1 with h1 | h1<;>rw[h1]<;>rfl,cond_false];cases decide (0<=index n.keys k)with
 | true =>
  rw[cond_true];refine⟨⟨.inr rfl,by simp[h2],fun y hy=>?_⟩,by simp,rfl⟩;rcases mem_set hy with hy | rfl
  ·exact h3 y hy
  ·exact hv
 | false =>
  rw[cond_false];refine⟨⟨.inr rfl,by simp[h2],fun y hy=>?_⟩,by simp,rfl⟩;rcases List.mem_append.1 hy with hy | hy
  ·exact h3 y hy
  ·rw[List.mem_singleton.1 hy];exact hv
theorem aEU{n:An}(h:Fm n)(hl:n.kids.length<=5000):G 501 ⟨3,n.text,n.keys,n.kids⟩:=dQ.2 ⟨by have:=h.2.1;show n.keys.length<=_;omega,hl,fun _=>h.2.1,h.2.2⟩
theorem WB:∀(m d:Nat) (x:An),G d x->G d (dS m x)
 | 0,_,_,h=>h
 | m+1,0,_,h=>by cases h
 | m+1,d+1,x,h=>by
  have hx:=dQ.1 h;unfold dS;cases(x.kids.length:Int)==0 with
  | true=>exact h
  | false =>
   rw[cond_false];cases hk:x.kind != 3 with
   | true =>rw[cond_true];refine dQ.2 ⟨aa4 _,by simpa using hx.2.1,fun e=>by simp[show x.kind=3 from e]at hk,fun y hy=>?_⟩;obtain⟨z,hz,rfl⟩:=List.mem_map.1 hy;exact WB m d z (hx.2.2.2 z hz)
   | false =>
    rw[cond_false];have hl:=Pl.sw x.keys;refine dQ.2 ⟨by show(Pl.bn x.keys).length<=_;omega,by show((Pl.bn x.keys).map _).length<=_;rw[List.length_map];omega,fun _=>by simp,fun y hy=>?_⟩;obtain⟨k,hk',rfl⟩:=List.mem_map.1 hy;have h3:x.kind=3:=by simpa using hk
    exact WB m d _ (Gj h (U6 h h3 (Pl.jY.1 hk')))
theorem awz{x:An}(h:G 600 x):wg 10000 1000 x=true:=wW (n:=600) 400 (aqa (by omega) h)
theorem WC(d:Nat):G (d+1) ⟨0,[],[],[]⟩:=dQ.2 ⟨aa4 _,aa4 _,(fun h=>by cases h),(fun y hy=>by cases hy)⟩
theorem aq5(d:Nat)(k:Int)(s:anY)(h:k≠3):G (d+1) ⟨k,s,[],[]⟩:=dQ.2 ⟨aa4 _,aa4 _,(fun e=>absurd e h),(fun y hy=>by cases hy)⟩
theorem oo:G 500 ⟨0,[],[],[]⟩:=WC 499
theorem kY:G 501 ⟨0,[],[],[]⟩:=WC 500
theorem nA(s:anY):G 500 (dz s):=aq5 499 1 s (by decide)
theorem oq(s:anY):G 501 (dz s):=aq5 500 1 s (by decide)
def W2(n:An):Prop:=W 492 n
def W1(n:An):Prop:=W 491 n
def W0(n:An):Prop:=W 490 n
theorem lG{n:An}(h:W2 n):n.keys.length<=1000/\n.kids.length<=1000/\(n.kind=3->n.keys.length=n.kids.length)/\n.text.length<=30000/\TL n.keys:=W_z (d:=491) h
theorem ou{n:An}(h:W1 n):n.keys.length<=1000/\n.kids.length<=1000/\(n.kind=3->n.keys.length=n.kids.length)/\n.text.length<=30000/\TL n.keys:=W_z (d:=490) h
theorem oK{n:An}(h:W2 n)(i:Nat):W1 (n.kids.getD i (Df.d:An)):=W_d (d:=490) h i
theorem oM{n:An}(h:W2 n)(i:Nat):W1 (n.kids.getD i (dflt Ty.ah:An)):=W_d (d:=490) h i
theorem aBz{n:An}(h:W2 n)(k:anY)(hk:aB n k=true):W1 (aG n k):=aCT (d:=490) h k hk
theorem kK{n:An}(h:W2 n):G 501 n:=wW (n:=492) 9 (W_G h)
theorem lH{n:An}(h:W1 n):W2 n:=aen (n:=491) 1 h
theorem aEV{n:An}(h:W2 n)(h0:n.kind=0):W2 ⟨3,n.text,n.keys,n.kids⟩:=W_k (d:=491) h h0
theorem acE{n:An}(h:W2 n):fit n=true:=aCU (d:=491) h
theorem oN{n:An}(h:W1 n):G 500 n:=wW (n:=491) 9 (W_G h)
theorem YZ:Z eO fun r=>r.1=⟨0,[],[],[]⟩:=by refine cB rfl ?_;simp only[bC,I8]
theorem dX(f:form)(b:Bool):Z (cu f b) fun r=>r.1.n=f.n:=by refine cB rfl ?_;simp only[bC,yK]
theorem dM(f:form)(k:anY)(v:An)(h:Fm f.n/\f.n.kids.length<=4900/\G 500 v):Z (cO f k v) fun r=>Fm r.1.n/\r.1.n.kids.length<=f.n.kids.length+1:=by refine cB rfl ?_;simp only[bC,Al];have:=azt (k:=k) h.1 h.2.2;exact⟨azs h.1 (by omega),this.1,this.2.1⟩
theorem dI(f:form)(h:Fm f.n/\f.n.kids.length<=4900):Z (dD f) fun r=>G 501 r.2.1:=by refine cB rfl ?_;simp only[bC,yL];have h1:=YZ;have h2:=WC 500;have h3:=aEU h.1 (by omega);have h4:=WB 1000 501 _ h3;have h5:=awz (aav (d:=501) 99 h3);grind
theorem jq(f:field)(k o:anY)(h:W2 f.n/\o.length<=30000):Z (aX f k o) fun r=>r.1.n=f.n/\r.2.length<=30000:=by refine cB rfl ?_;simp only[bC,wL];have h1:=acE h.1;have h2:=aBz h.1 k;have h3:=@ou (aG f.n k);grind
theorem BH(f:field)(k:anY)(o:Bool)(h:W2 f.n):Z (fA f k o) fun r=>r.1.n=f.n:=by refine cB rfl ?_;simp only[bC,vk];grind[jq]
theorem WE(f:field)(k:anY)(h:W2 f.n):Z (kI f k) fun r=>r.1.n=f.n:=by refine cB rfl ?_;simp only[bC,qC];have h1:=acE h;grind[jq,oH]
attribute [irreducible] TL Fm G W W0 W1 W2
def si:Nat->An->Prop
 | 0,_=>False
 | d+1,x=>((x.keys.length<=1000/\x.kids.length<=1000)/\(x.kind=3->x.keys.length=x.kids.length)/\x.text.length<=200/\∀k∈x.keys,k.length<=200)/\((0<=x.kind/\x.kind<=3)/\(x.kind≠1->x.text=[])/\(x.kind≠3->x.keys=[])/\(x.kind<2->x.kids=[]))/\(x.kind=3->x.keys.Nodup)/\∀y∈x.kids,si d y
def sb(B:Nat):Nat->An->Prop
 | 0,_=>False
 | d+1,x=>((x.keys.length<=B/\x.kids.length<=B)/\(x.kind=3->x.keys.length=x.kids.length)/\x.text.length<=200/\∀k∈x.keys,k.length<=200)/\((0<=x.kind/\x.kind<=3)/\(x.kind≠1->x.text=[])/\(x.kind≠3->x.keys=[])/\(x.kind<2->x.kids=[]))/\(x.kind=3->x.keys.Nodup)/\∀y∈x.kids,sb B d y
theorem aq6{B:Nat}(hB:B<=1000):∀{d:Nat} {x:An},sb B d x->si d x
 | 0,_,h=>h.elim
 | _+1,_,h=>⟨⟨⟨Nat.le_trans h.1.1.1 hB,Nat.le_trans h.1.1.2 hB⟩,h.1.2⟩,h.2.1,h.2.2.1,fun y hy=>aq6 hB (h.2.2.2 y hy)⟩
theorem Cr:∀{d:Nat} {x:An},si d x->sn d x
 | 0,_,h=>h.elim
 | _+1,_,h=>⟨⟨h.1.1,h.1.2.1,Nat.le_trans h.1.2.2.1 (by decide),fun k hk=>Nat.le_trans (h.1.2.2.2 k hk) (by decide)⟩,h.2.1,fun y hy=>Cr (h.2.2.2 y hy)⟩
theorem ax6:∀{d:Nat} {x:An} (e:Nat),sn d x->sn (d+e) x
 | 0,_,_,h=>h.elim
 | d+1,x,e,h=>by rw[Nat.add_right_comm];exact⟨h.1,h.2.1,fun y hy=>ax6 e (h.2.2 y hy)⟩
theorem wO:∀{d:Nat} {x:An},sn d x->wg 10000 d x=true
 | 0,_,h=>h.elim
 | _+1,_,h=>dQ.2 ⟨Nat.le_trans h.1.1.1 (by decide),Nat.le_trans h.1.1.2 (by decide),h.1.2.1,fun y hy=>wO (h.2.2 y hy)⟩
theorem SV:∀{d:Nat} {x:An},sn d x->kd d x=true
 | 0,_,h=>h.elim
 | _+1,_,h=>Hz.2 ⟨⟨h.2.1.1,fun e=>by rw[h.2.1.2.2.1 e];rfl⟩,fun e=>by rw[h.2.1.2.2.2 e];rfl,fun y hy=>SV (h.2.2 y hy)⟩
theorem ax7:∀{d:Nat} {x:An},sn d x->wr d x
 | 0,_,h=>h.elim
 | _+1,x,h=>⟨h.1.1.1,h.1.1.2,fun e=>by
   rcases e with e | e
   ·rw[h.2.1.2.2.1 (by omega),h.2.1.2.2.2 (by omega)];rfl
   ·exact h.1.2.1 e,h.1.2.2.1,h.1.2.2.2,fun y hy=>ax7 (h.2.2 y hy)⟩
theorem Aw{B n m:Nat}{x:An}(h:n<=m)(hx:wg B n x=true):wg B m x=true:=by have:=wW (m-n) hx;rwa[show n+(m-n)=m by omega]at this
theorem XO{n m:Nat}{x:An}(h:n<=m)(hx:kd n x=true):kd m x=true:=by have:=aon (m-n) hx;rwa[show n+(m-n)=m by omega]at this
theorem aCV{n m:Nat}{x:An}(h:n<=m)(hx:sn n x):sn m x:=by have:=ax6 (m-n) hx;rwa[show n+(m-n)=m by omega]at this
theorem Ct(d:Nat){s:anY}(h:s.length<=30000):sn (d+1) (bI s):=⟨⟨⟨aa4 _,aa4 _⟩,(fun e=>by cases e),h,(fun k hk=>by cases hk)⟩,⟨⟨(by show(0:Int)<=1;decide),(by show(1:Int)<=3;decide)⟩,(fun e=>absurd rfl e),fun _=>rfl,fun _=>rfl⟩,fun y hy=>by cases hy⟩
theorem aBA(d:Nat):sn (d+1) zn:=⟨⟨⟨aa4 _,aa4 _⟩,(fun e=>by cases e),aa4 _,(fun k hk=>by cases hk)⟩,⟨⟨akG 0,(by show(0:Int)<=3;decide)⟩,(fun _=>rfl),fun _=>rfl,fun _=>rfl⟩,fun y hy=>by cases hy⟩
theorem WG{d:Nat}{a:An}(h3:a.kind=3)(ht:a.text=[])(hl:a.keys.length=a.kids.length)(hk:a.keys.length<=1000)(hs:∀k∈a.keys,k.length<=30000)(hy:∀y∈a.kids,sn d y):sn (d+1) a :=
 ⟨⟨⟨hk,by omega⟩,fun _=>hl,by rw[ht];exact aa4 _,hs⟩,⟨⟨by rw[h3];decide,by rw[h3];decide⟩,fun _=>ht,fun e=>absurd h3 e,fun e=>absurd (h3▸e) (by decide)⟩,hy⟩
theorem aBB{d:Nat}{l:List (anY)}(hl:l.length<=1000)(hs:∀s∈l,s.length<=30000):sn (d+2) (uN l) :=
 ⟨⟨⟨aa4 _,by show(l.map bI).length<=1000;rw[List.length_map];exact hl⟩,(fun e=>by cases e),aa4 _,(fun k hk=>by cases hk)⟩,⟨⟨(by show(0:Int)<=2;decide),(by show(2:Int)<=3;decide)⟩,(fun _=>rfl),(fun _=>rfl),fun e=>absurd (show(2:Int)<2 from e) (by decide)⟩,fun y hy=>by obtain⟨s,h1,rfl⟩:=List.mem_map.1 hy;exact Ct d (hs s h1)⟩
theorem SX{d:Nat}{x:An}(h:si (d+1) x):Nd x:=fun e=>⟨h.1.2.1 e,h.2.2.1 e⟩
theorem Qy{d:Nat}{x:An}(h:si (d+1) x)(h1:x.kind=1):x=bI x.text:=ati (Cr h) h1
theorem aq7{d:Nat}{x:An}(h:si (d+1) x)(h1:x.kind=0):x=zn:=axB (Cr h) h1
theorem acF{d:Nat}{x:An}(h:si (d+2) x)(k:anY):aG x k=zn\/si (d+1) (aG x k):=by
 rcases Qp x k with e | e
 ·exact .inl e
 ·exact .inr (h.2.2.2 _ e)
theorem XP{d:Nat}{x:An}(h:si (d+2) x):Kz x:=⟨Nat.le_trans h.1.2.2.1 (by decide),Dc (wO (Cr h)) (by decide),fun k=>by
 rcases acF h k with e | e
 ·rw[e];exact aa4 _
 ·exact Nat.le_trans e.1.2.2.1 (by decide)⟩
theorem aCW{d:Nat}{v:An}(h:si (d+4) v)(hd:d+4<=12):Rz v:=by
 have hw:=Aw hd (wO (Cr h));have hkz:∀y∈v.kids,Kz y:=fun y hy=>XP (d:=d+1) (h.2.2.2 y hy)
 have he:fit (je v)=true/\((je v).kind=3->wg 10000 12 (je v)=true):=by
  unfold je;by_cases h1:v.kind=1
  ·rw[jL h1,cond_true];have hv:=Qy h h1;have hw2:wg 10000 12 (⟨3,[],[jd],[v]⟩:An)=true:=dQ.2 ⟨by simp,by simp,fun _=>rfl,fun y hy=>by rw[List.mem_singleton.1 hy,hv];exact pR _ _⟩;exact⟨Dc hw2 (by decide),fun _=>hw2⟩
  ·rw[eT h1,cond_false];exact⟨Dc hw (by decide),fun _=>hw⟩
 refine⟨XP h,Nat.le_trans h.1.1.1 (by decide),Nat.le_trans h.1.1.2 (by decide),h.1.2.1,h.2.1.1.2,fun s hs=>Nat.le_trans (h.1.2.2.2 s hs) (by decide),hkz,he.1,he.2,?_,?_⟩
 ·rcases acF h bR with e | e
  ·rw[e];exact aa4 _
  ·exact Nat.le_trans e.1.1.2 (by decide)
 ·rcases acF h bR with e | e
  ·rw[e];exact fun s hs=>by cases hs
  ·exact fun s hs=>by have:=aar (B:=200) (fun y hy=>(e.2.2.2 y hy).1.2.2.1) s hs;omega
structure Fo (k:anY) (a:An):Prop where
 nz:a.kind≠0
 fd:fdF k a=some (a,0)
 uE:sn 6 a
 srt:aL 12 a=a
def WH(n:An)(k:Int):Bool:=(decide (n.text.length<=1000000)&&decide (n.kids.length<=1000000))&&(decide (0<=k)&&decide (k<=5))
def ow(n:An)(k:Int):An:=bif k==5 then DV n else EN n k
def Qz(n:An)(k:Int):Bool:=bif k==5 then H8 n else Hw n k
theorem k6{k:Int}(h0:0<=k)(h5:k<=5):k=0\/k=1\/k=2\/k=3\/k=4\/k=5:=by omega
theorem J8(f:anY->Bool)(n:An):yB f n=(bif !(KL f n)then n else zn)/\yC f n=(bif !(KL f n)then 0 else 10):=by unfold yB yC;cases KL f n<;>exact⟨rfl,rfl⟩
theorem at6(n:An):byV n=(bif !(KM n)then bI (Br (lq n.text))else zn)/\byE n=(bif !(KM n)then 0 else 10):=by unfold byV byE;cases KM n<;>exact⟨rfl,rfl⟩
structure Ask (n:An) (k:Int):Prop where
 f:WH n k=true
 s:Gi 12 (ow n k) (ow n k)=true
 again:Qz n k=true->WH (ow n k) k=true/\ow (ow n k) k=ow n k/\Qz (ow n k) k=true
theorem aoE{a b:Bool}(h:(!a)=b):a = !b:=by cases a<;>cases b<;>first | rfl | cases h
theorem azu(l:List (anY))(h:l.length<=10000):wg 10000 12 (uN l)=true :=
 dQ.2 ⟨aa4 _,by show(l.map bI).length<=10000;rw[List.length_map];exact h,fun e=>absurd e (by show(2:Int)≠3;decide),fun y hy=>by obtain⟨s,_,rfl⟩:=List.mem_map.1 hy;exact pR _ _⟩
theorem aoF:∀l:List (anY),l7 (l.map bI)=some l
 | []=>rfl
 | s::l=>by show l7 (bI s::l.map bI)=_;rw[l7,aoF l];rfl
theorem aaw{f:anY->Bool}{n:An}(h:KL f n=false):n.kind=1:=by unfold KL at h;grind
theorem at7{n:An}{k:Int}(h:Hw n k=true):n.kind=1:=by
 have h:=aoE h;by_cases h2:k=2
 ·subst h2;have h:KM n=false:=h;unfold KM at h;grind
 ·rw[eT h2,cond_false]at h;cases h0:k==0<;>rw[h0]at h
  ·cases h1:k==1<;>rw[h1]at h
   ·cases h3:k==3<;>rw[h3]at h<;>exact aaw h
   ·exact aaw h
  ·exact aaw h
theorem azv{n:An}(hn:wf 1000 12 n=true){k:Int}(h0:0<=k)(h4:k<=4):Ask n k:=by
 have w:=U5.1 hn;have hk5:(k==5)=false:=eT (by omega);have f:WH n k=true:=by simp only[WH,abK,ab6];exact⟨⟨by have:=w.2.2.2.1;omega,by have:=w.2.1;omega⟩,h0,by omega⟩
 have e1:ow n k=EN n k:=by unfold ow;rw[hk5];rfl
 have e2:Qz n k=Hw n k:=by unfold Qz;rw[hk5];rfl
 by_cases h2:k=2
 ·subst h2;cases hb:Hw n 2 with
  | false =>
   have:ow n 2=zn:=by rw[e1];unfold EN;rw[hb];rfl
   exact⟨f,by rw[this];exact Qu Qt,fun h=>by rw[e2,hb]at h;cases h⟩
  | true =>
   have e:ow n 2=bI (Br (lq n.text)):=by rw[e1];unfold EN;rw[hb];rfl
   have hx:KM n=false:=aoE hb;have hz:lq n.text<=1125899906842624:=by
    unfold KM at hx;have hE:YO n.text=0:=by
     by_cases h:YO n.text=0
     ·exact h
     ·rw[jK h]at hx;cases hq:n.kind != 1<;>rw[hq]at hx<;>cases hx
    unfold lq YO at *;unfold J2 at *;cases hq:H7 (n.text.drop (kD n.text))with
    | false=>rw[hq]at hE;cases hE
    | true =>
     simp only[ab7,cond_false];obtain⟨u0,u3⟩:=aho (n.text.drop (kD n.text));have hb:=fun P (h:(0:Int)<=1125899906842624 / P)=>(JV (n.text.take (kD n.text)) _ h).2
     have hb1:=hb 1 (by decide);have hb2:=hb 1024 (by decide);have hb3:=hb 1048576 (by decide);have hb4:=hb 1073741824 (by decide);unfold CY at hb1 hb2 hb3 hb4;rcases NZ u0 u3 with⟨_,h⟩ | ⟨_,h⟩ | ⟨_,h⟩ | ⟨_,h⟩<;>rw[h]<;>omega
   have h0:=axS n.text;have zt:=aza h0 hz;have hlen:(Br (lq n.text)).length<=22:=by
    unfold Br;have hl:=sH (lq n.text / 2 ^ (Int.toNat (10*kP (lq n.text))));have:(sfx (kP (lq n.text))).length<=1:=by
     obtain⟨u0,u3⟩:=acd (lq n.text);have:kP (lq n.text)=0\/kP (lq n.text)=1\/kP (lq n.text)=2\/kP (lq n.text)=3:=by omega
     rcases this with h | h | h | h<;>rw[h]<;>decide
    grind
   have hv0:lq n.text≠0:=by intro h;unfold KM at hx;rw[jL h]at hx;cases hq:(bif n.kind != 1 then true else YO n.text != 0)<;>rw[hq]at hx<;>cases hx
   have hB:KM (bI (Br (lq n.text)))=false:=by unfold KM YO lq;show(bif(bif(1:Int)!=1 then true else(J2 (Br (lq n.text))).2 != 0)then true else(J2 (Br (lq n.text))).1==0)=false;rw[zt];exact eT hv0
   refine⟨f,by rw[e];exact Qu (pR _ _),fun _=>?_⟩;rw[e];have hOB:Hw (bI (Br (lq n.text))) 2=true:=by show(!(KM (bI (Br (lq n.text)))))=true;rw[hB];rfl
   refine⟨?_,?_,hOB⟩
   ·simp only[WH,abK,ab6];exact⟨⟨by show(Br (lq n.text)).length<=1000000;omega,aa4 _⟩,by decide,by decide⟩
   ·show EN (bI (Br (lq n.text))) 2=_;unfold EN;rw[hOB];show bI (Br (lq (Br (lq n.text))))=_;unfold lq at zt ⊢;rw[zt]
 ·have e3:ow n k=bif Hw n k then n else zn:=by rw[e1];unfold EN;rw[eT h2];rfl
  cases hb:Hw n k with
  | false=>exact⟨f,by rw[e3,hb];exact Qu Qt,fun h=>by rw[e2,hb]at h;cases h⟩
  | true =>
   have e:ow n k=n:=by rw[e3,hb];rfl
   exact⟨f,by rw[e];exact Qu (aqa (by decide) (axa hn)),fun _=>by rw[e];exact⟨f,e,e2.trans hb⟩⟩
theorem aua{n:An}(hn:wf 1000 12 n=true):Ask n 5:=by
 have w:=U5.1 hn;have f:WH n 5=true:=by simp only[WH,abK,ab6];grind
 cases hb:H8 n with
 | false =>
  have e:ow n 5=zn:=by show DV n=zn;unfold DV;rw[hb];rfl
  exact⟨f,by rw[e];exact Qu Qt,fun h=>absurd (show H8 n=true from h) (by rw[hb];decide)⟩
 | true =>
  have e:ow n 5=uN (ko n):=by show DV n=_;unfold DV;rw[hb];rfl
  have hl:(ko n).length<=32:=by
   unfold ko;by_cases h1:n.kind=1
   ·rw[jL h1];exact Sy _
   ·rw[eT h1,cond_false];unfold H8 at hb;rw[eT h1,cond_false]at hb;have hb0:qF n=true:=hb;unfold qF at hb;have:=EM n;rw[Cq hb0]at this;grind
  refine⟨f,by rw[e];exact Qu (azu _ (by omega)),fun _=>?_⟩;rw[e];have hT:l7 (uN (ko n)).kids=some (ko n):=aoF _;have hB:H8 (uN (ko n))=true:=by
   show(bif(2:Int)==1 then _ else qF (uN (ko n)))=true;show qF (uN (ko n))=true;unfold qF;rw[hT];show(true&&(bif(2:Int)==2 then decide (((uN (ko n)).kids.length:Int)<=32)else false))=true;have:(uN (ko n)).kids.length=(ko n).length:=by show((ko n).map bI).length=_;rw[List.length_map]
   grind
  refine⟨?_,?_,hB⟩
  ·simp only[WH,abK,ab6];exact⟨⟨aa4 _,by show((ko n).map bI).length<=1000000;rw[List.length_map];omega⟩,by decide,by decide⟩
  ·show DV (uN (ko n))=_;unfold DV;rw[hB];show uN (bJ (uN (ko n)))=_;unfold bJ;rw[hT];rfl
theorem aub(B:Nat):∀(n:Nat) (t w:anY) (b:Bool) (out l:List (anY)),kF n t w b out=some l->w.length+t.length<=B->(∀s∈out,s.length<=B)->∀s∈l,s.length<=B:=by
 have put:∀{w:anY} {b:Bool} {out:List (anY)},w.length<=B->(∀s∈out,s.length<=B)->∀s∈(bif b then out++[w]else out),s.length<=B:=by grind
 intro n
 induction n with
 | zero=>intro t w b out l h;cases h
 | succ n ih =>
  intro t w b out l h hB ho;cases t with
  | nil =>have h:some (bif b then out++[w]else out)=some l:=h;cases h;exact put (by simpa using hB) ho
  | cons c t =>
   rw[List.length_cons]at hB;by_cases hc:uw ((c.toNat:Nat):Int)=true
   ·simp only[kF,hc,cond_true]at h;grind
   ·simp only[kF,Bool.eq_false_iff.2 hc,cond_false]at h;cases hq:MF (c::t)with
    | none=>rw[hq]at h;cases h
    | some q =>rw[hq]at h;obtain⟨q1,q2,q3⟩:=atd hq;grind
theorem azw(t:anY):∀s∈Sw t,s.length<=t.length:=by
 intro s hs;unfold Sw qH at hs;cases hq:kF (t.length+1) t [] false []with
 | none=>rw[hq]at hs;cases hs
 | some l =>
  rw[hq]at hs;have hs:s∈(bif decide ((32:Int)<(l.length:Int))then[]else l):=hs;cases hd:decide ((32:Int)<(l.length:Int))with
  | true=>rw[hd]at hs;cases hs
  | false =>rw[hd]at hs;exact aub t.length _ t [] false [] l hq (by simp) (fun s hs=>by cases hs) s hs
theorem azx(l:List (anY)):aL 12 (uN l)=uN l:=by have e:aL 12 (uN l)=⟨2,[],[],(l.map bI).map (aL 11)⟩:=rfl;rw[e,List.map_map];rfl
theorem ax8{d:Nat}:∀{n:Nat} {x:An},si n x->wf 1000 (n+d) x=true
 | 0,_,h=>h.elim
 | n+1,x,h=>by rw[Nat.add_right_comm];exact U5.2 ⟨h.1.1.1,h.1.1.2,h.1.2.1,h.1.2.2.1,h.1.2.2.2,fun y hy=>ax8 (h.2.2.2 y hy)⟩
theorem aoG{e:Nat}{v:An}(h:si (e+4) v)(he:e+4<=11){j:Int}(h0:0<=j)(h5:j<=5):wE v j=ow v j/\vH v j=Qz v j/\(Qz v j=true->(ow v j).kind≠0/\sn 6 (ow v j)/\aL 12 (ow v j)=ow v j/\ow (ow v j) j=ow v j/\Qz (ow v j) j=true):=by
 have hw:wf 1000 12 v=true:=by have:=ax8 (d:=12-(e+4)) h;grind
 have e1:wE v j=ow v j:=by unfold wE ow;grind
 have e2:vH v j=Qz v j:=by unfold vH Qz;grind
 refine⟨e1,e2,fun hb=>?_⟩;have shape:(ow v j).kind≠0/\sn 6 (ow v j)/\aL 12 (ow v j)=ow v j:=by
  by_cases h5':j=5
  ·subst h5';have hb:H8 v=true:=hb;have e:ow v 5=uN (ko v):=by show DV v=_;unfold DV;rw[hb];rfl
   rw[e];refine⟨by show(2:Int)≠0;decide,?_,azx _⟩;have hl:(ko v).length<=1000/\∀s∈ko v,s.length<=30000:=by
    unfold ko;by_cases h1:v.kind=1
    ·rw[jL h1,cond_true];refine⟨Nat.le_trans (Sy _) (by decide),fun s hs=>?_⟩;have:=azw v.text s hs;have:=h.1.2.2.1;omega
    ·rw[eT h1,cond_false];exact Qo (Cr h)
   exact aBB (d:=4) hl.1 hl.2
  ·have e:ow v j=EN v j:=by unfold ow;rw[eT h5'];rfl
   have hb:Hw v j=true:=by unfold Qz at hb;rw[eT h5']at hb;exact hb
   have hk:=at7 hb;rw[e];unfold EN;rw[hb,cond_true];by_cases h2:j=2
   ·rw[jL h2,cond_true];refine⟨by show(1:Int)≠0;decide,Ct 5 ?_,rfl⟩;have hl:=sH (lq v.text / 2 ^ (Int.toNat (10*kP (lq v.text))));unfold Br;cases(bif decide (lq v.text<0)then true else decide ((1125899906842624:Int)<lq v.text))with
    | true=>exact aa4 _
    | false =>
     rw[cond_false,List.length_append];have:(sfx (kP (lq v.text))).length<=1:=by
      obtain⟨u0,u3⟩:=acd (lq v.text);have:kP (lq v.text)=0\/kP (lq v.text)=1\/kP (lq v.text)=2\/kP (lq v.text)=3:=by omega
      rcases this with h | h | h | h<;>rw[h]<;>decide
     omega
   ·rw[eT h2,cond_false];have hv:=Qy h hk;refine⟨by omega,?_,by rw[hv];rfl⟩;rw[hv];exact Ct 5 (Nat.le_trans h.1.2.2.1 (by decide))
 have ag:ow (ow v j) j=ow v j/\Qz (ow v j) j=true:=by
  by_cases h5':j=5
  ·subst h5';exact((aua hw).again hb).2
  ·exact((azv hw h0 (by omega)).again hb).2
 grind
theorem SY(k:anY):((k=ad8\/k=aea\/k=aeb\/k=ad9\/k=ad6\/k=ad7)\/(k=aad\/k=aae)\/(k=O8\/k=SC)\/k=aaf\/k=O7\/k=aag\/k=aah\/k=aai)\/uz k = -1/\∀v,fdF k v=none:=by
 by_cases h0:k=ad8
 ·exact .inl (.inl (.inl h0))
 by_cases h1:k=aea
 ·exact .inl (.inl (.inr (.inl h1)))
 by_cases h2:k=aeb
 ·exact .inl (.inl (.inr (.inr (.inl h2))))
 by_cases h3:k=ad9
 ·grind
 by_cases h4:k=ad6
 ·grind
 by_cases h5:k=ad7
 ·grind
 by_cases h6:k=aad
 ·exact .inl (.inr (.inl (.inl h6)))
 by_cases h7:k=aae
 ·exact .inl (.inr (.inl (.inr h7)))
 by_cases h8:k=O8
 ·exact .inl (.inr (.inr (.inl (.inl h8))))
 by_cases h9:k=SC
 ·exact .inl (.inr (.inr (.inl (.inr h9))))
 by_cases h10:k=aaf
 ·exact .inl (.inr (.inr (.inr (.inl h10))))
 by_cases h11:k=O7
 ·grind
 by_cases h12:k=aag
 ·grind
 by_cases h13:k=aah
 ·grind
 by_cases h14:k=aai
 ·grind
 right;have e:∀{a:anY},¬ k=a->(a==k)=false:=fun h=>by simpa using fun h'=>h h'.symm
 refine⟨?_,fun v=>?_⟩
 ·unfold uz YX;simp only[nbG,e h0,e h1,e h2,e h3,e h4,e h5,e h6,e h7,e h8,e h10,e h11,e h12,e h13,e h14,cond_false];grind
 ·unfold fdF;grind
def uO(k:anY)(v:An):Prop:=fdF k v=some (wE v (uz k),bif vH v (uz k)then 0 else 10)
theorem ax9(v:An){j:Int}(h5:j<=5):wE v j=ow v j/\vH v j=Qz v j:=by
 constructor
 ·unfold wE ow;grind
 ·unfold vH Qz;grind
theorem aBC(n:An):wdE n=(bif H8 n then 0 else 10):=rfl
theorem auc(v:An):uO ad8 v:=by show some (yB wN v,yC wN v)=_;rw[(J8 _ _).1,(J8 _ _).2];rfl
theorem aud(v:An):uO aea v:=by show some (yB Cm v,yC Cm v)=_;rw[(J8 _ _).1,(J8 _ _).2];rfl
theorem aue(v:An):uO aeb v:=by show some (byV v,byE v)=_;rw[(at6 _).1,(at6 _).2];rfl
theorem auf(v:An):uO ad9 v:=by show some (yB Ck v,yC Ck v)=_;rw[(J8 _ _).1,(J8 _ _).2];rfl
theorem aug(v:An):uO ad6 v:=by show some (yB uq v,yC uq v)=_;rw[(J8 _ _).1,(J8 _ _).2];rfl
theorem auh(v:An):uO ad7 v:=by show some (DV v,wdE v)=_;rw[aBC];rfl
theorem Lc{k:anY}{v V:An}{E:Int}{R:An}{B:Bool}(hf:fdF k v=some (V,E))(hv:wE v (uz k)=R)(hb:vH v (uz k)=B)(h:V=R/\E=(bif B then 0 else 10)):uO k v:=by unfold uO;rw[hf,hv,hb,h.1,h.2]
theorem aui{v:An}(h:Gn v):uO aad v:=Lc (V:=Kn v true) (E:=Ko v true) rfl (show wE v 6=rH v true from rfl) (show vH v 6=Ae v true from rfl) (aas h true).1
theorem auj{v:An}(h:Gn v):uO aae v:=Lc (V:=Kn v false) (E:=Ko v false) rfl (show wE v 7=rH v false from rfl) (show vH v 7=Ae v false from rfl) (aas h false).1
theorem auk{v:An}(h:Gn v):uO O8 v:=Lc (V:=G5 v) (E:=G6 v) rfl (show wE v 8=jS v from rfl) (show vH v 8=rZ v from rfl) (Wx h).1
theorem aul{v:An}(h:Gn v):uO SC v:=Lc (V:=G5 v) (E:=G6 v) rfl (show wE v 8=jS v from rfl) (show vH v 8=rZ v from rfl) (Wx h).1
theorem aum{v:An}(h:TD v=ze v/\TF v=(bif Bz v then 0 else 10)):uO aaf v:=Lc (V:=TD v) (E:=TF v) rfl (show wE v 9=ze v from rfl) (show vH v 9=Bz v from rfl) h
theorem aun{v:An}(h:TH v=zf v/\TI v=(bif BA v then 0 else 10)):uO O7 v:=Lc (V:=TH v) (E:=TI v) rfl (show wE v 10=zf v from rfl) (show vH v 10=BA v from rfl) h
theorem auo{v:An}(h:Ge v):uO aag v:=Lc (V:=dpV v) (E:=dpE v) rfl (show wE v 11=MW v from rfl) (show vH v 11=MX v from rfl) (aow h).1
theorem aup{v:An}(h:Gx (je v)):uO aah v:=Lc (V:=exV v) (E:=YN v) rfl (show wE v 12=wu v from rfl) (show vH v 12=EO v from rfl) (ext_eq h).1
theorem ak7{v:An}(h:Gh0 v):uO aai v:=Lc (V:=hV v) (E:=hE v) (show some (hP v)=some (hV v,hE v)from rfl) (show wE v 13=Bv v from rfl) (show vH v 13=Bw v from rfl) (atT h)
theorem Er{d:Nat}{v:An}(h:si (d+2) v):Gn v:=⟨SX h,fun y hy=>(h.2.2.2 y hy).1.2.2.1⟩
theorem aCX{d:Nat}{y:An}(h:si (d+1) y):Ky y:=⟨aq7 h,SX h⟩
theorem aq8{d:Nat}{v:An}(h:si (d+2) v):Ge v:=⟨h.1.2.1,fun y hy=>aCX (h.2.2.2 y hy)⟩
theorem aya{d:Nat}{v:An}(h:si (d+3) v):(TD v=ze v/\TF v=(bif Bz v then 0 else 10))/\(Bz v=true->Sp gP (ze v)/\(ze v).keys.length<=32) :=
 ak4 h.1.2.1 h.2.1.1.2 (fun s hs=>Nat.le_trans (h.1.2.2.2 s hs) (by decide)) fun y hy=>⟨SX (h.2.2.2 y hy),XP (h.2.2.2 y hy)⟩
theorem ayb{d:Nat}{v:An}(h:si (d+3) v):(TH v=zf v/\TI v=(bif BA v then 0 else 10))/\(BA v=true->Sp Oa (zf v)/\(zf v).keys.length<=32) :=
 afY h.2.1.1.2 fun y hy=>⟨⟨SX (h.2.2.2 y hy),XP (h.2.2.2 y hy)⟩,Qy (h.2.2.2 y hy)⟩
theorem aq9{d:Nat}{v:An}(h:si (d+2) v)(hd:d+2<=11):Gx (je v):=by
 unfold je;by_cases h1:v.kind=1
 ·rw[jL h1,cond_true];have hv:=Qy h h1;refine⟨fun _=>rfl,fun _=>rfl,fun _=>by show[jd].Nodup;decide,?_,?_,fun y hy _=>?_⟩
  ·exact dQ.2 ⟨by simp,by simp,fun _=>rfl,fun y hy=>by rw[List.mem_singleton.1 hy,hv];exact pR _ _⟩
  ·exact Hz.2 ⟨⟨⟨show(0:Int)<=3 by decide,show(3:Int)<=3 by decide⟩,fun e=>absurd rfl e⟩,fun e=>absurd (show(3:Int)<2 from e) (by decide),fun y hy=>by rw[List.mem_singleton.1 hy,hv];exact(XK (bI v.text) rfl).2⟩
  ·rw[List.mem_singleton.1 hy];exact⟨hv,h.1.2.2.1⟩
 ·rw[eT h1,cond_false];exact⟨fun e=>h.2.1.2.1 (by omega),h.1.2.1,fun e=>h.2.2.1 e,Aw (by omega) (wO (Cr h)),XO (by omega) (SV (Cr h)),fun y hy e=>⟨Qy (h.2.2.2 y hy) e,(h.2.2.2 y hy).1.2.2.1⟩⟩
theorem azy(d:Nat){s:anY}(h:s.length<=200):si (d+1) (bI s):=⟨⟨⟨aa4 _,aa4 _⟩,(fun e=>by cases e),h,(fun k hk=>by cases hk)⟩,⟨⟨(by show(0:Int)<=1;decide),(by show(1:Int)<=3;decide)⟩,(fun e=>absurd rfl e),fun _=>rfl,fun _=>rfl⟩,(fun e=>by cases e),fun y hy=>by cases hy⟩
theorem auq(d:Nat):si (d+1) zn:=⟨⟨⟨aa4 _,aa4 _⟩,(fun e=>by cases e),aa4 _,(fun k hk=>by cases hk)⟩,⟨⟨akG 0,(by show(0:Int)<=3;decide)⟩,(fun _=>rfl),fun _=>rfl,fun _=>rfl⟩,(fun e=>by cases e),fun y hy=>by cases hy⟩
theorem HV{k:anY}{a:An}(hs:wE a (uz k)=a/\vH a (uz k)=true)(ha:uO k a)(nz:a.kind≠0)(hn:sn 6 a)(ht:aL 12 a=a):Fo k a:=by refine⟨nz,?_,hn,ht⟩;unfold uO at ha;rw[ha,hs.1,hs.2];rfl
section
variable {ψ:anY->Prop} {φ:An->Prop} {P:anY->An->Prop}
theorem Sf.nz{a:An}(h:Sf ψ φ a):a.kind≠0:=by rw[h.kind];decide
theorem Sp.nz{a:An}(h:Sp P a):a.kind≠0:=by rw[h.kind];decide
theorem Sf.uE{a:An}(h:Sf ψ φ a)(hk:∀k,ψ k->k.length<=30000)(hy:∀y,φ y->sn 5 y):sn 6 a:=WG h.kind h.text h.len (Nat.le_trans h.le (by decide)) (fun k hm=>hk k (h.key k hm)) (fun y hm=>hy y (h.kid y hm))
theorem Sp.uE{a:An}{d:Nat}(h:Sp P a)(hl:a.keys.length<=1000)(hp:∀k y,P k y->k.length<=30000/\sn d y):sn (d+1) a:=WG h.kind h.text (Nb h.all) hl
 (fun k hm=>by obtain⟨v,hv⟩:=acD h.all k hm;exact(hp k v hv).1)
 (fun y hm=>by obtain⟨k,hv⟩:=Qx h.all y hm;exact(hp k y hv).2)
theorem Sf.kd_{a:An}(h:Sf ψ φ a)(hφ:∀y,φ y->wg 10000 11 y=true/\kd 11 y=true):kd 12 a=true :=
 Hz.2 ⟨⟨⟨by rw[h.kind];decide,by rw[h.kind];decide⟩,fun e=>absurd h.kind e⟩,fun e=>absurd (h.kind▸e) (by decide),fun y hy=>(hφ y (h.kid y hy)).2⟩
end
theorem Sf.Gn_{ψ:anY->Prop}{φ:An->Prop}{a:An}(h:Sf ψ φ a)(hy:∀y,φ y->y.text.length<=200):Gn a:=⟨fun _=>⟨h.len,lD h.ss⟩,fun y hm=>hy y (h.kid y hm)⟩
theorem ak8{k:anY}{v:Bool}(h:om k v=true):k.length<=30000:=Nat.le_trans (azk h) (by decide)
theorem aeo(y:An)(h:EP y):sn 5 y:=by rw[h.1];exact Ct 4 (Nat.le_trans h.2 (by decide))
theorem aoH(y:An)(h:SN y):sn 5 y:=by rw[h];exact aBA 4
theorem aBD{s:anY}(h:co s=true):s.length<=30000:=by unfold co at h;simp only[akX,beq_iff_eq]at h;rcases h with(h | h) | h<;>rw[h]<;>decide
theorem ayc(b:Bool)(d:Nat):sn (d+1) (fK b):=by have e:fK b=bI (CO b):=rfl;rw[e];exact Ct d (by cases b<;>decide)
theorem azz(y:An)(h:IL y):sn 5 y:=by
 have hp:=aat h.1;rw[<- h.2];refine WG rfl rfl rfl (by show(3:Nat)<=1000;decide) (fun k hk=>?_) (fun z hz=>?_)
 ·have hk:k∈[cK,rK,sK]:=hk;simp only[am8,anG,or_false]at hk;rcases hk with rfl | rfl | rfl<;>decide
 ·have hz:z∈[dz (aN (em y) cK mM),fK (aN (em y) rK kg==kg),fK (aN (em y) sK o7==kg)]:=hz;simp only[am8,anG,or_false]at hz;rcases hz with rfl | rfl | rfl
  ·exact Ct 3 (aBD hp.2.1)
  ·exact ayc _ 3
  ·exact ayc _ 3
theorem aax{v:An}(h:Gn v)(b:Bool)(hb:Ae v b=true):Gn (rH v b)/\(rH (rH v b) b=rH v b/\Ae (rH v b) b=true)/\(rH v b).kind≠0/\sn 6 (rH v b)/\aL 12 (rH v b)=rH v b:=by have sf:=(aas h b).2 hb;exact⟨sf.Gn_ fun y hy=>hy.2,aqY sf,sf.nz,sf.uE (fun k hk=>ak8 hk) aeo,sf.sorted M9⟩
theorem WI{v:An}(h:Gn v)(hb:rZ v=true):Gn (jS v)/\(jS (jS v)=jS v/\rZ (jS v)=true)/\(jS v).kind≠0/\sn 6 (jS v)/\aL 12 (jS v)=jS v:=by have sf:=(Wx h).2 hb;exact⟨sf.Gn_ fun y hy=>by rw[hy];exact aa4 _,set_self sf,sf.nz,sf.uE (fun k hk=>ak8 (v:=false) hk) aoH,sf.sorted acz⟩
theorem aCY(k:anY)(y:An)(h:gP k y):k.length<=30000/\sn 5 y:=⟨by have:=h.1.2.2.2;omega,aoH y h.2⟩
theorem aBE(k:anY)(y:An)(h:Oa k y):k.length<=30000/\sn 5 y:=by have ht:=ahH h;obtain⟨m,_,_,_,h3⟩:=h;exact⟨by omega,aeo y ht⟩
theorem ak9{v:An}{d:Nat}(h:si (d+3) v)(hb:Bz v=true):Fo aaf (ze v):=by
 obtain⟨sp,h32⟩:=(aya h).2 hb;refine HV (aq2 sp h32) (aum (ak4 (fun _=>Nb sp.all) (by rw[sp.kind];decide) (fun s hs=>?_) (fun y hy=>?_)).1) sp.nz (sp.uE (by omega) aCY) (sp.sorted awy)
 ·obtain⟨w,hw⟩:=acD sp.all s hs;exact hw.1.2.2.2
 ·obtain⟨k,hk⟩:=Qx sp.all y hy;have e:y=zn:=hk.2;rw[e];exact⟨SX (auq 1),XP (auq 1)⟩
theorem af0{v:An}{d:Nat}(h:si (d+3) v)(hb:BA v=true):Fo O7 (zf v):=by obtain⟨sp,h32⟩:=(ayb h).2 hb;refine HV (amN sp h32) (aun (afY (by rw[sp.kind];decide) (fun y hy=>?_)).1) sp.nz (sp.uE (by omega) aBE) (sp.sorted aq3);obtain⟨k,hk⟩:=Qx sp.all y hy;obtain⟨t1,t2⟩:=ahH hk;have e:y=bI y.text:=t1;rw[e];have:=azy 1 t2;exact⟨⟨SX this,XP this⟩,fun _=>rfl⟩
theorem aoI{v:An}(h:Ge v)(hb:MX v=true):Fo aag (MW v):=by have sf:=(aow h).2 hb;exact HV (atM sf) (auo ⟨fun _=>sf.len,fun y hy=>aov (sf.kid y hy)⟩) sf.nz (sf.uE (fun k hk=>ak8 (v:=false) hk) azz) (sf.sorted akW)
theorem aur{v:An}(h:Gx (je v))(hb:EO v=true):Fo aah (wu v):=by
 obtain⟨sf,e,ho,hr⟩:=(ext_eq h).2 hb;have e1:je (wu v)=wu v:=by show(bif(wu v).kind==1 then _ else wu v)=_;rw[eT (show(wu v).kind≠1 by rw[sf.kind];decide)];rfl
 refine HV (awt h ho hr e sf) (aup ?_) sf.nz (sf.uE (fun k hk=>by rcases hk with rfl | rfl<;>decide) aeo) (sf.sorted M9);rw[e1];exact⟨fun _=>sf.text,fun _=>sf.len,fun _=>lD sf.ss,sf.MU aek,sf.kd_ aek,fun y hy _=>sf.kid y hy⟩
theorem qt4{s:anY}:(JX s).length<=4*s.length+2:=by
 unfold JX;cases Ar s with
 | true=>rw[cond_true];omega
 | false =>have h:=aku s;rw[<- akt]at h;rw[cond_false,List.length_append,List.length_append];simp only[List.length_cons,List.length_nil];omega
theorem aus:∀l:List (anY),(∀s∈l,s.length<=200)->(Wi l).length<=l.length*803
 | [],_=>ab8 _
 | x::t,h=>by
  have ih:=aus t fun s hs=>h s (abD _ hs)
  have h1:=h x abI;have h2:=qt4 (s:=x);have e:Wi (x::t)=(32::JX x)++Wi t:=by simp[Wi]
  rw[e,List.length_append,List.length_cons,List.length_cons];omega
theorem aCZ{l:List (anY)}(h:∀s∈l,s.length<=200):(Mx l).length<=l.length*803:=by
 cases l with
 | nil=>show 0<=_;omega
 | cons x t =>
  have h1:=h x abI;have h2:=qt4 (s:=x);have h3:=aus t fun s hs=>h s (abD _ hs)
  rw[XE,List.length_append,List.length_cons];omega
theorem azA{n:An}(h:qF n=true):n.kids.length<=32:=by
 unfold qF at h;by_cases h2:n.kind=2
 ·rw[jL h2,cond_true,abK,ab6]at h;omega
 ·rw[eT h2]at h;simp at h
theorem azB{l:List (anY)}{B:Nat}(h:∀s∈l,s.length<=B)(i:Nat):(l.getD i []).length<=B:=by
 rw[List.getD];cases hq:l[i]? with
 | none=>exact aa4 _
 | some x=>exact h x (afD hq)
theorem aut{n:An}(h1:n.text.length<=200)(hy:∀y∈n.kids,y.text.length<=200):(JZ n).length<=30000:=by
 have ht:=aar hy;unfold JZ;cases n.kind==1 with
 | true=>rw[cond_true];omega
 | false =>
  rw[cond_false];cases hx:tsX n with
  | true=>exact aa4 _
  | false =>
   have hb:qF n=true:=by
    unfold tsX at hx;cases hb:qF n with
    | true=>rfl
    | false=>rw[hb]at hx;cases hx
   have h32:=azA hb;have hl:(bJ n).length<=32:=by have:=EM n;rw[Cq hb]at this;omega
   rw[cond_false];cases(bJ n).getD 0 []==VO with
   | true=>exact aa4 _
   | false =>
    rw[cond_false];cases(bJ n).getD 0 []==VP with
    | true =>
     rw[cond_true];cases((bJ n).length:Int)==2 with
     | true=>exact Nat.le_trans (azB ht 1) (by decide)
     | false=>exact aa4 _
    | false =>
     rw[cond_false];cases(bJ n).getD 0 []==VQ with
     | false=>exact aa4 _
     | true =>
      rw[cond_true];have:=aCZ (l:=(bJ n).drop 1) fun s hs=>ht s (List.mem_of_mem_drop hs)
      rw[ach]at this;omega
theorem aBF{d:Nat}{v:An}(h:si (d+3) v)(q:anY)(y:An)(hy:hL v q=some y):y.text.length<=30000:=by
 have hsp:∀k l,(q8 v k l).length<=30000:=fun k l=>by
  unfold q8;cases aB v k with
  | true=>exact Nat.le_trans (aBs _) (by decide)
  | false=>exact aa4 _
 have hts:(JZ (aG v bR)).length<=30000:=by
  rcases acF (d:=d+1) h bR with e | e
  ·rw[e];exact aut (aa4 _) fun y hy=>by cases hy
  ·exact aut e.1.2.2.1 fun y hy=>(e.2.2.2 y hy).1.2.2.1
 have of:∀{b:Bool} {s:anY},s.length<=30000->(bif b then some (bI s)else none)=some y->y.text.length<=30000:=by
  intro b s hs he;cases b with
  | false=>cases he
  | true=>cases he;exact hs
 unfold hL at hy;split at hy
 ·exact of (Nat.le_trans (sH _) (by decide)) hy
 ·split at hy
  ·exact of (hsp _ _) hy
  ·split at hy
   ·exact of (hsp _ _) hy
   ·split at hy
    ·exact of hts hy
    ·cases hy
theorem XQ:Sf isK mP KD:=⟨rfl,rfl,by unfold Pl.SS;exact List.pairwise_singleton _ _,rfl,by decide,fun k hk=>by rw[List.mem_singleton.1 hk];exact kyT.2.2.2.2,fun y hy=>by rw[List.mem_singleton.1 hy];rfl⟩
theorem aoJ(k:anY)(h:isK k):k.length<=30000:=by
 have:∀k∈TN,k.length<=30000:=by decide
 exact this k h
theorem Sf.Gh{ψ:anY->Prop}{φ:An->Prop}{a:An}(h:Sf ψ φ a):Gh0 a:=fun _=>⟨h.len,lD h.ss⟩
theorem af2{v:An}{d:Nat}(h:si (d+3) v)(hb:Bw v=true):Fo aai (Bv v):=by
 unfold Bw at hb;unfold Bv;cases hno:Ia v with
 | true=>rw[hno]at hb;cases hb
 | false =>
  rw[hno,cond_false]at hb;rw[cond_false];cases hof:II v==kg with
  | true =>rw[cond_true];refine HV atU (ak7 XQ.Gh) XQ.nz (WG rfl rfl rfl (by decide) (fun k hk=>aoJ k (XQ.key k hk)) fun y hy=>?_) (XQ.sorted Na);rw[List.mem_singleton.1 hy];exact Ct 4 (by decide)
  | false =>
   rw[hof,cond_false]at hb;rw[cond_false];have fh:=azp hb;refine HV (amM fh hno) (ak7 fh.sf.Gh) fh.sf.nz (WG fh.sf.kind fh.sf.text fh.sf.len (Nat.le_trans fh.sf.le (by decide)) (fun k hk=>aoJ k (fh.sf.key k hk)) fun y hy=>?_) (fh.sf.sorted Na);obtain⟨q,hq⟩:=aq1 fh.sf.len (lD fh.sf.ss) y hy;have hg:get (fu (rO v) true) q=some y:=by unfold get;rw[if_pos fh.sf.kind];exact hq
   rw[fh.WA]at hg;have hl:=aBF h q y hg;have e:y=bI y.text:=fh.sf.kid y hy;rw[e];exact Ct 4 hl
theorem QA{e:Nat}{v:An}(h:si (e+4) v)(he:e+4<=11){k:anY}{j:Int}(hj:uz k=j)(h0:0<=j)(h5:j<=5)(ask:∀x,uO k x)(hb:vH v j=true):Fo k (wE v j):=by obtain⟨e1,e2,ag⟩:=aoG h he h0 h5;rw[e2]at hb;rw[e1];obtain⟨g1,g2,g3,g4,g5⟩:=ag hb;refine HV ?_ (ask _) g1 g2 g3;rw[hj,(ax9 _ h5).1,(ax9 _ h5).2];exact⟨g4,g5⟩
theorem auu{e:Nat}{k:anY}{v:An}(h:si (e+4) v)(he:e+4<=11)(hn:¬ uz k<0):uO k v/\(vH v (uz k)=true->Fo k (wE v (uz k))):=by
 rcases SY k with hk | hk
 ·rcases hk with hk | hk | hk | rfl | rfl | rfl | rfl | rfl
  ·rcases hk with rfl | rfl | rfl | rfl | rfl | rfl
   ·exact⟨auc v,QA h he (j:=0) rfl (by decide) (by decide) auc⟩
   ·exact⟨aud v,QA h he (j:=1) rfl (by decide) (by decide) aud⟩
   ·exact⟨aue v,QA h he (j:=2) rfl (by decide) (by decide) aue⟩
   ·exact⟨auf v,QA h he (j:=3) rfl (by decide) (by decide) auf⟩
   ·exact⟨aug v,QA h he (j:=4) rfl (by decide) (by decide) aug⟩
   ·exact⟨auh v,QA h he (j:=5) rfl (by decide) (by decide) auh⟩
  ·rcases hk with rfl | rfl
   ·refine⟨aui (Er h),fun hb=>?_⟩;obtain⟨g1,g2,g3,g4,g5⟩:=aax (Er h) true hb;exact HV (k:=aad) g2 (aui g1) g3 g4 g5
   ·refine⟨auj (Er h),fun hb=>?_⟩;obtain⟨g1,g2,g3,g4,g5⟩:=aax (Er h) false hb;exact HV (k:=aae) g2 (auj g1) g3 g4 g5
  ·rcases hk with rfl | rfl
   ·refine⟨auk (Er h),fun hb=>?_⟩;obtain⟨g1,g2,g3,g4,g5⟩:=WI (Er h) hb;exact HV (k:=O8) g2 (auk g1) g3 g4 g5
   ·refine⟨aul (Er h),fun hb=>?_⟩;obtain⟨g1,g2,g3,g4,g5⟩:=WI (Er h) hb;exact HV (k:=SC) g2 (aul g1) g3 g4 g5
  ·exact⟨aum (aya h).1,ak9 h⟩
  ·exact⟨aun (ayb h).1,af0 h⟩
  ·exact⟨auo (aq8 h),aoI (aq8 h)⟩
  ·exact⟨aup (aq9 (d:=e+2) h (by omega)),aur (aq9 (d:=e+2) h (by omega))⟩
  ·exact⟨ak7 (SX h),af2 h⟩
 ·exact absurd (show uz k<0 by omega) hn
theorem awC{k:anY}(v:An)(hn:uz k<0):fdF k v=none:=by
 rcases SY k with hk | hk
 ·exfalso;rcases hk with(rfl | rfl | rfl | rfl | rfl | rfl) | (rfl | rfl) | (rfl | rfl) | rfl | rfl | rfl | rfl | rfl<;>exact absurd hn (by decide)
 ·exact hk.2 v
theorem ara{l:List (anY)}(h:l.Nodup):(Pl.bn l).length=l.length :=
 Nat.le_antisymm (Pl.sw l) (N9 l (Pl.bn l) h fun _ hx=>Pl.jY.2 hx)
section
variable {P:anY->An->Prop}
theorem azC{o:An}(h3:o.kind=3):iM o=o:=by show(⟨3,o.text,o.keys,o.kids⟩:An)=o;rw[<- h3];exact fP o
theorem arb{d:Nat}(hd:d+1<=1000)(hw:∀k y,P k y->wg 10000 d y=true/\kd d y=true)(hs:∀k y,P k y->aL d y=y){o:An}(h:Ip P o)(h3:o.kind=3)(hl:o.keys.length<=1000) :
  dS 1000 o=aL (d+1) o/\Sp P (aL (d+1) o)/\(aL (d+1) o).keys.length=o.keys.length:=by
 obtain⟨w1,w2⟩:=h.leafs hw (by omega);have hf:=h.form hs;rw[azC h3]at w1 w2 hf;refine⟨Qw hd w1 w2,hf,?_⟩;have e:aL (d+1) o=⟨o.kind,o.text,Pl.bn o.keys,(Pl.bn o.keys).map fun k=>aL d (aG o k)⟩:=by show(bif o.kind==3 then _ else _)=_;rw[jL h3];rfl
 rw[e];exact ara h.nd
theorem Sp.awD{o:An}(h:Sp P o){d:Nat}(hd:d+1<=1000)(hw:∀k y,P k y->wg 10000 d y=true/\kd d y=true)(hs:∀k y,P k y->aL d y=y)(hl:o.keys.length<=1000):dS 1000 ⟨3,[],o.keys,o.kids⟩=o:=by
 have e:(⟨3,[],o.keys,o.kids⟩:An)=o:=by rw[<- h.text,<- h.kind];exact fP o
 obtain⟨w1,w2⟩:=h.leafs hw (by omega);rw[e,Qw hd w1 w2,h.sorted hs]
theorem aep{o:An}(h3:o.kind=3)(hl:o.keys.length=o.kids.length)(hn:o.keys.Nodup){k:anY}{v:An}(hk:k∉o.keys):aY o k v=⟨3,[],o.keys++[k],o.kids++[v]⟩/\(o.keys++[k]).Nodup:=by rw[aap (.inr h3) hl hn];exact aem (.inr h3) hl hn hk
theorem aer{l:List (anY)}{k s:anY}{t:List (anY)}(hd:∀q∈s::t,q∉l)(hn:(s::t).Nodup)(hk:k∈t):k∉l++[s]:=fun hq=>by
 rcases List.mem_append.1 hq with hq | hq
 ·exact hd k (abD _ hk) hq
 ·rw[List.mem_singleton.1 hq]at hk;exact(List.nodup_cons.1 hn).1 hk
end
theorem auv{k:anY}{a:An}(h:Fo k a):ML k=false/\¬ uz k<0:=by
 rcases SY k with hk | hk
 ·rcases hk with(rfl | rfl | rfl | rfl | rfl | rfl) | (rfl | rfl) | (rfl | rfl) | rfl | rfl | rfl | rfl | rfl<;>exact⟨rfl,by decide⟩
 ·have:=h.fd;rw[hk.2 a]at this;cases this
theorem ayd(k:anY)(y:An)(h:Fo k y):wg 10000 12 y=true/\kd 12 y=true:=⟨Aw (by decide) (wO h.uE),XO (by decide) (SV h.uE)⟩
theorem awE(k:anY)(y:An)(h:Fo k y):aL 12 y=y:=h.srt
theorem azD{k:anY}{a:An}(h:Fo k a):k.length<=30000:=by
 rcases SY k with hk | hk
 ·rcases hk with(rfl | rfl | rfl | rfl | rfl | rfl) | (rfl | rfl) | (rfl | rfl) | rfl | rfl | rfl | rfl | rfl<;>decide
 ·have:=h.fd;rw[hk.2 a]at this;cases this
structure Sv (a:An):Prop where
 kind:a.kind=3
 again:CZ a=(a,[],0)
 uE:sn 7 a
 srt:aL 13 a=a
 key:∀k∈a.keys,¬ uz k<0
theorem ala:∀(ks:List (anY)) (vs:List An) (o:An),Fa Fo ks vs->ks.Nodup->(∀k∈ks,k∉o.keys)->o.kind=3->o.text=[]->o.keys.length=o.kids.length->o.keys.Nodup->Hq ks vs o=(dS 1000 ⟨3,[],o.keys++ks,o.kids++vs⟩,[],0)
 | [],[],o,_,_,_,h3,ht,_,_=>by unfold Hq;rw[acg,acg,<- h3,<- ht,fP]
 | k::ks,v::vs,o,hf,hn,hd,h3,ht,hl,hnd=>by
  have hn':=List.nodup_cons.1 hn;obtain⟨p1,p2⟩:=aep h3 hl hnd (v:=v) (hd k abI);obtain⟨q1,q2⟩:=auv hf.1;rw[Hq,q1,cond_false,hf.1.fd];simp only;rw[eT hf.1.nz,cond_false,show((0:Int)!=0)=false from rfl,cond_false,jK hf.1.nz,cond_true,p1,
   ala ks vs _ hf.2 hn'.2 (fun q hq=>aer hd hn hq) rfl rfl (by simp[hl]) p2]
  simp
 | [],_::_,_,h,_,_,_,_,_,_=>h.elim
 | _::_,[],_,h,_,_,_,_,_,_=>h.elim
theorem Sp.Sv_{a:An}(h:Sp Fo a)(hl:a.keys.length<=1000):Sv a:=by
 refine⟨h.kind,?_,h.uE hl fun k y hy=>⟨azD hy,hy.uE⟩,h.sorted awE,fun k hk=>?_⟩
 ·unfold CZ;rw[eT (show a.kind≠0 by rw[h.kind];decide),kZ h.kind,cond_false,cond_false,ala a.keys a.kids _ h.all (lD h.ss) (fun k _ h=>by cases h) rfl rfl rfl aj7];show(dS 1000 ⟨3,[],a.keys,a.kids⟩,_,_)=_;rw[h.awD (by decide) ayd awE hl]
 ·obtain⟨v,hv⟩:=acD h.all k hk;exact(auv hv).2
theorem auw{e:Nat}(he:e+4<=11):∀(ks:List (anY)) (vs:List An) (o:An),(∀y∈vs,si (e+4) y)->Ip Fo o->o.kind=3->o.keys.length+ks.length<=1000 ->
  Hq ks vs o=((rJ ks vs o).n,(rJ ks vs o).path,(rJ ks vs o).e)/\((rJ ks vs o).e=0->Sv (rJ ks vs o).n/\(rJ ks vs o).path=[]):=by
 have fin:∀o:An,Ip Fo o->o.kind=3->o.keys.length<=1000->((dS 1000 o,([]:anY),(0:Int))=(aL 13 o,[],0))/\((0:Int)=0->Sv (aL 13 o)/\([]:anY)=[]):=fun o ho h3 hl=>by obtain⟨g1,g2,g3⟩:=arb (d:=12) (by decide) ayd awE ho h3 hl;exact⟨by rw[g1],fun _=>⟨g2.Sv_ (by omega),rfl⟩⟩
 intro ks
 induction ks with
 | nil =>intro vs o _ ho h3 hl;exact fin o ho h3 (by simpa using hl)
 | cons k ks ih =>
  intro vs o hv ho h3 hl;rw[List.length_cons]at hl;cases vs with
  | nil=>exact fin o ho h3 (by omega)
  | cons v vs =>
   have hv':=fun y hy=>hv y (abD _ hy)
   rw[Hq,rJ];cases hf:ML k with
   | true=>exact ih vs o hv' ho h3 (by omega)
   | false =>
    simp only[cond_false];by_cases hn:uz k<0
    ·rw[awC v hn,dT hn];exact⟨rfl,fun h=>by cases h⟩
    ·obtain⟨a1,a2⟩:=auu (hv v abI) he hn;unfold uO at a1;rw[a1,dF hn];simp only[cond_false];cases hk0:v.kind==0 with
     | true=>exact ih vs o hv' ho h3 (by omega)
     | false =>
      simp only[cond_false];cases hb:vH v (uz k)with
      | false=>exact⟨rfl,fun h=>by cases h⟩
      | true =>have fo:=a2 hb;obtain⟨h1,h2,h4,_⟩:=EY (k:=k) (v:=wE v (uz k)) ho.kind ho.len;simp only[cond_true,ab7,cond_false,show((0:Int)!=0)=false from rfl];rw[jK fo.nz,cond_true,ho.with_];exact ih vs _ hv' (ho.put fo) h1 (by omega)
theorem aBG:aL 13 ⟨3,[],[],[]⟩=⟨3,[],[],[]⟩:=by have e:aL 13 (⟨3,[],[],[]⟩:An)=⟨3,[],Pl.bn [],(Pl.bn []).map fun k=>aL 12 (aG ⟨3,[],[],[]⟩ k)⟩:=rfl;have h:Pl.bn []=[]:=List.length_eq_zero_iff.1 (Nat.le_zero.1 (Pl.sw []));rw[e,h];rfl
theorem amO{e:Nat}{n:An}(h:si (e+5) n)(he:e+4<=11):CZ n=((uD n).n,(uD n).path,(uD n).e)/\((uD n).e=0->Sv (uD n).n/\(uD n).path=[]):=by
 unfold uD CZ;by_cases h0:n.kind=0
 ·have ez:=aq7 h h0;have hi:=auw he [] [] ⟨3,[],[],[]⟩ (fun y hy=>by cases hy) (Ip.nil (.inr rfl)) rfl (by decide);have es:rJ [] [] ⟨3,[],[],[]⟩=⟨⟨3,[],[],[]⟩,[],0⟩:=by
   show(⟨aL 13 ⟨3,[],[],[]⟩,[],0⟩:jD)=_;rw[aBG]
  rw[es]at hi;subst ez;show(_=((rJ [] [] ⟨3,[],[],[]⟩).n,(rJ [] [] ⟨3,[],[],[]⟩).path,(rJ [] [] ⟨3,[],[],[]⟩).e))/\((rJ [] [] ⟨3,[],[],[]⟩).e=0->Sv (rJ [] [] ⟨3,[],[],[]⟩).n/\(rJ [] [] ⟨3,[],[],[]⟩).path=[]);rw[es];exact⟨rfl,hi.2⟩
 ·rw[eT h0,jK h0,cond_false,cond_true];by_cases h3:n.kind=3
  ·rw[kZ h3,cond_false,cond_false];exact auw he n.keys n.kids _ h.2.2.2 (Ip.nil (.inr rfl)) rfl (by show 0+_<=_;have:=h.1.1.1;omega)
  ·rw[jK h3,cond_true,cond_true];exact⟨rfl,fun h=>by cases h⟩
def Fv(k:anY)(v:An):Prop:=bP fV k=true/\Sv v
theorem aye(k:anY)(y:An)(h:Fv k y):wg 10000 13 y=true/\kd 13 y=true:=⟨Aw (by decide) (wO h.2.uE),XO (by decide) (SV h.2.uE)⟩
theorem awF(k:anY)(y:An)(h:Fv k y):aL 13 y=y:=h.2.srt
structure Ss (a:An):Prop where
 kind:a.kind=3
 again:SE a=(a,[],0)
 uE:sn 8 a
 srt:aL 14 a=a
theorem jn2(k:anY):Lib.join [jw,k] [46]=C9 k:=by show jw++([46]++(k++[]))=[115,101,114,118,105,99,101,115,46]++k;simp[jw]
theorem aEW{k:anY}(hk:k≠[]):MN [jw,k]=C9 k:=by
 have e:([jw,k]:List (anY)).filter (fun s=>!(s==[]))=[jw,k]:=by rw[aiH rfl,aiH (by simpa using hk),List.filter_nil]
 unfold MN;rw[e,jn2]
theorem aEX{k p:anY}(hk:k≠[])(hp:p≠[]):MN [jw,k,p]=(C9 k++[46])++p:=by
 have e:([jw,k,p]:List (anY)).filter (fun s=>!(s==[]))=[jw,k,p]:=by rw[aiH rfl,aiH (by simpa using hk),aiH (by simpa using hp),List.filter_nil]
 unfold MN;rw[e];show jw++([46]++(k++([46]++(p++[]))))=(([115,101,114,118,105,99,101,115,46]++k)++[46])++p;simp[jw]
theorem aC0{k:anY}(hk:k≠[]):MN [jw,k,[]]=C9 k:=by
 have e:([jw,k,[]]:List (anY)).filter (fun s=>!(s==[]))=[jw,k]:=by rw[aiH rfl,aiH (by simpa using hk),List.filter_cons_of_neg (by simp),List.filter_nil]
 unfold MN;rw[e,jn2]
theorem azE{k:anY}(h:bP fV k=true):k≠[]:=fun e=>by have:=(Vv h).1;rw[e]at this;exact absurd this (by decide)
theorem alb:∀(ks:List (anY)) (vs:List An) (o:An),Fa Fv ks vs->ks.Nodup->(∀k∈ks,k∉o.keys)->o.kind=3->o.text=[]->o.keys.length=o.kids.length->o.keys.Nodup->KQ ks vs o=(dS 1000 ⟨3,[],o.keys++ks,o.kids++vs⟩,[],0)
 | [],[],o,_,_,_,h3,ht,_,_=>by unfold KQ;rw[acg,acg,<- h3,<- ht,fP]
 | k::ks,v::vs,o,hf,hn,hd,h3,ht,hl,hnd=>by have hn':=List.nodup_cons.1 hn;obtain⟨p1,p2⟩:=aep h3 hl hnd (v:=v) (hd k abI);have q:=hf.1.2;rw[KQ,vF,hf.1.1,q.again];simp only[ab7,cond_false,show((0:Int)!=0)=false from rfl];rw[jK (show v.kind≠0 by rw[q.kind];decide),cond_true,p1,alb ks vs _ hf.2 hn'.2 (fun q hq=>aer hd hn hq) rfl rfl (by simp[hl]) p2];simp
 | [],_::_,_,h,_,_,_,_,_,_=>h.elim
 | _::_,[],_,h,_,_,_,_,_,_=>h.elim
theorem Sp.Ss_{a:An}(h:Sp Fv a)(hl:a.keys.length<=16):Ss a:=by
 have e:MO a=(a,[],0):=by unfold MO;rw[eT (show a.kind≠0 by rw[h.kind];decide),kZ h.kind,cond_false,cond_false,alb a.keys a.kids _ h.all (lD h.ss) (fun k _ h=>by cases h) rfl rfl rfl aj7];show(dS 1000 ⟨3,[],a.keys,a.kids⟩,_,_)=_;rw[h.awD (by decide) aye awF (by omega)]
 refine⟨h.kind,?_,h.uE (by omega) fun k y hy=>⟨Nat.le_trans (Vv hy.1).2 (by decide),hy.2.uE⟩,h.sorted awF⟩;unfold SE;rw[e,kZ h.kind,cond_false];show(bif(bif(0:Int)==0 then decide ((16:Int)<(a.keys.length:Int))else false)then _ else _)=_;rw[dF (show ¬ (16:Int)<(a.keys.length:Int) by omega)];rfl
theorem aBH{e:Nat}(he:e+4<=11):∀(ks:List (anY)) (vs:List An) (o:An),(∀y∈vs,si (e+5) y)->Ip Fv o->o.kind=3->o.keys.length+ks.length<=1000 ->
  ((KQ ks vs o).2.2≠0/\KQ ks vs o=((mZ ks vs o).n,(mZ ks vs o).path,(mZ ks vs o).e))\/∃o',Ip Fv o'/\o'.kind=3/\o'.keys.length<=1000/\KQ ks vs o=(dS 1000 o',[],0)/\mZ ks vs o=bif decide ((16:Int)<(o'.keys.length:Int))then⟨zn,jw,9⟩else⟨aL 14 o',[],0⟩:=by
 intro ks
 induction ks with
 | nil =>intro vs o _ ho h3 hl;exact .inr ⟨o,ho,h3,by simpa using hl,by unfold KQ;rfl,by unfold mZ;rfl⟩
 | cons k ks ih =>
  intro vs o hv ho h3 hl;rw[List.length_cons]at hl;cases vs with
  | nil=>exact .inr ⟨o,ho,h3,by omega,by unfold KQ;rfl,by unfold mZ;rfl⟩
  | cons v vs =>
   have hv':=fun y hy=>hv y (abD _ hy)
   obtain⟨a1,a2⟩:=amO (hv v abI) he;rw[KQ,mZ,vF,a1];simp only;cases hn:bP fV k with
   | false =>
    simp only[acn,cond_true];refine .inl ⟨by decide,?_⟩;by_cases hk:k=[]
    ·rw[hk];rfl
    ·rw[aEW hk,show(k==[])=false by simpa using hk];rfl
   | true =>
    have hk:=azE hn;simp only[ab7,cond_false];generalize uD v=s at a1 a2 ⊢;by_cases hse:s.e=0
    ·obtain⟨sv,_⟩:=a2 hse;obtain⟨h1,h2,h4,_⟩:=EY (k:=k) (v:=s.n) ho.kind ho.len;rw[kZ hse,cond_false,cond_false,jK (show s.n.kind≠0 by rw[sv.kind];decide),cond_true,ho.with_];exact ih vs _ hv' (ho.put ⟨hn,sv⟩) h1 (by omega)
    ·rw[jK hse,cond_true,cond_true];refine .inl ⟨hse,?_⟩;by_cases hp:s.path=[]
     ·rw[hp,aC0 hk];rfl
     ·rw[aEX hk hp,show(s.path==[])=false by simpa using hp];rfl
theorem alc{e:Nat}{n:An}(h:si (e+6) n)(he:e+4<=11):SE n=((qp n).n,(qp n).path,(qp n).e)/\((qp n).e=0->Ss (qp n).n):=by
 unfold qp SE;by_cases h3:n.kind=3
 ·have es:MO n=KQ n.keys n.kids ⟨3,[],[],[]⟩:=by unfold MO;rw[eT (show n.kind≠0 by rw[h3];decide),kZ h3];rfl
  rw[kZ h3,cond_false,cond_false,es];rcases aBH he n.keys n.kids ⟨3,[],[],[]⟩ h.2.2.2 (Ip.nil (.inr rfl)) rfl (by show 0+_<=_;have:=h.1.1.1;omega)with⟨g1,g2⟩ | ⟨o,g1,g2,g3,g4,g5⟩
  ·rw[eT g1];rw[g2]at g1 ⊢;exact⟨rfl,fun h=>absurd h g1⟩
  ·obtain⟨f1,f2,f3⟩:=arb (d:=13) (by decide) aye awF g1 g2 g3;rw[g4,g5,f1];show(bif(bif(0:Int)==0 then decide ((16:Int)<((aL 14 o).keys.length:Int))else false)then _ else _)=_/\_;rw[f3];by_cases h16:(16:Int)<(o.keys.length:Int)
   ·rw[dT h16];exact⟨rfl,fun h=>by cases h⟩
   ·rw[dF h16];exact⟨rfl,fun _=>f2.Ss_ (by omega)⟩
 ·rw[jK h3,cond_true,cond_true];exact⟨rfl,fun h=>by cases h⟩
end Go.Proofs.YtibpdjmikfmmaaaGreatDoor.Rf
