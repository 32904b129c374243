/- 'SchemaFiles' of chapter 19, closed: what the law's function computes (by the Mirror) gives the given statement, without conditions. -/
import Derived.Test.YtclnniijooeajaaGreatDoorTw1
import Derived.Test.YtclnniijooeajaaGreatDoorTw8
import Derived.Test.YtclnniijooeajaaGreatDoorTw5
import Derived.Test.YtclnniijooeajaaGreatDoorTw3
import Derived.Deep.Slices
import Derived.ChangeSame
import Derived.ChangeArms
import Derived.Test.YtclnniijooeajaaGreatDoorCards
import Derived.Test.YtclnniijooeajaaGreatDoorTie
import Derived.WalkKit
import Derived.ProofKit
import Derived.OpenShut
import Derived.ChangeOld
import Derived.Below
import Derived.Carry
import Derived.Lay
import Derived.LaidMore
import Derived.SevenTiedAt
import Derived.Stop.Joined
noncomputable section
namespace Go.Proofs.YtclnniijooeajaaGreatDoor.Rf
open Go Go.RowKit Go.Sort Go.Proofs.YtclnniijooeajaaGreatDoor.bA
section
def kd:Nat->Node->Bool
 | 0,_=>false
 | n+1,x=>decide (0<=x.kind)&&decide (x.kind<=3)&&decide (x.kind≠3->x.keys.length=0)&&decide (x.kind<2->x.kids.length=0)&&x.kids.all (kd n)
theorem G5{n:Nat}{x:Node}:kd (n+1) x=true↔((0<=x.kind/\x.kind<=3)/\(x.kind≠3->x.keys.length=0))/\(x.kind<2->x.kids.length=0)/\∀y∈x.kids,kd n y=true:=by simp only[kd,abG,abK,afe];grind
theorem anT:∀{n:Nat} {x:Node} (k:Nat),kd n x=true->kd (n+k) x=true
 | 0,_,_,h=>by cases h
 | n+1,x,k,h=>by have:=G5.1 h;rw[Nat.add_right_comm];exact G5.2 ⟨this.1,this.2.1,fun y hy=>anT k (this.2.2 y hy)⟩
theorem adJ{k:anP}:∀{ks:List (anP)} {vs:List Node},ks.length=vs.length->k∉ks->lk ks vs k=none
 | [],[],_,_=>rfl
 | a::t,v::w,h,hn=>by unfold lk;rw[if_neg (fun e=>hn (by rw[e];exact aa1))];exact adJ (by simpa using h) (fun hm=>hn (aa6 _ hm))
 | [],_::_,h,_=>by simp at h
 | _::_,[],h,_=>by simp at h
theorem att{k:anP}:∀{ks:List (anP)} {vs:List Node} {v:Node},lk ks vs k=some v->k∈ks
 | a::t,x::w,v,h=>by
  unfold lk at h;split at h
  ·rename_i e;rw[e];exact aa1
  ·exact aa6 _ (att h)
 | [],_,_,h=>by cases h
 | _::_,[],_,h=>by cases h
theorem akj{k:anP}(g:anP->Node):∀(ks:List (anP)),k∈ks->lk ks (ks.map g) k=some (g k)
 | a::t,h=>by
  simp only[ae6,lk];by_cases e:k=a
  ·rw[if_pos e,e]
  ·rw[if_neg e];exact akj g t ((amG.1 h).resolve_left e)
 | [],h=>by cases h
theorem atu{k:anP}:∀(ks:List (anP)) (vs:List Node) (ks':List (anP)) (vs':List Node),ks.length=vs.length->lk (ks++ks') (vs++vs') k=(match lk ks vs k with | some v=>some v | none=>lk ks' vs' k)
 | [],[],_,_,_=>rfl
 | a::t,v::w,ks',vs',h=>by
  simp only[ae0,lk];by_cases e:k=a
  ·rw[if_pos e,if_pos e]
  ·rw[if_neg e,if_neg e];exact atu t w ks' vs' (by simpa using h)
 | [],_::_,_,_,h=>by simp at h
 | _::_,[],_,_,h=>by simp at h
theorem akk(k:anP)(v:Node)(k':anP):∀(ks:List (anP)) (vs:List Node),ks.length=vs.length->lk ks (oD k v ks vs) k'=(if k'=k then(if k∈ks then some v else none)else lk ks vs k')
 | [],[],_=>by simp[lk]
 | a::t,x::w,h=>by have ih:=akk k v k' t w (by simpa using h);simp only[oD,lk];grind
 | [],_::_,h=>by simp at h
 | _::_,[],h=>by simp at h
theorem jE{l:List (anP)}{s:anP}:fA l s=true↔s∈l:=by unfold fA;grind
theorem akl{x:Node}{k:anP}{v:Node}(hk:x.kind=0\/x.kind=3)(h:x.keys.length=x.kids.length)(k':anP) :
  lk (aZ x k v).keys (aZ x k v).kids k'=(if k'=k then some v else lk x.keys x.kids k'):=by
 have hc:(bif x.kind != 0 then x.kind != 3 else false)=false:=by rcases hk with e | e<;>rw[e]<;>rfl
 unfold aZ;rw[hc];simp only[cond_false];rw[atu _ _ _ _ (Vh k v x.keys x.kids h).symm,akk k v k' x.keys x.kids h];by_cases hm:k∈x.keys
 ·rw[jE.2 hm];by_cases e:k'=k
  ·rw[if_pos e,if_pos hm,if_pos e]
  ·rw[if_neg e,if_neg e];simp only[Cy,newV,cond_true];cases lk x.keys x.kids k'<;>rfl
 ·have hb:fA x.keys k=false:=by
   cases h2:fA x.keys k with
   | false=>rfl
   | true=>exact absurd (jE.1 h2) hm
  rw[hb];simp only[Cy,newV,cond_false];by_cases e:k'=k
  ·rw[if_pos e,if_neg hm,if_pos e];simp[lk,e]
  ·rw[if_neg e,if_neg e];cases hl:lk x.keys x.kids k' with
   | some y=>rfl
   | none=>simp[lk,e]
theorem R7(k:anP)(v:Node):∀(ks:List (anP)) (vs:List Node),ks.length=vs.length->k∉ks->oD k v ks vs=vs
 | [],[],_,_=>rfl
 | a::t,x::w,h,hn=>by
  have hb:(a==k)=false:=by simpa using fun e:a=k=>hn (by rw[e];exact aa1)
  simp only[oD,hb,cond_false];rw[R7 k v t w (by simpa using h) (fun hm=>hn (aa6 _ hm))]
 | [],_::_,h,_=>by simp at h
 | _::_,[],h,_=>by simp at h
theorem adK(k:anP):∀(ks:List (anP)) (i:Nat),k∈ks->∃j:Nat,Aq k i ks=((i+j:Nat):Int)
 | [],_,h=>by cases h
 | a::t,i,h=>by
  unfold Aq;by_cases e:k=a
  ·rw[if_pos e];exact⟨0,by simp⟩
  ·rw[if_neg e];obtain⟨j,hj⟩:=adK k t (i+1) ((amG.1 h).resolve_left e);exact⟨j+1,by rw[hj];congr 1;omega⟩
theorem anU(k:anP):∀(ks:List (anP)) (i:Nat),k∉ks->Aq k i ks = -1
 | [],_,_=>rfl
 | a::t,i,h=>by unfold Aq;rw[if_neg (fun e=>h (by rw[e];exact aa1))];exact anU k t (i+1) (fun hm=>h (aa6 _ hm))
theorem axK(k:anP)(v:Node):∀(ks:List (anP)) (vs:List Node) (i:Nat),ks.length=vs.length->ks.Nodup->k∈ks->vs.set ((Aq k i ks).toNat-i) v=oD k v ks vs
 | [],_,_,_,_,h=>by cases h
 | a::t,x::w,i,hl,hn,hm=>by
  have hn':=List.nodup_cons.1 hn;unfold Aq;by_cases e:k=a
  ·subst e;rw[if_pos rfl];simp only[oD,beq_self_eq_true,cond_true,aam,Nat.sub_self,List.set_cons_zero];rw[R7 k v t w (by simpa using hl) hn'.1]
  ·have hb:(a==k)=false:=by simpa using fun h:a=k=>e h.symm
   rw[if_neg e];have hm':=(amG.1 hm).resolve_left e;obtain⟨j,hj⟩:=adK k t (i+1) hm';have ih:=axK k v t w (i+1) (by simpa using hl) hn'.2 hm';rw[hj,aam]at ih;rw[hj,aam];have e2:i+1+j-i=j+1:=by omega
   have e3:i+1+j-(i+1)=j:=by omega
   rw[e3]at ih;rw[e2,List.set_cons_succ,ih];simp only[oD,hb,cond_false]
 | _::_,[],_,h,_,_=>by simp at h
theorem ZL{o:Node}{k:anP}{v:Node}(hk:o.kind=0\/o.kind=3)(hl:o.keys.length=o.kids.length)(hn:o.keys.Nodup):bf o k v=aZ o k v:=by
 have hc:(bif o.kind != 3 then o.kind != 0 else false)=false:=by rcases hk with e | e<;>rw[e]<;>rfl
 have hc':(bif o.kind != 0 then o.kind != 3 else false)=false:=by rcases hk with e | e<;>rw[e]<;>rfl
 unfold bf aZ;rw[hc,hc',cond_false,cond_false];by_cases hm:k∈o.keys
 ·obtain⟨j,hj⟩:=adK k o.keys 0 hm;have h0:0<=index o.keys k:=by unfold index;rw[hj];omega
  have hs:=axK k v o.keys o.kids 0 hl hn hm;rw[amB]at hs;have hs:o.kids.set (index o.keys k).toNat v=oD k v o.keys o.kids:=hs;rw[dT h0,cond_true,hs,jE.2 hm];simp[Cy,newV]
 ·have h0:¬ 0<=index o.keys k:=by unfold index;rw[anU k o.keys 0 hm];decide
  have hb:fA o.keys k=false:=by
   cases h2:fA o.keys k with
   | false=>rfl
   | true=>exact absurd (jE.1 h2) hm
  rw[dF h0,cond_false,hb,R7 k v o.keys o.kids hl hm];simp[Cy,newV]
theorem atv:Pl.bn []=[]:=Pl.xX List.Pairwise.nil fun _=>Iff.rfl
theorem MJ:∀(n:Nat) (x:Node),wg 10000 n x=true->kd n x=true->dR n x=aK n x
 | 0,_,h,_=>by cases h
 | n+1,x,hw,hk=>by
  have w:=eZ.1 hw;have k:=G5.1 hk;simp only[dR,aK];by_cases h0:x.kids.length=0
  ·rw[iX (show(x.kids.length:Int)=0 by omega),cond_true];have aqF:x.kids=[]:=aeI h0;by_cases h3:x.kind=3
   ·have hkeys:x.keys=[]:=aeI (by rw[w.2.2.1 h3];exact h0);rw[iX h3,cond_true,hkeys,atv,aha]
    conv=>lhs;rw[<- fO x,hkeys,aqF]
   ·have hkeys:x.keys=[]:=aeI (k.1.2 h3);rw[dP h3,cond_false,aqF,aha]
    conv=>lhs;rw[<- fO x,hkeys,aqF]
  ·rw[dP (show(x.kids.length:Int)≠0 by omega),cond_false];by_cases h3:x.kind=3
   ·rw[kg h3,iX h3,cond_false,cond_true];congr 1;refine ajo fun q hq=>?_
    have hg:=Ux hw h3 (Pl.kE.1 hq);exact MJ n _ (Uy hw hg) (k.2.2 _ (xZ hg))
   ·rw[iI h3,dP h3,cond_true,cond_false];congr 1;exact ajo fun y hy=>MJ n y (w.2.2.2 y hy) (k.2.2 y hy)
theorem aCk(c:UInt8):(!(U6 (Int.ofNat c.toNat)))=LP c true:=beq_iff_eq.1 (xM (p:=fun n=>(!(U6 (Int.ofNat n)))==(bif(bif iU (Int.ofNat n)==0 then true else decide (4<iU (Int.ofNat n)))then true else(bif true then iU (Int.ofNat n)==3 else false))) (by decide +kernel) c)
theorem aCl(c:UInt8):(!(Nl (Int.ofNat c.toNat)))=LP c false:=beq_iff_eq.1 (xM (p:=fun n=>(!(Nl (Int.ofNat n)))==(bif(bif iU (Int.ofNat n)==0 then true else decide (4<iU (Int.ofNat n)))then true else(bif false then iU (Int.ofNat n)==3 else false))) (by decide +kernel) c)
theorem ami(s:anP):oh U6 Nl s=bO LP s:=aj5 aCk aCl s
theorem afj(s:anP)(v:Bool):LM v s=nT s v:=by
 cases v
 ·exact uS s
 ·exact ami s
theorem aqG:∀s:anP,Lib.indexByte s 61=if fi s<s.length then(fi s:Int)else -1
 | []=>rfl
 | c::t=>by
  unfold Lib.indexByte fi;have ih:=aqG t;by_cases h:c=61
  ·subst h;simp
  ·have h1:(c==61)=false:=by simpa using h
   have h2:((c.toNat:Int)!=61)=true:=by rw[bne_iff_ne];intro e;exact h (UInt8.toNat_inj.1 (by show c.toNat=61;omega))
   grind
theorem azO(s:anP):mg s NT=s.take (fi s):=by
 have h:=aqG s;unfold mg ql;rw[show NT.headD 0=61 from rfl,h];by_cases hl:fi s<s.length
 ·grind
 ·rw[if_neg hl,dF (by omega),cond_false,aeM (by omega)]
theorem azP(s:anP):qm s NT=s.drop (fi s+1):=by
 have h:=aqG s;unfold qm ql;rw[show NT.headD 0=61 from rfl,h];by_cases hl:fi s<s.length
 ·grind
 ·rw[if_neg hl,dF (by omega),cond_false,aa7 (by omega)]
structure Iv (ψ:anP->Prop) (φ:Node->Prop) (o:Node):Prop where
 kind:o.kind=0\/o.kind=3
 none_:o.kind=0->o.keys=[]
 text:o.text=[]
 len:o.keys.length=o.kids.length
 nd:o.keys.Nodup
 key:∀k∈o.keys,ψ k
 kid:∀y∈o.kids,φ y
section
variable {ψ:anP->Prop} {φ:Node->Prop}
theorem Iv.nil:Iv ψ φ zn:=⟨.inl rfl,fun _=>rfl,rfl,rfl,amt,(fun k h=>by cases h),(fun y h=>by cases h)⟩
theorem ZM{o:Node}(hk:o.kind=0\/o.kind=3)(k:anP)(v:Node):aZ o k v=⟨3,[],o.keys++Cy (fA o.keys k) k,oD k v o.keys o.kids++newV (fA o.keys k) v⟩:=by
 have hc:(bif o.kind != 0 then o.kind != 3 else false)=false:=by rcases hk with e | e<;>rw[e]<;>rfl
 unfold aZ;rw[hc];rfl
theorem VU{l:List (anP)}{k:anP}(h:k∉l):fA l k=false:=by
 cases hb:fA l k with
 | false=>rfl
 | true=>exact absurd (jE.1 hb) h
theorem FB{o:Node}(hk:o.kind=0\/o.kind=3)(hl:o.keys.length=o.kids.length){k:anP}(hn:k∉o.keys)(v:Node):aZ o k v=⟨3,[],o.keys++[k],o.kids++[v]⟩:=by rw[ZM hk,VU hn,R7 k v o.keys o.kids hl hn];rfl
theorem Iv.put{o:Node}(h:Iv ψ φ o){k:anP}{v:Node}(hk:ψ k)(hv:φ v):Iv ψ φ (aZ o k v):=by
 obtain⟨h1,h2,h3,h4⟩:=ER (k:=k) (v:=v) h.kind h.len;have e:=ZM h.kind k v;have ek:(aZ o k v).keys=o.keys++Cy (fA o.keys k) k:=by rw[e]
 refine⟨.inr h1,(fun e=>by rw[h1]at e;cases e),(by rw[e]),h2,?_,?_,?_⟩
 ·rw[ek];by_cases hm:k∈o.keys
  ·rw[jE.2 hm];simpa[Cy]using h.nd
  ·rw[VU hm];show(o.keys++[k]).Nodup;rw[List.nodup_append];exact⟨h.nd,by simp,fun a ha b hb=>by rw[List.mem_singleton.1 hb];intro e;exact hm (e▸ha)⟩
 ·rw[ek];intro q hq;rcases List.mem_append.1 hq with hq | hq
  ·exact h.key q hq
  ·cases hb:fA o.keys k with
   | true=>rw[hb]at hq;cases hq
   | false=>rw[hb]at hq;rw[List.mem_singleton.1 hq];exact hk
 ·intro y hy;rcases h4 y hy with rfl | hy
  ·exact hv
  ·exact h.kid y hy
theorem o9{k:anP}:∀{ks:List (anP)} {vs:List Node},ks.length=vs.length->(lk ks vs k).isSome=fA ks k
 | [],[],_=>rfl
 | a::t,x::w,h=>by
  unfold lk;by_cases e:k=a
  ·subst e;rw[if_pos rfl];simp[fA]
  ·have:(a==k)=false:=by simpa using fun h:a=k=>e h.symm
   rw[if_neg e,o9 (by simpa using h)];simp[fA,this]
 | [],_::_,h=>by simp at h
 | _::_,[],h=>by simp at h
theorem Iv.there{o:Node}(h:Iv ψ φ o)(k:anP):aD o k=fA o.keys k:=by
 unfold aD get;rcases h.kind with e | e
 ·rw[if_neg (by rw[e];decide),h.none_ e];rfl
 ·rw[if_pos e];exact o9 h.len
theorem Iv.with_{o:Node}(h:Iv ψ φ o)(k:anP)(v:Node):bf o k v=aZ o k v:=ZL h.kind h.len h.nd
theorem adL(f:anP->Bool):∀(l:List (anP)) (o:Node),(X6 f l o true).2=true
 | [],_=>rfl
 | _::t,_=>adL f t _
theorem adM(f:anP->Bool):∀(l:List (anP)) (r:List Node) (o:Node),(SG f l r o true).2=true
 | [],_,_=>rfl
 | _::_,[],_=>rfl
 | _::t,_::r,_=>adM f t r _
theorem atw{f g:anP->Bool}(hfg:∀s,f s=g s)(hψ:∀k,g k=true->ψ k):∀(l:List (anP)) (o:Node),(∀s∈l,φ (bI (s.drop (fi s+1))))->Iv ψ φ o ->
  (VL g l o=none/\(X6 f l o false).2=true)\/∃o',VL g l o=some o'/\X6 f l o false=(o',false)/\Iv ψ φ o'
 | [],o,_,h=>.inr ⟨o,rfl,rfl,h⟩
 | s::t,o,hφ,h=>by
  unfold VL X6;rw[azO,azP,hfg,h.there,h.with_,cond_false];generalize s.take (fi s)=k;cases hg:g k with
  | false =>
   refine .inl ⟨rfl,?_⟩;have:(bif fA o.keys k then true else !false)=true:=by cases fA o.keys k<;>rfl
   rw[this];exact adL f t _
  | true =>
   cases hi:fA o.keys k with
   | true=>exact .inl ⟨rfl,adL f t _⟩
   | false=>exact atw hfg hψ t _ (fun q hq=>hφ q (aa6 _ hq)) (h.put (hψ k hg) (hφ s aa1))
theorem atx{f g:anP->Bool}(hfg:∀s,f s=g s)(hψ:∀k,g k=true->ψ k):∀(l:List (anP)) (r:List Node) (o:Node),(∀y∈r,φ (bI y.text))->Iv ψ φ o ->
  (GX g l r o=none/\(SG f l r o false).2=true)\/∃o',GX g l r o=some o'/\SG f l r o false=(o',false)/\Iv ψ φ o'
 | [],_,o,_,h=>.inr ⟨o,by unfold GX;rfl,by unfold SG;rfl,h⟩
 | _::_,[],o,_,h=>.inr ⟨o,by unfold GX;rfl,by unfold SG;rfl,h⟩
 | s::t,y::r,o,hφ,h=>by
  unfold GX SG;rw[hfg,h.with_,cond_false];cases hg:g s with
  | false =>
   refine .inl ⟨rfl,?_⟩;have:(bif decide ((1:Int)<y.kind)then true else !false)=true:=by cases decide ((1:Int)<y.kind)<;>rfl
   rw[this];exact adM f t r _
  | true =>
   cases hi:decide ((1:Int)<y.kind)with
   | true=>exact .inl ⟨rfl,adM f t r _⟩
   | false=>exact atx hfg hψ t r _ (fun q hq=>hφ q (aa6 _ hq)) (h.put (hψ s hg) (hφ y aa1))
theorem akm{g:anP->Bool}:∀(ks:List (anP)) (vs:List Node) (o o':Node),ks.length=vs.length->ks.Nodup->(∀k∈ks,k∉o.keys)->(o.kind=0\/o.kind=3)->o.keys.length=o.kids.length ->
  GX g ks vs o=some o'->o'.keys=o.keys++ks
 | [],[],o,o',_,_,_,_,_,h=>by unfold GX at h;cases h;simp
 | s::t,y::r,o,o',hl,hn,hd,hk,hlen,h=>by
  unfold GX at h;have hn':=List.nodup_cons.1 hn;cases hb:(bif !(g s)then true else decide ((1:Int)<y.kind))with
  | true=>rw[hb]at h;cases h
  | false =>
   rw[hb,cond_false,FB hk hlen (hd s aa1)]at h;have:=akm t r _ o' (by simpa using hl) hn'.2 (fun k hm hq=>by
    rcases List.mem_append.1 hq with hq | hq
    ·exact hd k (aa6 _ hm) hq
    ·rw[List.mem_singleton.1 hq]at hm;exact hn'.1 hm) (.inr rfl) (by simp[hlen]) h
   rw[this];simp
 | [],_::_,_,_,h,_,_,_,_,_=>by simp at h
 | _::_,[],_,_,h,_,_,_,_,_=>by simp at h
theorem anV{g:anP->Bool}:∀(ks:List (anP)) (vs:List Node) (o:Node),ks.length=vs.length->ks.Nodup->(∀k∈ks,k∉o.keys)->(o.kind=0\/o.kind=3)->o.keys.length=o.kids.length->o.text=[] ->
  (∀k∈ks,g k=true)->(∀y∈vs,y=bI y.text)->∃o',GX g ks vs o=some o'/\o'.text=[]/\o'.keys=o.keys++ks/\o'.kids=o.kids++vs
 | [],[],o,_,_,_,_,_,ht,_,_=>⟨o,by unfold GX;rfl,ht,by simp,by simp⟩
 | s::t,y::r,o,hl,hn,hd,hk,hlen,ht,hg,hv=>by
  have hn':=List.nodup_cons.1 hn;have hy:=hv y aa1;have hk1:¬ (1:Int)<y.kind:=by rw[hy];show ¬ (1:Int)<1;decide
  unfold GX;rw[hg s aa1,dF hk1,FB hk hlen (hd s aa1),<- hy];obtain⟨o',h1,h2,h3,h4⟩:=anV (g:=g) t r ⟨3,[],o.keys++[s],o.kids++[y]⟩ (by simpa using hl) hn'.2 (fun k hm hq=>by
    rcases List.mem_append.1 hq with hq | hq
    ·exact hd k (aa6 _ hm) hq
    ·rw[List.mem_singleton.1 hq]at hm;exact hn'.1 hm) (.inr rfl) (by simp[hlen]) rfl (fun k hm=>hg k (aa6 _ hm)) (fun z hz=>hv z (aa6 _ hz))
  grind
 | [],_::_,_,h,_,_,_,_,_,_,_=>by simp at h
 | _::_,[],_,h,_,_,_,_,_,_,_=>by simp at h
theorem Iv.leafs{o:Node}(h:Iv ψ φ o)(hφ:∀y,φ y->wg 10000 11 y=true/\kd 11 y=true)(h32:o.keys.length<=32):wg 10000 12 (iJ o)=true/\kd 12 (iJ o)=true :=
  ⟨eZ.2 ⟨by show o.keys.length<=10000;omega,by have:=h.len;show o.kids.length<=10000;omega,fun _=>h.len,fun y hy=>(hφ y (h.kid y hy)).1⟩,
   G5.2 ⟨⟨⟨show(0:Int)<=3 by decide,show(3:Int)<=3 by decide⟩,fun e=>absurd rfl e⟩,fun e=>absurd (show(3:Int)<2 from e) (by decide),fun y hy=>(hφ y (h.kid y hy)).2⟩⟩
theorem Iv.dn{o:Node}(h:Iv ψ φ o)(hφ:∀y,φ y->wg 10000 11 y=true/\kd 11 y=true):EN o false=eY o true/\EO o false=(bif eX o true then 0 else 10):=by
 unfold EN EO eY eX abk;simp only[cond_false,abI];by_cases h32:(32:Int)<(o.keys.length:Int)
 ·rw[dT h32];exact⟨rfl,rfl⟩
 ·obtain⟨hw,hk⟩:=h.leafs hφ (by omega);rw[dF h32];have e:∀m:Nat,m=12+988->dR m (iJ o)=aK 12 (iJ o):=fun m hm=>by rw[hm,sort_k 12 988 _ hw,MJ 12 _ hw hk]
  simp only[cond_false,aem,cond_true];exact⟨e 1000 (by omega),trivial⟩
structure Sf (ψ:anP->Prop) (φ:Node->Prop) (a:Node):Prop where
 kind:a.kind=3
 text:a.text=[]
 ss:Pl.SS a.keys
 len:a.keys.length=a.kids.length
 le:a.keys.length<=32
 key:∀k∈a.keys,ψ k
 kid:∀y∈a.kids,φ y
theorem mD{l:List (anP)}(h:Pl.SS l):l.Nodup:=List.Pairwise.imp (fun {a b} (h:a<b) (e:a=b)=>Pl.xW b (e▸h)) h
theorem Iv.form{o:Node}(h:Iv ψ φ o)(hs:∀y,φ y->aK 11 y=y)(h32:o.keys.length<=32):Sf ψ φ (aK 12 (iJ o)):=by
 have e:aK 12 (iJ o)=⟨3,o.text,Pl.bn o.keys,(Pl.bn o.keys).map fun k=>aK 11 (aJ (iJ o) k)⟩:=rfl;rw[e];refine⟨rfl,h.text,(Pl.FZ o.keys).1,by simp,Nat.le_trans (Pl.uK _) h32,fun k hk=>h.key k (Pl.kE.1 hk),fun y hy=>?_⟩;obtain⟨k,hk,rfl⟩:=List.mem_map.1 hy;have hg:aD (iJ o) k=true:=by show(get (iJ o) k).isSome=true;have:get (iJ o) k=lk o.keys o.kids k:=if_pos rfl;rw[this,o9 h.len];exact jE.2 (Pl.kE.1 hk)
 have:=h.kid _ (xZ (a:=iJ o) hg);rw[hs _ this];exact this
theorem P9:∀(ks:List (anP)) (vs:List Node),ks.length=vs.length->ks.Nodup->ks.map (fun k=>(lk ks vs k).getD zn)=vs
 | [],[],_,_=>rfl
 | a::t,x::w,h,hn=>by
  have hn':=List.nodup_cons.1 hn;rw[ae6];congr 1
  ·unfold lk;rw[if_pos rfl];rfl
  ·rw[<- P9 t w (by simpa using h) hn'.2];refine ajo fun k hk=>?_
   have:k≠a:=fun e=>hn'.1 (e▸hk)
   rw[P9 t w (by simpa using h) hn'.2]
   conv=>lhs;unfold lk
   rw[if_neg this]
 | [],_::_,h,_=>by simp at h
 | _::_,[],h,_=>by simp at h
theorem Sf.sorted{a:Node}(h:Sf ψ φ a)(hs:∀y,φ y->aK 11 y=y):aK 12 a=a:=by
 have hk:Pl.bn a.keys=a.keys:=Pl.xX h.ss fun _=>Iff.rfl
 have e:aK 12 a=⟨a.kind,a.text,Pl.bn a.keys,(Pl.bn a.keys).map fun k=>aK 11 (aJ a k)⟩:=by show(bif a.kind==3 then _ else _)=_;rw[iX h.kind];rfl
 rw[e,hk];have e2:(a.keys.map fun k=>aK 11 (aJ a k))=a.keys.map fun k=>(lk a.keys a.kids k).getD zn:=by
  refine ajo fun k hk=>?_
  have hg:aD a k=true:=by show(get a k).isSome=true;rw[show get a k=lk a.keys a.kids k from if_pos h.kind,o9 h.len];exact jE.2 hk
  rw[hs _ (h.kid _ (xZ hg))];show(get a k).getD zn=_;rw[show get a k=lk a.keys a.kids k from if_pos h.kind]
 rw[e2,P9 _ _ h.len (mD h.ss)];exact fO a
theorem Sf.Mv{a:Node}(h:Sf ψ φ a)(hφ:∀y,φ y->wg 10000 11 y=true/\kd 11 y=true):wg 10000 12 a=true :=
 eZ.2 ⟨by have:=h.le;omega,by have:=h.le;have:=h.len;omega,fun _=>h.len,fun y hy=>(hφ y (h.kid y hy)).1⟩
theorem JJ{a o':Node}(h:Sf ψ φ a)(hs:∀y,φ y->aK 11 y=y)(h1:o'.text=[])(h2:o'.keys=a.keys)(h3:o'.kids=a.kids):eY o' true=a/\eX o' true=true:=by
 have hm:iJ o'=a:=by show(⟨3,o'.text,o'.keys,o'.kids⟩:Node)=a;rw[h1,h2,h3,<- h.text,<- h.kind];exact fO a
 have hb:eX o' true=true:=by unfold eX;rw[h2,abI,cond_false,dF (show ¬ (32:Int)<(a.keys.length:Int) by have:=h.le;omega)];rfl
 unfold eY;rw[hb,hm,h.sorted hs];exact⟨rfl,rfl⟩
end
def EH(y:Node):Prop:=y=bI y.text/\y.text.length<=200
theorem anW{s:anP}(h:s.length<=200):EH (bI s):=⟨rfl,h⟩
theorem adN(y:Node)(h:EH y):wg 10000 11 y=true/\kd 11 y=true:=by rw[h.1];exact⟨o8 _ 10,by simp[kd,bI]⟩
theorem MK(y:Node)(h:EH y):aK 11 y=y:=by rw[h.1];rfl
theorem akn{B:Nat}:∀(l:List Node) (t:List (anP)),lJ l=some t->(∀y∈l,y.text.length<=B)->∀s∈t,s.length<=B
 | [],t,h,_,s,hs=>by cases h;cases hs
 | x::r,t,h,hb,s,hs=>by
  unfold lJ at h;cases hk:x.kind != 1 with
  | true=>rw[hk]at h;cases h
  | false =>
   rw[hk,cond_false]at h;cases hr:lJ r with
   | none=>rw[hr]at h;cases h
   | some q =>
    rw[hr]at h;cases h;rcases amG.1 hs with rfl | hs
    ·exact hb x aa1
    ·exact akn r q hr (fun y hy=>hb y (aa6 _ hy)) s hs
theorem ZN{B:Nat}{n:Node}(h:∀y∈n.kids,y.text.length<=B):∀s∈bH n,s.length<=B:=by
 unfold bH;cases ht:lJ n.kids with
 | none=>intro s hs;cases hs
 | some t=>exact akn _ _ ht h
theorem abS(o:Node):EN o true=zn/\EO o true=10:=⟨rfl,rfl⟩
def Gn(n:Node):Prop:=(n.kind=3->n.keys.length=n.kids.length/\n.keys.Nodup)/\∀y∈n.kids,y.text.length<=200
theorem ZO{n:Node}(hn:Gn n)(v:Bool):(JX n v=q8 n v/\JY n v=(bif zJ n v then 0 else 10))/\(zJ n v=true->Sf (fun k=>nT k v=true) EH (q8 n v)):=by
 have fin:∀(p:Node×Bool) (q:Option Node),((p.2=true/\oV q=zn/\oB q=false)\/∃o',q=some o'/\p=(o',false)/\Iv (fun k=>nT k v=true) EH o') ->
   (EN p.1 p.2=oV q/\EO p.1 p.2=(bif oB q then 0 else 10))/\(oB q=true->Sf (fun k=>nT k v=true) EH (oV q)):=by
  rintro p q (⟨hb,h1,h2⟩ | ⟨o',rfl,rfl,hi⟩)
  ·rw[hb,h1,h2];exact⟨abS _,fun h=>by cases h⟩
  ·refine⟨hi.dn adN,fun hb=>?_⟩;have hb:eX o' true=true:=hb;have h32:o'.keys.length<=32:=by
    unfold eX at hb;grind
   have e:oV (some o')=aK 12 (iJ o'):=by show eY o' true=_;unfold eY;rw[hb];rfl
   rw[e];exact hi.form MK h32
 unfold JX JY q8 zJ;refine fin (U7 n v) (rpP n v) ?_;unfold U7 rpP;rw[KX];cases ht:qx n with
 | true =>
  simp only[cond_true];rw[BZ ht];rcases atw (ψ:=fun k=>nT k v=true) (φ:=EH) (f:=LM v) (g:=fun s=>nT s v) (fun s=>afj s v) (fun k h=>h) (bH n) zn (fun s hs=>anW (by rw[abP];have:=ZN hn.2 s hs;omega)) Iv.nil with⟨h1,h2⟩ | h
  ·rw[h1];exact .inl ⟨h2,rfl,rfl⟩
  ·exact .inr h
 | false =>
  simp only[cond_false];unfold qY;by_cases h3:n.kind=3
  ·obtain⟨hl,hnd⟩:=hn.1 h3;rw[iX h3,kg h3,cond_true,cond_false];by_cases hm:(n.kids.length:Int)<=32
   ·rw[dT hm,cond_true];rcases atx (ψ:=fun k=>nT k v=true) (φ:=EH) (f:=LM v) (g:=fun s=>nT s v) (fun s=>afj s v) (fun k h=>h) n.keys n.kids zn (fun y hy=>anW (hn.2 y hy)) Iv.nil with⟨h1,h2⟩ | h
    ·rw[h1];exact .inl ⟨h2,rfl,rfl⟩
    ·exact .inr h
   ·rw[dF hm,cond_false];cases hr:GX (fun s=>nT s v) n.keys n.kids zn with
    | none=>exact .inl ⟨rfl,rfl,rfl⟩
    | some o' =>
     have hk:=akm n.keys n.kids zn o' hl hnd (fun k _ h=>by cases h) (.inl rfl) rfl hr;have hb:eX o' true=false:=by unfold eX;grind
     refine .inl ⟨rfl,?_,hb⟩;show eY o' true=zn;unfold eY;rw[hb];rfl
  ·rw[dP h3,iI h3];exact .inl ⟨rfl,rfl,rfl⟩
theorem aqH{a:Node}{v:Bool}(h:Sf (fun k=>nT k v=true) EH a):q8 a v=a/\zJ a v=true:=by
 have ht:EC a=false:=by unfold EC Ij;rw[h.kind];rfl
 unfold q8 zJ rpP;rw[ht,cond_false,kg h.kind,cond_false];obtain⟨o',h1,h2,h3,h4⟩:=anV (g:=fun s=>nT s v) a.keys a.kids zn h.len (mD h.ss) (fun k _ h=>by cases h) (.inl rfl) rfl rfl h.key (fun y hy=>(h.kid y hy).1);rw[h1];exact JJ h MK h2 (by rw[h3];rfl) (by rw[h4];rfl)
def R8(y:Node):Prop:=y=zn
theorem anX(y:Node)(h:R8 y):wg 10000 11 y=true/\kd 11 y=true:=by rw[h];exact⟨by simp[wg,zn],by simp[kd,zn]⟩
theorem abT(y:Node)(h:R8 y):aK 11 y=y:=by rw[h];rfl
theorem ako(g:anP->Bool)(l:List (anP))(o:Node):(Mt g l false o).2=false:=by cases l<;>rfl
section
variable {ψ:anP->Prop}
theorem aty{f g:anP->Bool}(hfg:∀s,f s=g s)(hψ:∀k,g k=true->ψ k):∀(l:List (anP)) (o:Node),Iv ψ R8 o ->
  (l.any (fun s=>!(f s))=true/\(Mt g l true o).2=false)\/(l.any (fun s=>!(f s))=false/\Mt g l true o=(Jz (fun _=>zn) l o,true)/\Iv ψ R8 (Jz (fun _=>zn) l o))
 | [],o,h=>.inr ⟨rfl,rfl,h⟩
 | s::t,o,h=>by
  unfold Mt Jz;rw[aj3,hfg,h.with_,cond_true];cases hg:g s with
  | false=>exact .inl ⟨rfl,ako g t _⟩
  | true =>rw[abI,ajB];exact aty hfg hψ t _ (h.put (hψ s hg) rfl)
theorem anY{g:anP->Bool}:∀(ks:List (anP)) (o:Node),ks.Nodup->(∀k∈ks,k∉o.keys)->(o.kind=0\/o.kind=3)->o.keys.length=o.kids.length->o.text=[] ->
  (∀k∈ks,g k=true)->∃o',Mt g ks true o=(o',true)/\o'.text=[]/\o'.keys=o.keys++ks/\o'.kids=o.kids++ks.map fun _=>zn
 | [],o,_,_,_,_,ht,_=>⟨o,rfl,ht,by simp,by simp⟩
 | s::t,o,hn,hd,hk,hlen,ht,hg=>by
  have hn':=List.nodup_cons.1 hn;unfold Mt;rw[hg s aa1,cond_true,FB hk hlen (hd s aa1)];obtain⟨o',h1,h2,h3,h4⟩:=anY (g:=g) t ⟨3,[],o.keys++[s],o.kids++[zn]⟩ hn'.2 (fun k hm hq=>by
    rcases List.mem_append.1 hq with hq | hq
    ·exact hd k (aa6 _ hm) hq
    ·rw[List.mem_singleton.1 hq]at hm;exact hn'.1 hm) (.inr rfl) (by simp[hlen]) rfl (fun k hm=>hg k (aa6 _ hm))
  grind
end
theorem VW{n:Node}(hn:Gn n):(Gq n=jQ n/\Gs n=(bif rJ n then 0 else 10))/\(rJ n=true->Sf (fun k=>bO fK k=true) R8 (jQ n)):=by
 have fin:∀(o:Node) (b:Bool) (q:Node×Bool),((b=true/\q.2=false)\/(b=false/\q=(o,true)/\Iv (fun k=>bO fK k=true) R8 o)) ->
   (EN o b=eY q.1 q.2/\EO o b=(bif eX q.1 q.2 then 0 else 10))/\(eX q.1 q.2=true->Sf (fun k=>bO fK k=true) R8 (eY q.1 q.2)):=by
  rintro o b q (⟨rfl,hb⟩ | ⟨rfl,rfl,hi⟩)
  ·rw[hb];exact⟨abS _,fun h=>by cases h⟩
  ·refine⟨hi.dn anX,fun hb=>?_⟩;have hb:eX o true=true:=hb;have h32:o.keys.length<=32:=by
    unfold eX at hb;grind
   have e:eY o true=aK 12 (iJ o):=by unfold eY;rw[hb];rfl
   show Sf _ _ (eY o true);rw[e];exact hi.form abT h32
 have hm:qY n 3=Cq n:=by
  unfold qY Cq;by_cases h3:n.kind=3
  ·rw[(hn.1 h3).1]
  ·rw[dP h3];rfl
 have step:=fun(l:List (anP))=>aty (ψ:=fun k=>bO fK k=true) (f:=oh AO xL) (g:=bO fK) uS (fun k h=>h) l zn Iv.nil
 unfold Gq Gs jQ rJ;refine fin (Zk n) (Zj n) (Yt n) ?_;unfold Zk Zj rG set0 Yt;rw[hm];cases hr:Cq n with
 | true =>
  simp only[cond_true];cases hb:n.kids.any AQ with
  | true=>exact .inl ⟨rfl,ako _ _ _⟩
  | false =>grind
 | false =>
  simp only[cond_false];rw[KX];cases ht:qx n with
  | false=>exact .inl ⟨rfl,ako _ _ _⟩
  | true =>rw[abI,ajB,BZ ht];exact step (bH n)
theorem set_self{a:Node}(h:Sf (fun k=>bO fK k=true) R8 a):jQ a=a/\rJ a=true:=by
 have hr:Cq a=true:=by unfold Cq;rw[iX h.kind,cond_true,dT (by have:=h.le;omega)]
 have hb:a.kids.any AQ=false:=by rw[List.any_eq_false];intro y hy;rw[show y=zn from h.kid y hy];decide
 obtain⟨o',h1,h2,h3,h4⟩:=anY (g:=bO fK) a.keys zn (mD h.ss) (fun k _ h=>by cases h) (.inl rfl) rfl rfl h.key;unfold jQ rJ Yt;rw[hr,hb,cond_true,aem,h1];refine JJ h abT h2 (by rw[h3];rfl) ?_;rw[h4,show zn.kids=[]from rfl,aeK];refine List.ext_getElem (by simp[h.len]) fun i h1 h2=>?_
 rw[List.getElem_map];exact(h.kid _ (aeC h2)).symm
theorem Ny:∀(m l:List (anP)),m.Nodup->(∀x∈m,x∈l)->m.length<=l.length
 | [],_,_,_=>aas _
 | a::t,l,hn,hs=>by
  have hn':=List.nodup_cons.1 hn;have ha:=hs a aa1;have:=Ny t (l.erase a) hn'.2 fun x hx=>(List.mem_erase_of_ne (fun e=>by subst e;exact hn'.1 hx)).2 (hs x (aa6 _ hx))
  grind
theorem axL:∀(l m:List (anP)),m.Nodup->(∀x,x∈m↔x∈l)->m.length=l.length->l.Nodup
 | [],_,_,_,_=>amt
 | a::t,m,hn,hm,hl=>by
  have hat:a∉t:=fun ha=>by
   have:=Ny m t hn fun x hx=>by grind
   simp only[List.length_cons]at hl;omega
  have ham:a∈m:=(hm a).2 aa1;refine List.nodup_cons.2 ⟨hat,axL t (m.erase a) (hn.erase a) (fun x=>?_) (by rw[List.length_erase_of_mem ham,hl];rfl)⟩;grind
theorem agf{l:List (anP)}(h:(Pl.bn l).length=l.length):l.Nodup :=
 axL l (Pl.bn l) (mD (Pl.FZ l).1) (fun _=>Pl.kE) h
theorem awd{f:UInt8->Bool->Bool}{s:anP}(h:bO f s=true):s.length<=24:=by unfold bO at h;grind
theorem azQ{s:anP}{v:Bool}(h:nT s v=true):s.length<=24:=by unfold nT at h;cases v<;>exact awd h
theorem Qa:wg 10000 12 zn=true:=agY 11
theorem Qb{a:Node}(h:wg 10000 12 a=true):Ni 12 a a=true:=by simp only[Ni,agE (by decide) h,abW]
end
section
theorem aCm(n:Node):wg 10000 11 (SH n)=true:=by simp[wg,SH,dz,fH]
theorem R9{ks L:List (anP)}(hk:ks.Nodup)(hL:L.Nodup):((L.filter (fun k=>fA ks k)).length=ks.length)↔(ks.all fun k=>fA L k)=true:=by
 have hF:(L.filter (fun k=>fA ks k)).Nodup:=hL.filter _;have hFk:∀x∈L.filter (fun k=>fA ks k),x∈ks:=fun x hx=>jE.1 (List.mem_filter.1 hx).2
 have hle:=Ny _ ks hF hFk;rw[afe];constructor
 ·intro he k hkm;cases hb:fA L k with
  | true=>rfl
  | false =>
   exfalso;have hnL:k∉L:=fun h=>by rw[jE.2 h]at hb;cases hb
   have:=Ny _ (ks.erase k) hF fun x hx=>(List.mem_erase_of_ne (fun e=>by subst e;exact hnL (List.mem_filter.1 hx).1)).2 (hFk x hx)
   grind
 ·intro ha;have:=Ny ks _ hk fun x hx=>List.mem_filter.2 ⟨jE.1 (ha x hx),jE.2 hx⟩
  omega
theorem qQ{m:Node}(h3:m.kind=3)(hl:m.keys.length=m.kids.length)(k:anP):aD m k=fA m.keys k:=by unfold aD get;rw[if_pos h3];exact o9 hl
theorem lf3{m:Node}(h3:m.kind=3)(hl:m.keys.length=m.kids.length)(hn:m.keys.Nodup):(lfV m==0)=eO m [cK,sK,rK]:=by
 have h:=R9 hn (show([cK,sK,rK]:List (anP)).Nodup by decide);have e:(([cK,sK,rK].filter fun k=>fA m.keys k).length:Int)=(b2 (fA m.keys cK)+b2 (fA m.keys sK))+b2 (fA m.keys rK):=by cases h1:fA m.keys cK<;>cases h2:fA m.keys sK<;>cases h4:fA m.keys rK<;>simp[List.filter,h1,h2,h4,b2]
 unfold lfV eO;rw[qQ h3 hl,qQ h3 hl,qQ h3 hl,kg h3,cond_false];grind
def tf(s:anP):Bool:=(s==jZ)||(s==oM)
def co(s:anP):Bool:=((s==mq)||(s==Vj))||(s==Vk)
theorem JK(s:anP):Pp s = !(tf s):=by unfold Pp tf;cases s==jZ<;>cases s==oM<;>rfl
theorem akp(s:anP):nco s = !(co s):=by unfold nco co;cases s==mq<;>cases s==Vj<;>cases s==Vk<;>rfl
theorem VX(m:Node)(k o:anP):J6 m k o=(bU m k []&&tf (aO m k o)):=by have e:J6 m k o=(bif bU m k []then(bif aO m k o==jZ then true else aO m k o==oM)else false):=rfl;rw[e];unfold tf;grind
theorem aDL{m:Node}(h3:m.kind=3):(!(bdV m))=(bif(bif(bif bU m cK mq then J6 m sK oM else false)then J6 m rK jZ else false)then(bif(bif aO m cK mq==mq then true else aO m cK mq==Vj)then true else aO m cK mq==Vk)else false):=by
 have e1:bU m cK mq=bU m cK []:=rfl;have e2:(bif(bif aO m cK mq==mq then true else aO m cK mq==Vj)then true else aO m cK mq==Vk)=co (aO m cK mq):=by unfold co;grind
 rw[e1,e2,VX,VX];unfold bdV;rw[kg h3,JK,JK,akp];grind
def Ky(y:Node):Prop:=(y.kind=0->y=zn)/\(y.kind=3->y.keys.length=y.kids.length/\y.keys.Nodup)
theorem Ky.zn:Ky zn:=⟨fun _=>rfl,fun h=>by cases h⟩
theorem aCn{y:Node}(h0:y.kind≠0):em y=y:=by unfold em;rw[dP h0];rfl
theorem azR{y:Node}(h0:y.kind=0):em y=⟨3,[],[],[]⟩:=by unfold em;rw[iX h0];rfl
theorem Ky.em{y:Node}(h:Ky y):((em y).kind=3->(em y).keys.length=(em y).kids.length/\(em y).keys.Nodup):=by
 by_cases h0:y.kind=0
 ·rw[azR h0];exact fun _=>⟨rfl,amt⟩
 ·rw[aCn h0];exact h.2
theorem anZ{s:anP}(h:tf s=true):fH (s==jZ)=bI s:=by
 unfold tf at h;cases h1:s==jZ with
 | true =>
  have:s=jZ:=by simpa using h1
  subst this;rfl
 | false =>
  rw[h1,ajB]at h;have:s=oM:=by simpa using h
  subst this;rfl
theorem ZP{y:Node}(h:Ke y=true):(em y).kind=3/\co (aO (em y) cK mq)=true/\tf (aO (em y) sK oM)=true/\tf (aO (em y) rK jZ)=true:=by unfold Ke at h;rw[abG,ajv]at h;have hb:=h.1;unfold bdV at hb;rw[JK,JK,akp]at hb;grind
theorem axM{y:Node}(hy:Ky y):Ke y=J7 y/\(Ke y=true->SH y=Mw y):=by
 by_cases h3:(em y).kind=3
 ·obtain⟨hl,hn⟩:=hy.em h3;have e:=lf3 h3 hl hn;have eb:Ke y=J7 y:=by
   unfold Ke J7;rw[e,aDL h3];grind
  refine⟨eb,fun hb=>?_⟩;obtain⟨_,_,q2,q3⟩:=ZP hb;have ho:eO (em y) [cK,sK,rK]=true:=by rw[eb]at hb;unfold J7 at hb;grind
  unfold SH Mw;rw[ho,anZ q2,anZ q3];rfl
 ·have o:eO (em y) [cK,sK,rK]=false:=by unfold eO;rw[iI h3];rfl
  have b:Ke y=false:=by unfold Ke bdV;rw[iI h3];rfl
  refine⟨by rw[b];unfold J7;rw[o];rfl,fun h=>by rw[b]at h;cases h⟩
def Io(y:Node):Prop:=Ke y=true/\SH y=y
theorem an0(b:Bool):(Cc b==jZ)=b:=by cases b<;>rfl
theorem atz(b:Bool):tf (Cc b)=true:=by cases b<;>rfl
theorem awe{c:anP}(hc:co c=true)(r s:Bool):Io ⟨3,[],[cK,rK,sK],[dz c,fH r,fH s]⟩:=by
 have em_:em (⟨3,[],[cK,rK,sK],[dz c,fH r,fH s]⟩:Node)=⟨3,[],[cK,rK,sK],[dz c,fH r,fH s]⟩:=rfl;have g1:aD (⟨3,[],[cK,rK,sK],[dz c,fH r,fH s]⟩:Node) cK=true:=rfl;have g2:aD (⟨3,[],[cK,rK,sK],[dz c,fH r,fH s]⟩:Node) rK=true:=rfl;have g3:aD (⟨3,[],[cK,rK,sK],[dz c,fH r,fH s]⟩:Node) sK=true:=rfl;have v1:aJ (⟨3,[],[cK,rK,sK],[dz c,fH r,fH s]⟩:Node) cK=dz c:=rfl;have v2:aJ (⟨3,[],[cK,rK,sK],[dz c,fH r,fH s]⟩:Node) rK=fH r:=rfl;have v3:aJ (⟨3,[],[cK,rK,sK],[dz c,fH r,fH s]⟩:Node) sK=fH s:=rfl;have f1:∀o,aO (⟨3,[],[cK,rK,sK],[dz c,fH r,fH s]⟩:Node) cK o=c:=fun o=>by unfold aO;rw[g1,v1];rfl
 have f2:∀o,aO (⟨3,[],[cK,rK,sK],[dz c,fH r,fH s]⟩:Node) rK o=Cc r:=fun o=>by unfold aO;rw[g2,v2];rfl
 have f3:∀o,aO (⟨3,[],[cK,rK,sK],[dz c,fH r,fH s]⟩:Node) sK o=Cc s:=fun o=>by unfold aO;rw[g3,v3];rfl
 constructor
 ·unfold Ke bdV lfV;rw[em_,f1,f2,f3,JK,JK,akp,atz,atz,hc,g1,g2,g3];unfold bU;rw[g1,g2,g3,v1,v2,v3];rfl
 ·unfold SH;rw[em_,f1,f2,f3,an0,an0]
theorem aDM{y:Node}(h:Ke y=true):Io (SH y):=awe (ZP h).2.1 _ _
theorem azS(y:Node)(h:Io y):wg 10000 11 y=true/\kd 11 y=true:=by rw[<- h.2];exact⟨aCm y,by simp[kd,SH,dz,fH]⟩
theorem aCo:Pl.bn [cK,rK,sK]=[cK,rK,sK]:=Pl.xX (by unfold Pl.SS;decide) fun _=>Iff.rfl
theorem akq(y:Node)(h:Io y):aK 11 y=y:=by
 have e:∀a b c:Node,aK 10 a=a->aK 10 b=b->aK 10 c=c->aK 11 (⟨3,[],[cK,rK,sK],[a,b,c]⟩:Node)=⟨3,[],[cK,rK,sK],[a,b,c]⟩:=by intro a b c h1 h2 h3;have e1:aK 11 (⟨3,[],[cK,rK,sK],[a,b,c]⟩:Node)=⟨3,[],Pl.bn [cK,rK,sK],(Pl.bn [cK,rK,sK]).map fun k=>aK 10 (aJ ⟨3,[],[cK,rK,sK],[a,b,c]⟩ k)⟩:=rfl;have v1:aJ (⟨3,[],[cK,rK,sK],[a,b,c]⟩:Node) cK=a:=rfl;have v2:aJ (⟨3,[],[cK,rK,sK],[a,b,c]⟩:Node) rK=b:=rfl;have v3:aJ (⟨3,[],[cK,rK,sK],[a,b,c]⟩:Node) sK=c:=rfl;rw[e1,aCo,ae6,ae6,ae6,aha,v1,v2,v3,h1,h2,h3]
 rw[<- h.2];exact e _ _ _ rfl rfl rfl
theorem an1{y:Node}(h:Io y):Ky y:=by rw[<- h.2];exact⟨(fun e=>by cases e),fun _=>⟨rfl,(by show[cK,rK,sK].Nodup;decide)⟩⟩
theorem awf{y:Node}(h:Io y):J7 y=true/\Mw y=y:=by obtain⟨h1,h2⟩:=axM (an1 h);exact⟨by rw[<- h1];exact h.1,by rw[<- h2 h.1];exact h.2⟩
theorem abU(f:anP->Bool):∀(l:List (anP)) (r:List Node) (o:Node),(pd f l r o true).2=true
 | [],_,_=>rfl
 | _::_,[],_=>rfl
 | _::t,_::r,_=>abU f t r _
theorem aqI(g:anP->Bool)(l:List (anP))(r:List Node)(o:Node):(rd g l r false o).2=false:=by
 cases l with
 | nil=>rfl
 | cons s t=>cases r<;>rfl
theorem axN{ψ:anP->Prop}{f g:anP->Bool}(hfg:∀s,f s=g s)(hψ:∀k,g k=true->ψ k):∀(l:List (anP)) (r:List Node) (o:Node),(∀y∈r,Ky y)->Iv ψ Io o ->
  ((pd f l r o false).2=true/\(rd g l r true o).2=false)\/∃o',pd f l r o false=(o',false)/\rd g l r true o=(o',true)/\Iv ψ Io o'
 | [],_,o,_,h=>.inr ⟨o,by unfold pd;rfl,by unfold rd;rfl,h⟩
 | _::_,[],o,_,h=>.inr ⟨o,by unfold pd;rfl,by unfold rd;rfl,h⟩
 | s::t,y::r,o,hy,h=>by
  obtain⟨q1,q2⟩:=axM (hy y aa1);unfold pd rd;rw[hfg,h.with_,cond_true,cond_false,<- q1];cases he:Ke y with
  | false=>exact .inl ⟨abU f t r _,aqI g t r _⟩
  | true =>
   rw[<- q2 he];cases hg:g s with
   | false=>exact .inl ⟨abU f t r _,aqI g t r _⟩
   | true=>exact axN hfg hψ t r _ (fun z hz=>hy z (aa6 _ hz)) (h.put (hψ s hg) (aDM he))
theorem atA{g:anP->Bool}:∀(ks:List (anP)) (vs:List Node) (o:Node),ks.length=vs.length->ks.Nodup->(∀k∈ks,k∉o.keys)->(o.kind=0\/o.kind=3)->o.keys.length=o.kids.length->o.text=[] ->
  (∀k∈ks,g k=true)->(∀y∈vs,J7 y=true/\Mw y=y)->∃o',rd g ks vs true o=(o',true)/\o'.text=[]/\o'.keys=o.keys++ks/\o'.kids=o.kids++vs
 | [],[],o,_,_,_,_,_,ht,_,_=>⟨o,by unfold rd;rfl,ht,by simp,by simp⟩
 | s::t,y::r,o,hl,hn,hd,hk,hlen,ht,hg,hv=>by
  have hn':=List.nodup_cons.1 hn;obtain⟨v1,v2⟩:=hv y aa1;unfold rd;rw[hg s aa1,v1,v2,cond_true,cond_true,FB hk hlen (hd s aa1)];obtain⟨o',h1,h2,h3,h4⟩:=atA (g:=g) t r ⟨3,[],o.keys++[s],o.kids++[y]⟩ (by simpa using hl) hn'.2 (fun k hm hq=>by
    rcases List.mem_append.1 hq with hq | hq
    ·exact hd k (aa6 _ hm) hq
    ·rw[List.mem_singleton.1 hq]at hm;exact hn'.1 hm) (.inr rfl) (by simp[hlen]) rfl (fun k hm=>hg k (aa6 _ hm)) (fun z hz=>hv z (aa6 _ hz))
  grind
 | [],_::_,_,h,_,_,_,_,_,_,_=>by simp at h
 | _::_,[],_,h,_,_,_,_,_,_,_=>by simp at h
def Ge(n:Node):Prop:=(n.kind=3->n.keys.length=n.kids.length)/\∀y∈n.kids,Ky y
theorem an2{n:Node}(hn:Ge n):(dpV n=Mx n/\dpE n=(bif MB n then 0 else 10))/\(MB n=true->Sf (fun k=>bO fK k=true) Io (Mx n)):=by
 have fin:∀(p q:Node×Bool),((p.2=true/\q.2=false)\/∃o,p=(o,false)/\q=(o,true)/\Iv (fun k=>bO fK k=true) Io o) ->
   (EN p.1 p.2=eY q.1 q.2/\EO p.1 p.2=(bif eX q.1 q.2 then 0 else 10))/\(eX q.1 q.2=true->Sf (fun k=>bO fK k=true) Io (eY q.1 q.2)):=by
  rintro p q (⟨ha,hb⟩ | ⟨o,rfl,rfl,hi⟩)
  ·rw[ha,hb];exact⟨abS _,fun h=>by cases h⟩
  ·refine⟨hi.dn azS,fun hb=>?_⟩;have hb:eX o true=true:=hb;have h32:o.keys.length<=32:=by
    unfold eX at hb;grind
   have e:eY o true=aK 12 (iJ o):=by unfold eY;rw[hb];rfl
   show Sf _ _ (eY o true);rw[e];exact hi.form akq h32
 have hm:qY n 3=Cq n:=by
  unfold qY Cq;by_cases h3:n.kind=3
  ·rw[hn.1 h3]
  ·rw[dP h3];rfl
 have hky:∀l, ∀y∈Ce n l,Ky y:=fun l y hy=>by
  unfold Ce at hy;by_cases h3:n.kind=3
  ·rw[iX h3]at hy;exact hn.2 y hy
  ·rw[dP h3,cond_false]at hy;obtain⟨_,_,rfl⟩:=List.mem_map.1 hy;exact Ky.zn
 have step:=fun(l:List (anP))=>axN (ψ:=fun k=>bO fK k=true) (f:=oh AO xL) (g:=bO fK) uS (fun k h=>h) l (Ce n l) zn (hky l) Iv.nil
 unfold dpV dpE Mx MB;refine fin (dpP n) (rdP n) ?_;unfold dpP rdP dp0 ES uT;rw[hm];cases hr:Cq n with
 | true=>exact step n.keys
 | false =>
  simp only[cond_false];rw[KX];cases ht:qx n with
  | false=>exact .inl ⟨abU _ _ _ _,aqI _ _ _ _⟩
  | true =>rw[BZ ht];exact step (bH n)
theorem atB{a:Node}(h:Sf (fun k=>bO fK k=true) Io a):Mx a=a/\MB a=true:=by
 have hr:Cq a=true:=by unfold Cq;rw[iX h.kind,cond_true,dT (by have:=h.le;omega)]
 have hd:Ce a a.keys=a.kids:=by unfold Ce;rw[iX h.kind];rfl
 obtain⟨o',h1,h2,h3,h4⟩:=atA (g:=bO fK) a.keys a.kids zn h.len (mD h.ss) (fun k _ h=>by cases h) (.inl rfl) rfl rfl h.key (fun y hy=>awf (h.kid y hy));unfold Mx MB rdP uT;rw[hr];simp only[cond_true];rw[hd,h1];exact JJ h akq h2 (by rw[h3];rfl) (by rw[h4];rfl)
theorem lf2{m:Node}(h3:m.kind=3)(hl:m.keys.length=m.kids.length)(hn:m.keys.Nodup):(aqf m==0)=eO m [jf,l7]:=by
 have h:=R9 hn (show([jf,l7]:List (anP)).Nodup by decide);have e:(([jf,l7].filter fun k=>fA m.keys k).length:Int)=b2 (fA m.keys jf)+b2 (fA m.keys l7):=by cases h1:fA m.keys jf<;>cases h2:fA m.keys l7<;>simp[List.filter,h1,h2,b2]
 unfold aqf eO;rw[qQ h3 hl,qQ h3 hl,kg h3,cond_false];grind
theorem azT(s:anP):decide ((s.length:Int)<1)=(s==[]):=by
 cases s with
 | nil=>rfl
 | cons c t=>grind
theorem aDN{m:Node}(h3:m.kind=3)(hl:m.keys.length=m.kids.length)(hn:m.keys.Nodup):NZ m=(bif !(eO m [jf,l7])then true else MC m):=by have e1:bU m l7 xS=bU m l7 []:=rfl;unfold NZ aqe MC;rw[lf2 h3 hl hn,kg h3,uS,azT,e1];grind
def exK(k:anP):Prop:=k=jf\/k=l7
structure Gx (m:Node):Prop where
 text:m.kind=3->m.text=[]
 len:m.kind=3->m.keys.length=m.kids.length
 nd:m.kind=3->m.keys.Nodup
 Mv:wg 10000 12 m=true
 kd_:kd 12 m=true
 tx:∀y∈m.kids,y.kind=1->EH y
theorem abV{m:Node}(h:eO m [jf,l7]=true)(hn:m.kind=3->m.keys.Nodup):m.kind=3/\m.keys.length<=2/\∀k∈m.keys,exK k:=by
 unfold eO at h;by_cases h3:m.kind=3
 ·rw[kg h3,cond_false,afe]at h;refine⟨h3,Ny m.keys [jf,l7] (hn h3) fun k hk=>jE.1 (h k hk),fun k hk=>?_⟩;have:=jE.1 (h k hk);simpa[exK]using this
 ·rw[iI h3]at h;cases h
theorem awg{o:Node}(h3:o.kind=3)(hl:o.keys.length=o.kids.length)(k:anP):get (aK 12 o) k=(get o k).map (aK 11):=by
 have e:aK 12 o=⟨o.kind,o.text,Pl.bn o.keys,(Pl.bn o.keys).map fun k=>aK 11 (aJ o k)⟩:=by show(bif o.kind==3 then _ else _)=_;rw[iX h3];rfl
 rw[e];show(if o.kind=3 then lk (Pl.bn o.keys) ((Pl.bn o.keys).map fun k=>aK 11 (aJ o k)) k else none)=_;rw[if_pos h3];by_cases hk:k∈o.keys
 ·rw[akj _ _ (Pl.kE.2 hk)];obtain⟨v,hv⟩:=WO hl hk;have hg:get o k=some v:=by unfold get;rw[if_pos h3];exact hv
  unfold aJ;rw[hg];rfl
 ·have h1:get o k=none:=by
   unfold get;rw[if_pos h3];have:=o9 (k:=k) hl;rw[VU hk]at this;cases hq:lk o.keys o.kids k with
   | none=>rfl
   | some v=>rw[hq]at this;cases this
  have h2:lk (Pl.bn o.keys) ((Pl.bn o.keys).map fun k=>aK 11 (aJ o k)) k=none:=by
   have:=o9 (k:=k) (ks:=Pl.bn o.keys) (vs:=(Pl.bn o.keys).map fun k=>aK 11 (aJ o k)) (by simp);rw[VU (fun h=>hk (Pl.kE.1 h))]at this;cases hq:lk (Pl.bn o.keys) ((Pl.bn o.keys).map fun k=>aK 11 (aJ o k)) k with
   | none=>rfl
   | some v=>rw[hq]at this;cases this
  rw[h1,h2];rfl
theorem Gx.kids{m:Node}(g:Gx m)(ho:eO m [jf,l7]=true)(hr:MC m=false):∀y∈m.kids,EH y:=by
 obtain⟨h3,hle,hk⟩:=abV ho g.nd;have hl:=g.len h3;have fs:bU m jf []=true/\bU m l7 []=true:=by unfold MC at hr;have e1:bU m l7 xS=bU m l7 []:=rfl;grind
 intro y hy;obtain⟨i,hi,rfl⟩:=List.getElem_of_mem hy;have hik:i<m.keys.length:=by omega
 have hget:get m m.keys[i]=some m.kids[i]:=by
  unfold get;rw[if_pos h3];have hm:=P9 m.keys m.kids hl (g.nd h3);have:(m.keys.map fun k=>(lk m.keys m.kids k).getD zn)[i]? = m.kids[i]? := by rw[hm]
  rw[adZ,aac hik,aac hi]at this;simp only[aiM,Option.some.injEq]at this;obtain⟨v,hv⟩:=WO hl (aeC hik);rw[hv]at this ⊢;rw[<- this];rfl
 have hkind:m.kids[i].kind=1:=by
  have hx:∀k:anP,m.keys[i]=k->bU m k []=true->m.kids[i].kind=1:=by intro k e hf;unfold bU aD aJ at hf;rw[<- e,hget]at hf;simpa using hf
  rcases hk _ (aeC hik)with e | e
  ·exact hx _ e fs.1
  ·exact hx _ e fs.2
 exact g.tx _ hy hkind
theorem Gx.iv{m:Node}(g:Gx m)(ho:eO m [jf,l7]=true)(hr:MC m=false):Iv exK EH m:=by obtain⟨h3,hle,hk⟩:=abV ho g.nd;exact⟨.inr h3,(fun e=>by rw[h3]at e;cases e),g.text h3,g.len h3,g.nd h3,hk,g.kids ho hr⟩
theorem aks{m:Node}(h3:m.kind=3):iJ m=m:=by show(⟨3,m.text,m.keys,m.kids⟩:Node)=m;rw[<- h3];exact fO m
theorem ext_eq{n:Node}(g:Gx (jg n)):(exV n=vL n/\Yi n=(bif EG n then 0 else 10))/\(EG n=true->Sf exK EH (vL n)/\vL n=aK 12 (jg n)/\eO (jg n) [jf,l7]=true/\MC (jg n)=false):=by
 unfold exV Yi vL EG;by_cases h3:(jg n).kind=3
 ·rw[aDN h3 (g.len h3) (g.nd h3)];cases ho:eO (jg n) [jf,l7]with
  | false=>grind
  | true =>
   cases hr:MC (jg n)with
   | true=>grind
   | false =>
    obtain⟨_,hle,_⟩:=abV ho g.nd;have hb:eX (jg n) true=true:=by unfold eX;grind
    have hv:eY (jg n) true=aK 12 (jg n):=by unfold eY;rw[hb,aks h3];rfl
    have hs:dR 1000 (jg n)=aK 12 (jg n):=(fun(m:Nat) (hm:m=12+988)=>(by rw[hm,sort_k 12 988 _ g.Mv,MJ 12 _ g.Mv g.kd_]:dR m (jg n)=aK 12 (jg n))) 1000 (by omega);simp only[abI,cond_false];rw[hb,hv,hs];refine⟨⟨rfl,rfl⟩,fun _=>⟨?_,rfl,trivial,trivial⟩⟩;have:=(g.iv ho hr).form MK (by omega);rwa[aks h3]at this
 ·have ho:eO (jg n) [jf,l7]=false:=by unfold eO;rw[iI h3];rfl
  have hf:NZ (jg n)=true:=by unfold NZ aqe;rw[iI h3];simp
  grind
theorem awh{m a:Node}(g:Gx m)(ho:eO m [jf,l7]=true)(hr:MC m=false)(ha:a=aK 12 m)(sf:Sf exK EH a):vL a=a/\EG a=true:=by
 have h3:=(abV ho g.nd).1;have iv:=g.iv ho hr;have e1:jg a=a:=by unfold jg;rw[dP (by rw[sf.kind];decide)];rfl
 have hget:∀k,get a k=get m k:=fun k=>by
  rw[ha,awg h3 (g.len h3)];cases hq:get m k with
  | none=>rfl
  | some v =>
   have hm:v∈m.kids:=by
    have hb:aD m k=true:=by unfold aD;rw[hq];rfl
    have:=xZ hb;unfold aJ at this;rw[hq]at this;exact this
   rw[aiM,MK _ (iv.kid v hm)]
 have hoa:eO a [jf,l7]=true:=by unfold eO;rw[kg sf.kind,cond_false,afe];intro k hk;refine jE.2 ?_;have:exK k:=sf.key k hk;simpa[exK]using this
 have hf:∀k o,aO a k o=aO m k o/\bU a k o=bU m k o:=fun k o=>by unfold aO bU aD aJ;rw[hget k];exact⟨rfl,rfl⟩
 have hra:MC a=false:=by rw[<- hr];unfold MC;grind
 unfold vL EG;rw[e1,hoa,hra];simp only[abI,cond_false];exact JJ sf MK sf.text rfl rfl
end
section
def awi(t:anP):Prop:=t=[]\/∃c r,t=c::r/\eP c=true
theorem an3:∀(s t:anP),s.all eP=true->(∀c r,t=c::r->eP c=false)->fu (s++t)=s.length
 | [],[],_,_=>rfl
 | [],c::t,_,h=>by show fu (c::t)=0;rw[fu,h c t rfl];rfl
 | c::s,t,h,h2=>by rw[aeQ,abG]at h;show fu (c::(s++t))=_;rw[fu,h.1,cond_true,an3 s t h.2 h2,List.length_cons]
theorem adO(u:Nat):∃c r,Bc u=c::r/\eP c=false:=by unfold Bc;split<;>exact⟨_,_,rfl,by decide⟩
theorem aDO{u:Nat}(hu:u<=3){t:anP}(ht:awi t):gU (Bc u++t)=(u,(Bc u).length):=by
 have:u=0\/u=1\/u=2\/u=3:=by omega
 rcases this with rfl | rfl | rfl | rfl
 ·rfl
 ·rcases ht with rfl | ⟨c,r,rfl,hc⟩
  ·rfl
  ·have:=wP.1 hc;show(bif(((c.toNat:Nat):Int)==115)then((3,2):Nat×Nat)else(1,1))=_;rw[dP (by omega)];rfl
 ·rfl
 ·rfl
theorem atC{k:Int}(h0:0<=k)(h1:k<9223372036854775808){u:Nat}(hu:u<=3){t:anP}(ht:awi t) :
  gH (bq k++(Bc u++t))=bq k/\gX (bq k++(Bc u++t))=(u,(Bc u).length)/\gR (bq k++(Bc u++t))=t:=by
 obtain⟨_,_,q3⟩:=yA h0 h1;obtain⟨c,r,e,hc⟩:=adO u;have hp:fu (bq k++(Bc u++t))=(bq k).length:=an3 _ _ q3 fun c' r' h=>by rw[e]at h;cases h;exact hc
 have hx:gX (bq k++(Bc u++t))=(u,(Bc u).length):=by unfold gX;rw[hp,List.drop_left,aDO hu ht]
 refine⟨by unfold gH;rw[hp,List.take_left],hx,?_⟩;unfold gR;rw[hp,hx,<- abJ];grind
theorem an4{n:Int}{i:Nat}(h:0<n / (bQ i:Int)):PY n i=bq (n / (bQ i:Int))++Bc i:=by unfold PY;rw[dT h];rfl
theorem akt{n:Int}{i:Nat}(h:¬ 0<n / (bQ i:Int)):PY n i=[]:=by unfold PY;rw[dF h];rfl
theorem atD:∀(k i:Nat) (n:Int),0<=n->n<=1099511627776->awi (JC k i n)
 | 0,_,_,_,_=>.inl rfl
 | k+1,i,n,h0,h1=>by
  obtain⟨a1,a2,a3,a4,a5,a6,a7⟩:=ZH i h0 h1;unfold JC;by_cases hk:0<n / (bQ i:Int)
  ·rw[an4 hk];obtain⟨q1,_,q3⟩:=yA a2 (by omega);cases ht:bq (n / (bQ i:Int))with
   | nil=>rw[ht]at q1;cases q1
   | cons c r =>rw[ht,aeQ,abG]at q3;exact .inr ⟨c,_,rfl,q3.1⟩
  ·rw[akt hk];exact atD k (i+1) _ a5 (by omega)
theorem ZQ:∀(k i:Nat) (n:Int) (f:Nat) (last:Int),k+i=4->0<=n->n<=1099511627776->last<i->(0<=last\/0<n)->(JC k i n).length<f->(i=4->n=0)->qy f last (JC k i n)=some n.toNat
 | 0,i,n,f,last,h1,h2,h3,h4,h5,h6,h7=>by
  have hn:=h7 (by omega);subst hn;cases f with
  | zero=>simp[JC]at h6
  | succ f =>show qy (f+1) last []=_;rw[qy,show(([]:anP)==[])=true from rfl,cond_true,dF (by omega)];rfl
 | k+1,i,n,f,last,h1,h2,h3,h4,h5,h6,h7=>by
  obtain⟨a1,a2,a3,a4,a5,a6,a7⟩:=ZH i h2 h3;have hi4:i+1=4->n%(bQ i:Int)=0:=fun e=>by
   obtain rfl:i=3:=by omega
   show n%1=0;omega
  unfold JC at h6 ⊢;by_cases hk:0<n / (bQ i:Int)
  ·rw[an4 hk]at h6 ⊢;have hL:=abD i;obtain⟨g1,g2,g3⟩:=atC (t:=JC k (i+1) (n%(bQ i:Int))) a2 (show n / (bQ i:Int)<9223372036854775808 by omega) (show i<=3 by omega) (atD k (i+1) _ a5 (by omega));obtain⟨q1,q2,q3⟩:=yA a2 (show n / (bQ i:Int)<9223372036854775808 by omega);rw[abJ]at h6 ⊢;have hne:bq (n / (bQ i:Int))++(Bc i++JC k (i+1) (n%(bQ i:Int)))≠[]:=fun e=>by
    have:=congrArg List.length e;obtain⟨c,r,e2,_⟩:=adO i;rw[e2]at this;simp at this
   have hne2:(bq (n / (bQ i:Int))++(Bc i++JC k (i+1) (n%(bQ i:Int)))==[])=false:=by simpa using hne
   have h48:(bq (n / (bQ i:Int))==[48])=false:=by rw[<- abC q1];simp only[afb];omega
   have hlen:((Bc i).length==0)=false:=by obtain⟨c,r,e2,_⟩:=adO i;rw[e2];rfl
   have hbad:GH last (bq (n / (bQ i:Int))++(Bc i++JC k (i+1) (n%(bQ i:Int))))=false:=by unfold GH;rw[g1,g2,g3,hlen,q1,h48,dF (show ¬ (i:Int)<=last by omega)];rfl
   cases f with
   | zero=>omega
   | succ f =>
    have hlt:(JC k (i+1) (n%(bQ i:Int))).length<f:=by
     rw[List.length_append,List.length_append]at h6;have:(Bc i).length≠0:=by simpa using hlen
     omega
    have ih:=ZQ k (i+1) (n%(bQ i:Int)) f (i:Int) (by omega) a5 (by omega) (by omega) (.inl (by omega)) hlt hi4;rw[qy,hne2,hbad,cond_false,cond_false,g1,g2,g3,ih,aiM];grind
  ·rw[akt hk]at h6 ⊢;have hz:n%(bQ i:Int)=n:=zero_mod i (by omega);rw[hz]at h6 hi4 ⊢;exact ZQ k (i+1) n f last (by omega) h2 h3 (by omega) h5 h6 hi4
theorem aku{n:Int}(h0:0<=n)(h1:n<=1099511627776):yF (yV n)=(n,0):=by
 unfold yV;rw[dF (show ¬ n<0 by omega),dF (show ¬ (1099511627776:Int)<n by omega),cond_false,cond_false];by_cases hz:n=0
 ·subst hz;decide
 ·rw[dP hz,cond_false];unfold yF;rw[ZQ 4 0 n _ (-1) rfl h0 h1 (by decide) (.inr (by omega)) (Nat.lt_succ_self _) (fun h=>by cases h)];simp only[GI];grind
theorem aCq(n:Int):(yV n).length<=100:=by
 unfold yV;cases(bif decide (n<0)then true else decide ((1099511627776:Int)<n))with
 | true=>exact aas _
 | false =>
  rw[cond_false];cases n==0 with
  | true=>grind
  | false =>have l:=azH;have l0:=l n 0;have l1:=l (n%(bQ 0:Int)) 1;have l2:=l (n%(bQ 0:Int)%(bQ 1:Int)) 2;have l3:=l (n%(bQ 0:Int)%(bQ 1:Int)%(bQ 2:Int)) 3;show(PY n 0++(PY (n%(bQ 0:Int)) 1++(PY (n%(bQ 0:Int)%(bQ 1:Int)) 2++(PY (n%(bQ 0:Int)%(bQ 1:Int)%(bQ 2:Int)) 3++[])))).length<=100;grind
theorem Qc(s:anP):0<=vJ s/\vJ s<=1099511627776:=by
 unfold vJ yF;cases qy (s.length+1) (-1) s with
 | none=>exact⟨by decide,by decide⟩
 | some t =>simp only[GI];grind
def hV(n:Node):Node:=(hP n).1
def hE(n:Node):Int:=(hP n).2
theorem lf5{m:Node}(h3:m.kind=3)(hl:m.keys.length=m.kids.length)(hn:m.keys.Nodup):(hLf m==0)=eO m Tg:=by
 have h:=R9 hn (show Tg.Nodup by decide);have e:((Tg.filter fun k=>fA m.keys k).length:Int)=(((b2 (fA m.keys bR)+b2 (fA m.keys dX))+b2 (fA m.keys fD))+b2 (fA m.keys bT))+b2 (fA m.keys iV):=by unfold Tg;cases h1:fA m.keys bR<;>cases h2:fA m.keys dX<;>cases h4:fA m.keys fD<;>cases h5:fA m.keys bT<;>cases h6:fA m.keys iV<;>simp[List.filter,h1,h2,h4,h5,h6,b2]
 unfold hLf eO;rw[qQ h3 hl,qQ h3 hl,qQ h3 hl,qQ h3 hl,qQ h3 hl,kg h3,cond_false];grind
theorem atE(n:Node)(l:Int)(k:anP)(hl:l<=1000):ME n k l=((bU n k []&&(adq (aO n k Ic)==0))&&decide (l<=vJ (aO n k Ic))):=by
 have e1:adq Ic=0:=by decide
 have e2:vJ Ic=1000:=by decide
 unfold ME bU aO;grind
theorem awj:N7 Vn 65536=0/\Cz Vn 65536=0:=by decide
theorem akv(n:Node):mV n bT=GJ n:=by
 unfold mV GJ aO;cases aD n bT with
 | false=>rw[aem,cond_true,cond_false,awj.2]
 | true=>rfl
theorem aCr(n:Node)(b:Bool):bdR n b=(bif(bif b then true else !(Nw n bT))then true else decide ((10:Int)<mV n bT)):=by
 rw[akv];have hb:=JB (aJ n bT).text 65536 (by decide);unfold bdR Nw GJ bU aO;cases aD n bT with
 | false=>simp only[aem,cond_true,cond_false,awj.1,awj.2];cases b<;>rfl
 | true =>grind
def Gh0(n:Node):Prop:=n.kind=3->n.keys.length=n.kids.length/\n.keys.Nodup
theorem aDP{n:Node}(hn:Gh0 n):(ajx n || !(hLf n==0))=Hg n:=by
 by_cases h3:n.kind=3
 ·obtain⟨hl,hd⟩:=hn h3;rw[lf5 h3 hl hd];unfold ajx Hg VN;rw[aCr];have hI:=Qc (aO n dX Ic);have hS:=Qc (aO n fD Ic);rw[atE n 1 dX (by decide),atE n 0 fD (by decide),VX,dT hS.1];unfold Vr Vs Vr Me Kg;rw[kg h3,JK];have hz:(vJ (aO n dX Ic)==0) = !(decide ((1:Int)<=vJ (aO n dX Ic))):=by
   by_cases h:vJ (aO n dX Ic)=0
   ·rw[iX h,dF (by omega)];rfl
   ·rw[dP h,dT (by omega)];rfl
  have hr:tsR (aJ n bR) = !(JE (aJ n bR)==0):=rfl;grind
 ·have o:eO n Tg=false:=by unfold eO;rw[iI h3];rfl
  have b:ajx n=true:=by
   have hD:Kg n=true:=by unfold Kg;rw[iI h3];rfl
   have hT:Me n (Kg n)=true:=by unfold Me;rw[hD];rfl
   have hI:Vs n (Me n (Kg n))=true:=by unfold Vs Vr;rw[hT];rfl
   have hS:Vr n fD (Vs n (Me n (Kg n)))=true:=by unfold Vr;rw[hI];rfl
   unfold ajx bdR;rw[hS];rfl
  unfold Hg;rw[b,o];rfl
theorem aCs{n:Node}(h:Hg n=false):Zt n=(Ik n==jZ):=by
 unfold Hg at h;cases ho:eO n Tg with
 | false=>rw[ho]at h;cases h
 | true =>
  rw[ho]at h;unfold Zt Ik;cases hg:aD n bR with
  | false=>grind
  | true =>
   rw[hg]at h;simp only[cond_true,cond_false,abI]at h ⊢;cases hk:JE (aJ n bR)==0 with
   | true=>rw[hk]at h;cases h
   | false =>
    have:tsN (aJ n bR)=(JE (aJ n bR)==2):=by unfold JE at hk;unfold tsN JE;grind
    grind
theorem aDQ{n:Int}(h0:0<=n)(h1:n<=1099511627776):(yV n==[])=false:=by
 cases h:yV n with
 | cons c t=>rfl
 | nil =>
  have:=aku h0 h1;rw[h]at this;have e:yF []=(0,3):=by decide
  grind
theorem VY(n:Node)(k:anP)(l:Int):(!(qO n k l==[]))=aD n k:=by
 unfold qO;cases aD n k with
 | false=>rfl
 | true=>rw[cond_true,aDQ (Qc _).1 (Qc _).2];rfl
def isK(k:anP):Prop:=k∈Tg
def mE(y:Node):Prop:=y=bI y.text
theorem Xf(y:Node)(h:mE y):wg 10000 11 y=true/\kd 11 y=true:=by rw[h];exact⟨o8 _ 10,by simp[kd,bI]⟩
theorem ML(y:Node)(h:mE y):aK 11 y=y:=by rw[h];rfl
def Bl(b:Bool)(k:anP)(v o:Node):Node:=bif b then aZ o k v else o
theorem Xg{b:Bool}{k:anP}{v o:Node}(h:Iv isK mE o)(hk:isK k)(hv:mE v):Iv isK mE (Bl b k v o):=by
 unfold Bl;cases b with
 | true=>exact h.put hk hv
 | false=>exact h
theorem Xh{b:Bool}{k:anP}{v o:Node}(h:Iv isK mE o)(q:anP):lk (Bl b k v o).keys (Bl b k v o).kids q=if q=k then(bif b then some v else lk o.keys o.kids q)else lk o.keys o.kids q:=by
 unfold Bl;cases b with
 | true=>rw[cond_true,akl h.kind h.len];rfl
 | false =>rw[cond_false,cond_false];split<;>rfl
theorem atF(n:Node):rO n=Bl (decide (0<mV n bT)) bT (bI (bq (mV n bT))) (Bl (aD n fD) fD (bI (qO n fD 0)) (Bl (aD n dX) dX (bI (qO n dX 1)) (Bl (aD n bR) bR (bI (JF (aJ n bR))) zn))):=by unfold rO OJ vM R5 Bl;rw[VY,VY]
theorem kyT:isK bR/\isK dX/\isK fD/\isK bT/\isK iV:=by unfold isK;decide
theorem Iq(s:anP):mE (bI s):=rfl
theorem aqJ(b:Bool)(v:Node)(hv:mE v):Iv isK mE (Bl b bR v zn):=Xg Iv.nil kyT.1 hv
theorem axP(b c:Bool)(v u:Node)(hv:mE v)(hu:mE u):Iv isK mE (Bl c dX u (Bl b bR v zn)):=Xg (aqJ b v hv) kyT.2.1 hu
theorem axQ(b c d:Bool)(v u t:Node)(hv:mE v)(hu:mE u)(ht:mE t):Iv isK mE (Bl d fD t (Bl c dX u (Bl b bR v zn))):=Xg (axP b c v u hv hu) kyT.2.2.1 ht
theorem agZ(n:Node):Iv isK mE (rO n):=by rw[atF];exact Xg (axQ _ _ _ _ _ _ rfl rfl rfl) kyT.2.2.2.1 rfl
def hL(n:Node)(q:anP):Option Node:=if q=bT then(bif decide (0<mV n bT)then some (bI (bq (mV n bT)))else none)
 else if q=fD then(bif aD n fD then some (bI (qO n fD 0))else none)
 else if q=dX then(bif aD n dX then some (bI (qO n dX 1))else none)
 else if q=bR then(bif aD n bR then some (bI (JF (aJ n bR)))else none)else none
theorem axR(n:Node)(q:anP):lk (rO n).keys (rO n).kids q=hL n q:=by
 rw[atF,Xh (axQ _ _ _ _ _ _ (Iq _) (Iq _) (Iq _)),Xh (axP _ _ _ _ (Iq _) (Iq _)),Xh (aqJ _ _ (Iq _)),Xh Iv.nil];unfold hL;have hz:lk zn.keys zn.kids q=none:=rfl;rw[hz];by_cases h1:q=bT
 ·subst h1;simp only[if_true,if_neg (show bT≠fD by decide),if_neg (show bT≠dX by decide),if_neg (show bT≠bR by decide)]
 grind
theorem aDR(n:Node):hO n=rO n:=by
 have e1:OC n zn=R5 n:=by
  unfold OC R5;cases aD n bR with
  | true=>exact Iv.nil.with_ (ψ:=isK) (φ:=mE) _ _
  | false=>rfl
 have i1:Iv isK mE (R5 n):=by have:R5 n=Bl (aD n bR) bR (bI (JF (aJ n bR))) zn:=rfl;rw[this];exact aqJ _ _ rfl
 have ep:∀(k:anP) (l:Int) (o:Node),Iv isK mE o->OD n k o=vM n k l o:=fun k l o h=>by
  unfold OD vM;rw[VY];have:qO n k l=bif aD n k then yV (vJ (aJ n k).text)else[]:=rfl
  cases hg:aD n k with
  | false=>rfl
  | true =>
   rw[this,hg,cond_true,cond_true,cond_true,h.with_];have:aO n k Ic=(aJ n k).text:=by unfold aO;rw[hg];rfl
   rw[this];rfl
 have i2:Iv isK mE (vM n dX 1 (R5 n)):=by
  unfold vM;cases !(qO n dX 1==[])with
  | true=>exact i1.put kyT.2.1 rfl
  | false=>exact i1
 have i3:Iv isK mE (vM n fD 0 (vM n dX 1 (R5 n))):=by
  conv=>rhs;unfold vM
  cases !(qO n fD 0==[])with
  | true=>exact i2.put kyT.2.2.1 rfl
  | false=>exact i2
 unfold hO rO;rw[e1,ep dX 1 _ i1,ep fD 0 _ i2];unfold aqk OJ;rw[akv];cases decide (0<GJ n)with
 | true=>exact i3.with_ _ _
 | false=>rfl
theorem awk:EN (bf zn iV (fH true)) false=J8/\EO (bf zn iV (fH true)) false=0:=by
 have e:bf zn iV (fH true)=aZ zn iV (bI jZ):=Iv.nil.with_ (ψ:=isK) (φ:=mE) _ _;have i:Iv isK mE (aZ zn iV (bI jZ)):=Iv.nil.put kyT.2.2.2.2 rfl;rw[e];obtain⟨h1,h2⟩:=i.dn Xf;have hm:aZ zn iV (bI jZ)=J8:=FB (.inl rfl) rfl (by simp[zn]) _;have sd:Sf isK mE J8:=⟨rfl,rfl,by unfold Pl.SS;decide,rfl,by decide,fun k hk=>by rw[List.mem_singleton.1 hk];exact kyT.2.2.2.2,fun y hy=>by rw[List.mem_singleton.1 hy];rfl⟩
 obtain⟨q1,q2⟩:=JJ (o':=aZ zn iV (bI jZ)) sd ML (by rw[hm];rfl) (by rw[hm]) (by rw[hm]);rw[h1,h2,q1,q2];exact⟨rfl,rfl⟩
theorem atG{n:Node}(hn:Gh0 n):hV n=Bf n/\hE n=(bif Bg n then 0 else 10):=by
 unfold hV hE hP aql Bf Bg;rw[aDP hn];cases h:Hg n with
 | true=>exact⟨rfl,rfl⟩
 | false =>
  rw[aCs h];simp only[cond_false];cases Ik n==jZ with
  | true=>exact awk
  | false =>rw[aDR];exact(agZ n).dn Xf
theorem aDS(n:Node)(hb:eX (rO n) true=true):(rO n).keys.length<=32:=by unfold eX at hb;grind
theorem azU{o:Node}(h:Iv isK mE o)(q:anP):get (aK 12 (iJ o)) q=lk o.keys o.kids q:=by
 have e:aK 12 (iJ o)=⟨3,o.text,Pl.bn o.keys,(Pl.bn o.keys).map fun k=>aK 11 (aJ (iJ o) k)⟩:=rfl;rw[e];have:get (⟨3,o.text,Pl.bn o.keys,(Pl.bn o.keys).map fun k=>aK 11 (aJ (iJ o) k)⟩:Node) q=lk (Pl.bn o.keys) ((Pl.bn o.keys).map fun k=>aK 11 (aJ (iJ o) k)) q:=if_pos rfl;rw[this];have hg:get (iJ o) q=lk o.keys o.kids q:=if_pos rfl;by_cases hq:q∈o.keys
 ·rw[akj _ _ (Pl.kE.2 hq)];have hs:(lk o.keys o.kids q).isSome=true:=by rw[o9 h.len];exact jE.2 hq
  cases hl:lk o.keys o.kids q with
  | none=>rw[hl]at hs;cases hs
  | some y =>
   have hv:aJ (iJ o) q=y:=by unfold aJ;rw[hg,hl];rfl
   have hb:aD (iJ o) q=true:=by unfold aD;rw[hg,hl];rfl
   rw[ML _ (h.kid _ (xZ (a:=iJ o) hb)),hv]
 ·have h1:lk o.keys o.kids q=none:=adJ h.len hq;have h2:lk (Pl.bn o.keys) ((Pl.bn o.keys).map fun k=>aK 11 (aJ (iJ o) k)) q=none:=adJ (by simp) (fun hm=>hq (Pl.kE.1 hm));rw[h1,h2]
theorem awl{o a:Node}(h:Iv isK mE o)(ha:Sf isK mE a)(he:∀q,lk o.keys o.kids q=get a q):eY o true=a/\eX o true=true:=by
 have hga:∀q,get a q=lk a.keys a.kids q:=fun q=>if_pos ha.kind
 have hmem:∀q,q∈o.keys↔q∈a.keys:=fun q=>by have h1:=o9 (k:=q) h.len;have h2:=o9 (k:=q) ha.len;rw[he,hga,h2]at h1;rw[<- jE,<- jE,h1]
 have hs:Pl.bn o.keys=a.keys:=Pl.xX ha.ss fun q=>(hmem q).symm
 have hlen:o.keys.length<=32:=by
  have:=Ny o.keys a.keys h.nd fun x hx=>(hmem x).1 hx
  have:=ha.le;omega
 have hb:eX o true=true:=by unfold eX;grind
 refine⟨?_,hb⟩;unfold eY;rw[hb,cond_true];have e:aK 12 (iJ o)=⟨3,o.text,Pl.bn o.keys,(Pl.bn o.keys).map fun k=>aK 11 (aJ (iJ o) k)⟩:=rfl;have e2:aK 12 a=⟨3,a.text,Pl.bn a.keys,(Pl.bn a.keys).map fun k=>aK 11 (aJ a k)⟩:=by show(bif a.kind==3 then _ else _)=_;rw[iX ha.kind,cond_true,ha.kind]
 have hv:∀k,aJ (iJ o) k=aJ a k:=fun k=>by unfold aJ;rw[<- he k];have:get (iJ o) k=lk o.keys o.kids k:=if_pos rfl;rw[this]
 rw[<- ha.sorted ML,e,e2,hs,h.text,ha.text,show Pl.bn a.keys=a.keys from Pl.xX ha.ss fun _=>Iff.rfl];grind
structure Fh (n a:Node):Prop where
 sf:Sf isK mE a
 VZ:∀q,get a q=hL n q
theorem aCt(n:Node):0<=mV n bT/\mV n bT<=65536:=by rw[akv];exact JB _ _ (by decide)
theorem Fh.b{n a:Node}(h:Fh n a):(aD a bT=decide (0<mV n bT)/\aD a fD=aD n fD/\aD a dX=aD n dX/\aD a bR=aD n bR/\aD a iV=false):=by
 unfold aD;rw[h.VZ,h.VZ,h.VZ,h.VZ,h.VZ];unfold hL;simp only[if_true,if_neg (show fD≠bT by decide),if_neg (show dX≠bT by decide),if_neg (show dX≠fD by decide),if_neg (show bR≠bT by decide),if_neg (show bR≠fD by decide),if_neg (show bR≠dX by decide),if_neg (show iV≠bT by decide),if_neg (show iV≠fD by decide),if_neg (show iV≠dX by decide),if_neg (show iV≠bR by decide)];refine⟨?_,?_,?_,?_,rfl⟩
 ·cases decide (0<mV n bT)<;>rfl
 ·cases hg:aD n fD<;>(unfold aD at hg;rw[hg];rfl)
 ·cases hg:aD n dX<;>(unfold aD at hg;rw[hg];rfl)
 ·cases hg:aD n bR<;>(unfold aD at hg;rw[hg];rfl)
theorem Fh.v{n a:Node}(h:Fh n a):(0<mV n bT->aJ a bT=bI (bq (mV n bT)))/\(aD n fD=true->aJ a fD=bI (qO n fD 0))/\(aD n dX=true->aJ a dX=bI (qO n dX 1))/\(aD n bR=true->aJ a bR=bI (JF (aJ n bR))):=by
 unfold aJ;rw[h.VZ,h.VZ,h.VZ,h.VZ];unfold hL;simp only[if_true,if_neg (show fD≠bT by decide),if_neg (show dX≠bT by decide),if_neg (show dX≠fD by decide),if_neg (show bR≠bT by decide),if_neg (show bR≠fD by decide),if_neg (show bR≠dX by decide)];refine⟨fun g=>?_,fun g=>?_,fun g=>?_,fun g=>?_⟩
 ·rw[dT g];rfl
 ·rw[g];rfl
 ·rw[g];rfl
 ·rw[g];rfl
theorem Fh.sp{n a:Node}(h:Fh n a):qO a dX 1=qO n dX 1/\qO a fD 0=qO n fD 0/\(∀l,ME n dX l=true->ME a dX l=true)/\(∀l,ME n fD l=true->ME a fD l=true):=by
 obtain⟨b1,b2,b3,b4,b5⟩:=h.b;obtain⟨v1,v2,v3,v4⟩:=h.v;have key:∀(k:anP) (l:Int),aD a k=aD n k->(aD n k=true->aJ a k=bI (qO n k l))->qO a k l=qO n k l/\∀l',ME n k l'=true->ME a k l'=true:=fun k l hb hv=>by
  unfold qO ME;rw[hb];cases hg:aD n k with
  | false=>exact⟨rfl,fun _ _=>rfl⟩
  | true =>
   have hd:=Qc (aJ n k).text;have hv:=hv hg;have hx:qO n k l=yV (vJ (aJ n k).text):=by unfold qO;rw[hg];rfl
   have ht:(aJ a k).text=yV (vJ (aJ n k).text):=by rw[hv,hx];rfl
   have hk:(aJ a k).kind=1:=by rw[hv];rfl
   have hp:=aku hd.1 hd.2;have p1:vJ (yV (vJ (aJ n k).text))=vJ (aJ n k).text:=by show(yF (yV (vJ (aJ n k).text))).1=_;rw[hp]
   have p2:adq (yV (vJ (aJ n k).text))=0:=by show(yF (yV (vJ (aJ n k).text))).2=_;rw[hp]
   simp only[cond_true];rw[ht,hk,p1,p2];refine⟨rfl,fun l' hl'=>?_⟩;cases h1:(bif(aJ n k).kind==1 then adq (aJ n k).text==0 else false)with
   | false=>rw[h1]at hl';cases hl'
   | true=>rw[h1]at hl';exact hl'
 obtain⟨i1,i2⟩:=key dX 1 b3 v3;obtain⟨s1,s2⟩:=key fD 0 b2 v2;exact⟨i1,s1,i2,s2⟩
theorem Fh.nu{n a:Node}(h:Fh n a):mV a bT=mV n bT/\Nw a bT=true:=by
 obtain⟨b1,_⟩:=h.b;obtain⟨v1,_⟩:=h.v;have hb:=aCt n;have eb:Nw a bT=bif aD a bT then(bif(bif(aJ a bT).kind==1 then N7 (aJ a bT).text 65536==0 else false)then decide (0<Cz (aJ a bT).text 65536)else false)else true:=rfl
 have ev:mV a bT=bif aD a bT then Cz (aJ a bT).text 65536 else 0:=rfl
 rw[eb,ev,b1];by_cases hp:0<mV n bT
 ·have ht:=Zr hb.1 hb.2 (by omega);have t1:Cz (bq (mV n bT)) 65536=mV n bT:=congrArg Prod.fst ht;have t2:N7 (bq (mV n bT)) 65536=0:=congrArg Prod.snd ht;rw[dT hp,v1 hp];show Cz (bq (mV n bT)) 65536=mV n bT/\(bif(bif(1:Int)==1 then N7 (bq (mV n bT)) 65536==0 else false)then decide (0<Cz (bq (mV n bT)) 65536)else false)=true;rw[t1,t2,dT hp];exact⟨rfl,rfl⟩
 grind
theorem Fh.lks{n a:Node}(h:Fh n a)(q:anP):hL a q=hL n q:=by
 obtain⟨b1,b2,b3,b4,b5⟩:=h.b;obtain⟨v1,v2,v3,v4⟩:=h.v;obtain⟨s1,s2,_⟩:=h.sp;unfold hL;rw[h.nu.1,b2,b3,b4,s1,s2];cases hg:aD n bR with
 | false=>rfl
 | true=>rw[v4 hg];rfl
theorem amj{n a:Node}(h:Fh n a)(hno:Hg n=false):Bf a=a/\Bg a=true:=by
 obtain⟨b1,b2,b3,b4,b5⟩:=h.b;obtain⟨v1,v2,v3,v4⟩:=h.v;obtain⟨s1,s2,s3,s4⟩:=h.sp;have hk:(bif aD a bR then JE (aJ a bR)==0 else false)=false/\Ik a=oM:=by
  have fd:aO a iV oM=oM:=by unfold aO;rw[b5];rfl
  unfold Ik;rw[b4,fd];cases hg:aD n bR with
  | false=>exact⟨rfl,rfl⟩
  | true=>rw[v4 hg];exact⟨rfl,rfl⟩
 have ho:eO a Tg=true:=by unfold eO;rw[kg h.sf.kind,cond_false,afe];exact fun k hk=>jE.2 (h.sf.key k hk)
 have ht:J6 a iV oM=true:=by
  have fd:aO a iV oM=oM:=by unfold aO;rw[b5];rfl
  have fb:bU a iV []=true:=by unfold bU;rw[b5];rfl
  rw[VX,fb,fd];rfl
 have hbad:VN n=false:=by unfold Hg at hno;grind
 have hparts:ME n dX 1=true/\ME n fD 0=true/\decide ((10:Int)<mV n bT)=false:=by unfold VN at hbad;grind
 have hna:Hg a=false:=by unfold Hg VN;rw[ho,hk.1,ht,s3 1 hparts.1,s4 0 hparts.2.1,h.nu.2,h.nu.1,hparts.2.2];rfl
 obtain⟨d1,d2⟩:=awl (agZ a) h.sf fun q=>by rw[axR,h.lks,h.VZ]
 unfold Bf Bg;rw[hna,hk.2,d1,d2];exact⟨rfl,rfl⟩
theorem azV{n:Node}(hb:eX (rO n) true=true):Fh n (eY (rO n) true):=by
 have h32:=aDS n hb;have e:eY (rO n) true=aK 12 (iJ (rO n)):=by unfold eY;rw[hb];rfl
 rw[e];exact⟨(agZ n).form ML h32,fun q=>by rw[azU (agZ n),axR]⟩
theorem atH:Bf J8=J8/\Bg J8=true:=by
 have h1:Hg J8=false:=by decide
 have h2:Ik J8=jZ:=by decide
 unfold Bf Bg;rw[h1,h2];exact⟨rfl,rfl⟩
end
section
structure Ip (P:anP->Node->Prop) (o:Node):Prop where
 kind:o.kind=0\/o.kind=3
 none_:o.kind=0->o.keys=[]
 text:o.text=[]
 len:o.keys.length=o.kids.length
 nd:o.keys.Nodup
 val:∀k v,lk o.keys o.kids k=some v->P k v
def Fa(P:anP->Node->Prop):List (anP)->List Node->Prop
 | [],[]=>True
 | k::ks,v::vs=>P k v/\Fa P ks vs
 | _,_=>False
section
variable {P:anP->Node->Prop}
theorem Ip.nil{k:Int}(hk:k=0\/k=3):Ip P ⟨k,[],[],[]⟩:=⟨hk,fun _=>rfl,rfl,rfl,amt,fun k v h=>by cases h⟩
theorem Ip.put{o:Node}(h:Ip P o){k:anP}{v:Node}(hv:P k v):Ip P (aZ o k v):=by
 obtain⟨h1,h2,h3,h4⟩:=ER (k:=k) (v:=v) h.kind h.len;have e:=ZM h.kind k v;refine⟨.inr h1,(fun e=>by rw[h1]at e;cases e),(by rw[e]),h2,?_,fun q w hq=>?_⟩
 ·rw[e];show(o.keys++Cy (fA o.keys k) k).Nodup;by_cases hm:k∈o.keys
  ·rw[jE.2 hm];simpa[Cy]using h.nd
  ·rw[VU hm];show(o.keys++[k]).Nodup;rw[List.nodup_append];exact⟨h.nd,by simp,fun a ha b hb=>by rw[List.mem_singleton.1 hb];intro e;exact hm (e▸ha)⟩
 ·rw[akl h.kind h.len]at hq;by_cases hqk:q=k
  ·grind
  ·rw[if_neg hqk]at hq;exact h.val q w hq
theorem Ip.there{o:Node}(h:Ip P o)(k:anP):aD o k=fA o.keys k:=by
 unfold aD get;rcases h.kind with e | e
 ·rw[if_neg (by rw[e];decide),h.none_ e];rfl
 ·rw[if_pos e];exact o9 h.len
theorem Ip.with_{o:Node}(h:Ip P o)(k:anP)(v:Node):bf o k v=aZ o k v:=ZL h.kind h.len h.nd
theorem aqK:∀{ks:List (anP)} {vs:List Node},ks.length=vs.length->ks.Nodup->∀y∈vs, ∃k,lk ks vs k=some y
 | [],[],_,_,y,hy=>by cases hy
 | a::t,x::w,h,hn,y,hy=>by
  have hn':=List.nodup_cons.1 hn;rcases amG.1 hy with rfl | hy
  ·exact⟨a,by unfold lk;rw[if_pos rfl]⟩
  ·obtain⟨k,hk⟩:=aqK (by simpa using h) hn'.2 y hy;refine⟨k,?_⟩;unfold lk;rw[if_neg (fun e:k=a=>hn'.1 (e▸att hk))];exact hk
 | [],_::_,h,_,_,_=>by simp at h
 | _::_,[],h,_,_,_=>by simp at h
theorem Ip.mem{o:Node}(h:Ip P o){y:Node}(hy:y∈o.kids):∃k,P k y:=by obtain⟨k,hk⟩:=aqK h.len h.nd y hy;exact⟨k,h.val k y hk⟩
theorem Ip.leafs{o:Node}(h:Ip P o){d:Nat}(hP:∀k y,P k y->wg 10000 d y=true/\kd d y=true)(hl:o.keys.length<=10000):wg 10000 (d+1) (iJ o)=true/\kd (d+1) (iJ o)=true:=by
 have hk:∀y∈o.kids,wg 10000 d y=true/\kd d y=true:=fun y hy=>by obtain⟨k,hp⟩:=h.mem hy;exact hP k y hp
 exact⟨eZ.2 ⟨hl,by have:=h.len;show o.kids.length<=10000;omega,fun _=>h.len,fun y hy=>(hk y hy).1⟩,
  G5.2 ⟨⟨⟨show(0:Int)<=3 by decide,show(3:Int)<=3 by decide⟩,fun e=>absurd rfl e⟩,fun e=>absurd (show(3:Int)<2 from e) (by decide),fun y hy=>(hk y hy).2⟩⟩
theorem Qd{d:Nat}{x:Node}(hd:d<=1000)(hw:wg 10000 d x=true)(hk:kd d x=true):dR 1000 x=aK d x:=by
 have e:∀m:Nat,m=d+(1000-d)->dR m x=aK d x:=fun m hm=>by rw[hm,sort_k d (1000-d) _ hw,MJ d _ hw hk]
 exact e 1000 (by omega)
theorem Ip.dn{o:Node}(h:Ip P o)(hP:∀k y,P k y->wg 10000 11 y=true/\kd 11 y=true):EN o false=eY o true/\EO o false=(bif eX o true then 0 else 10):=by
 unfold EN EO eY eX abk;simp only[cond_false,abI];by_cases h32:(32:Int)<(o.keys.length:Int)
 ·rw[dT h32];exact⟨rfl,rfl⟩
 ·obtain⟨hw,hk⟩:=h.leafs (d:=11) hP (by omega);rw[dF h32];simp only[cond_false,aem,cond_true];exact⟨Qd (by decide) hw hk,trivial⟩
structure Sp (P:anP->Node->Prop) (a:Node):Prop where
 kind:a.kind=3
 text:a.text=[]
 ss:Pl.SS a.keys
 all:Fa P a.keys a.kids
theorem MN:∀{ks:List (anP)} {vs:List Node},Fa P ks vs->ks.length=vs.length
 | [],[],_=>rfl
 | _::ks,_::vs,h=>by simp only[List.length_cons,MN h.2]
 | [],_::_,h=>h.elim
 | _::_,[],h=>h.elim
theorem Qe:∀{ks:List (anP)} {vs:List Node},Fa P ks vs->∀y∈vs, ∃k,P k y
 | [],[],_,y,hy=>by cases hy
 | [],_::_,h,_,_=>h.elim
 | _::_,[],h,_,_=>h.elim
 | _::ks,v::vs,h,y,hy=>by
  rcases amG.1 hy with rfl | hy
  ·exact⟨_,h.1⟩
  ·exact Qe h.2 y hy
theorem abX:∀{ks:List (anP)} {vs:List Node},Fa P ks vs->∀k∈ks, ∃v,P k v
 | [],[],_,y,hy=>by cases hy
 | [],_::_,h,_,_=>h.elim
 | _::_,[],h,_,_=>h.elim
 | _::ks,v::vs,h,y,hy=>by
  rcases amG.1 hy with rfl | hy
  ·exact⟨_,h.1⟩
  ·exact abX h.2 y hy
theorem atI(g:anP->Node):∀(l:List (anP)),(∀k∈l,P k (g k))->Fa P l (l.map g)
 | [],_=>trivial
 | k::l,h=>⟨h k aa1,atI g l fun q hq=>h q (aa6 _ hq)⟩
theorem Ip.form{o:Node}(h:Ip P o){d:Nat}(hs:∀k y,P k y->aK d y=y):Sp P (aK (d+1) (iJ o)):=by
 have e:aK (d+1) (iJ o)=⟨3,o.text,Pl.bn o.keys,(Pl.bn o.keys).map fun k=>aK d (aJ (iJ o) k)⟩:=rfl;rw[e];refine⟨rfl,h.text,(Pl.FZ o.keys).1,atI _ _ fun k hk=>?_⟩;have hk':=Pl.kE.1 hk;have hi:(lk o.keys o.kids k).isSome=true:=by rw[o9 h.len];exact jE.2 hk'
 have hg:aJ (iJ o) k=(lk o.keys o.kids k).getD zn:=by show(get (iJ o) k).getD zn=_;rw[show get (iJ o) k=lk o.keys o.kids k from if_pos rfl]
 cases hl:lk o.keys o.kids k with
 | none=>rw[hl]at hi;cases hi
 | some v =>have hp:=h.val k v hl;grind
theorem Sp.sorted{a:Node}(h:Sp P a){d:Nat}(hs:∀k y,P k y->aK d y=y):aK (d+1) a=a:=by
 have hk:Pl.bn a.keys=a.keys:=Pl.xX h.ss fun _=>Iff.rfl
 have hl:=MN h.all;have e:aK (d+1) a=⟨a.kind,a.text,Pl.bn a.keys,(Pl.bn a.keys).map fun k=>aK d (aJ a k)⟩:=by show(bif a.kind==3 then _ else _)=_;rw[iX h.kind];rfl
 rw[e,hk];have e2:(a.keys.map fun k=>aK d (aJ a k))=a.keys.map fun k=>(lk a.keys a.kids k).getD zn:=by
  refine ajo fun k hk=>?_
  have hg:aD a k=true:=by show(get a k).isSome=true;rw[show get a k=lk a.keys a.kids k from if_pos h.kind,o9 hl];exact jE.2 hk
  obtain⟨q,hp⟩:=Qe h.all _ (xZ hg);rw[hs q _ hp];show(get a k).getD zn=_;rw[show get a k=lk a.keys a.kids k from if_pos h.kind]
 rw[e2,P9 _ _ hl (mD h.ss)];exact fO a
theorem Sp.leafs{a:Node}(h:Sp P a){d:Nat}(hP:∀k y,P k y->wg 10000 d y=true/\kd d y=true)(hl:a.keys.length<=10000):wg 10000 (d+1) a=true/\kd (d+1) a=true:=by
 have hk:∀y∈a.kids,wg 10000 d y=true/\kd d y=true:=fun y hy=>by obtain⟨k,hp⟩:=Qe h.all y hy;exact hP k y hp
 have hlen:=MN h.all;exact⟨eZ.2 ⟨hl,by omega,fun _=>hlen,fun y hy=>(hk y hy).1⟩,
  G5.2 ⟨⟨⟨by rw[h.kind];decide,by rw[h.kind];decide⟩,fun e=>absurd h.kind e⟩,fun e=>absurd (h.kind▸e) (by decide),fun y hy=>(hk y hy).2⟩⟩
theorem adP{o:Node}(ho:o.kind=0\/o.kind=3)(hl:o.keys.length=o.kids.length)(hn:o.keys.Nodup){k:anP}{v:Node}(hk:k∉o.keys):aZ o k v=⟨3,[],o.keys++[k],o.kids++[v]⟩/\(o.keys++[k]).Nodup:=by refine⟨FB ho hl hk v,?_⟩;grind
end
theorem an5{P:anP->Node->Prop}{a o':Node}(h:Sp P a)(hs:∀k y,P k y->aK 11 y=y)(h32:a.keys.length<=32)(h1:o'.text=[])(h2:o'.keys=a.keys)(h3:o'.kids=a.kids):eY o' true=a/\eX o' true=true:=by
 have hm:iJ o'=a:=by show(⟨3,o'.text,o'.keys,o'.kids⟩:Node)=a;rw[h1,h2,h3,<- h.text,<- h.kind];exact fO a
 have hb:eX o' true=true:=by unfold eX;grind
 unfold eY;rw[hb,hm,h.sorted hs];exact⟨rfl,rfl⟩
theorem atJ{P:anP->Node->Prop}(hw:∀k y,P k y->wg 10000 11 y=true/\kd 11 y=true)(hs:∀k y,P k y->aK 11 y=y)(p:Node×Bool)(q:Option Node)(h:(p.2=true/\q=none)\/∃o',q=some o'/\p=(o',false)/\Ip P o') :
  (EN p.1 p.2=oV q/\EO p.1 p.2=(bif oB q then 0 else 10))/\(oB q=true->Sp P (oV q)/\(oV q).keys.length<=32):=by
 rcases h with⟨hb,rfl⟩ | ⟨o',rfl,rfl,hi⟩
 ·rw[hb];exact⟨abS _,fun h=>by cases h⟩
 ·refine⟨hi.dn hw,fun hb=>?_⟩;have hb:eX o' true=true:=hb;have h32:o'.keys.length<=32:=by
   unfold eX at hb;grind
  have e:oV (some o')=aK 12 (iJ o'):=by show eY o' true=_;unfold eY;rw[hb];rfl
  rw[e];refine⟨hi.form hs,?_⟩;show(Pl.bn o'.keys).length<=32;exact Nat.le_trans (Pl.uK _) h32
theorem atK(s:anP):(jm s).2≠0->(jm s).1=DF:=by
 have hf:∀p,(qB p).2≠0->(qB p).1=DF:=fun p=>by unfold qB;grind
 have hp:∀h pr,(uR h pr).2≠0->(uR h pr).1=DF:=fun h pr=>by
  match hl:bV 58 h with
  | []=>exact absurd hl (o7 _ _)
  | [a]=>rw[pP1 hl];exact hf _
  | [a,b]=>rw[pP2 hl];exact hf _
  | [a,b,c] =>rw[pP3 hl];grind
  | a::b::c::d::t=>rw[pP4 hl];exact fun _=>rfl
 unfold jm;cases Ar s [47]<;>exact hp _ _
theorem akw{p:Port}(h:kK p=false):Ad p=[]:=by unfold Ad;rw[h];rfl
theorem aDT:kK DF=false:=rfl
theorem azW(p:Port):(Ad p).length<=p.host.length+60:=by
 have h1:=rU p.iW;have h2:=rU p.out;unfold Ad;cases !(kK p)with
 | true=>exact aas _
 | false =>
  have hO:(Kk p).length<=21:=by unfold Kk;cases decide (0<p.out)with | true=>exact h2 | false=>exact aas _
  have hH:(Yl p).length<=p.host.length+22:=by unfold Yl;grind
  have hC:(Fu p).length<=p.host.length+23:=by unfold Fu;grind
  rw[cond_false];cases p.proto==[117,100,112]with
  | true=>rw[cond_true,List.length_append,List.length_append];show _+4<=_;omega
  | false=>rw[cond_false,List.length_append];omega
def gP(k:anP)(v:Node):Prop:=((jm k).2=0/\Ad (jm k).1=k/\k≠[]/\k.length<=2000)/\v=zn
theorem axS{p:Port}(h:kK p=true)(hl:p.host.length<=1900):gP (Ad p) zn:=by obtain⟨h1,h2⟩:=adH h;exact⟨⟨by rw[h1],by rw[h1],h2,by have:=azW p;omega⟩,rfl⟩
theorem aDU(k:anP)(y:Node)(h:gP k y):wg 10000 11 y=true/\kd 11 y=true:=anX y h.2
theorem awm(k:anP)(y:Node)(h:gP k y):aK 11 y=y:=abT y h.2
theorem atL(f:field)(k:anP):yU f k=(f.bad || !(Nw f.n k))/\(iQ (aO f.n k [48]) 65536).1=mV f.n k:=by
 have c0:fM [48] 65536=(0,0):=by decide
 unfold yU Nw mV bU aO;rw[count_eq _ (by decide)];cases aD f.n k with
 | false=>grind
 | true =>simp only[abI,cond_true,cond_false];refine⟨?_,rfl⟩;have hb:=(JB (aJ f.n k).text 65536 (by decide)).1;show(bif(bif(f.bad || !((aJ f.n k).kind==1))then true else N7 (aJ f.n k).text 65536 != 0)then true else Cz (aJ f.n k).text 65536==0)=_;grind
theorem lf4{m:Node}(h3:m.kind=3)(hl:m.keys.length=m.kids.length)(hn:m.keys.Nodup)(a b c d:anP)(hd:[a,b,c,d].Nodup):(((((m.keys.length:Int)-b2 (aD m a))-b2 (aD m b))-b2 (aD m c))-b2 (aD m d)==0)=eO m [a,b,c,d]:=by
 have h:=R9 hn hd;have e:(([a,b,c,d].filter fun k=>fA m.keys k).length:Int)=((b2 (fA m.keys a)+b2 (fA m.keys b))+b2 (fA m.keys c))+b2 (fA m.keys d):=by cases h1:fA m.keys a<;>cases h2:fA m.keys b<;>cases h4:fA m.keys c<;>cases h5:fA m.keys d<;>simp[List.filter,h1,h2,h4,h5,b2]
 unfold eO;rw[qQ h3 hl,qQ h3 hl,qQ h3 hl,qQ h3 hl,kg h3,cond_false];grind
def Nd(y:Node):Prop:=y.kind=3->y.keys.length=y.kids.length/\y.keys.Nodup
theorem aDV{y:Node}(hy:Nd y):SV y=ZK y/\lgB y=(eO y pkL&&(!(VO y)&&kK (ZK y))):=by
 have c:=atL;have e1:SV y=ZK y:=by unfold SV ZK;rw[(c ⟨y,0,false⟩ nR).2,(c ⟨y,0,false⟩ dA).2]
 refine⟨e1,?_⟩;unfold lgB;rw[e1];have hb:(lgF y).bad=((y.kind != 3)||VO y):=by show((((yU (Kl (f0 y) dA) nR) || !(bU y qC [])) || !(bU y zH [])))=_;rw[(c (Kl (f0 y) dA) nR).1];show(((yU (f0 y) dA || !(Nw y nR)) || !(bU y qC [])) || !(bU y zH []))=_;rw[(c (f0 y) dA).1];show(((((y.kind != 3) || !(Nw y dA)) || !(Nw y nR)) || !(bU y qC [])) || !(bU y zH []))=_;unfold VO;rw[show bU y zH Vw=bU y zH []from rfl];grind
 have hL:(lgF y).left=((((y.keys.length:Int)-b2 (aD y dA))-b2 (aD y nR))-b2 (aD y qC))-b2 (aD y zH):=rfl;rw[hb,hL];by_cases h3:y.kind=3
 ·obtain⟨hl,hn⟩:=hy h3;have h4:=lf4 h3 hl hn dA nR qC zH (by decide);rw[h4,kg h3];show _=(eO y [dA,nR,qC,zH]&&_)
  grind
 ·have:eO y pkL=false:=by unfold eO;rw[iI h3];rfl
  rw[iI h3,this];rfl
theorem aDW{y:Node}(hy:Nd y):poB y = !(Fx y==[])/\(poB y=true->poX y=Fx y):=by
 unfold poB poX Fx;cases hk:y.kind==1 with
 | true =>
  simp only[cond_true];by_cases he:(jm y.text).2=0
  ·have hr:=anK y.text he;have hne:=(adH hr).2;grind
  grind
 | false =>
  obtain⟨e1,e2⟩:=aDV hy;simp only[cond_false];rw[e1,e2];cases eO y pkL with
  | false=>exact⟨rfl,fun h=>by cases h⟩
  | true =>
   cases VO y with
   | true=>exact⟨rfl,fun h=>by cases h⟩
   | false =>
    simp only[abI,aem,cond_false,aeP];cases hr:kK (ZK y)with
    | false=>rw[akw hr];exact⟨rfl,fun h=>by cases h⟩
    | true =>have hne:=(adH hr).2;grind
theorem aDX{y:Node}(hz:Kz y)(h:(Fx y==[])=false):gP (Fx y) zn:=by
 unfold Fx at h ⊢;cases hk:y.kind==1 with
 | true =>
  rw[hk,cond_true]at h;rw[cond_true];by_cases he:(jm y.text).2=0
  ·rw[kg he,cond_false];refine axS (anK y.text he) ?_;obtain⟨h1,h2⟩:=AA y.text (by have:=hz.text;omega);rw[GQ y.text (by have:=hz.text;omega) h1]at h2;have h2:(jm y.text).1.host.length<=y.text.length:=h2;have:=hz.text;omega
  ·rw[iI he]at h;cases h
 | false =>
  rw[hk,cond_false]at h;rw[cond_false];cases ho:eO y pkL with
  | false=>rw[ho]at h;cases h
  | true =>
   rw[ho]at h;simp only[abI,cond_false]at h ⊢;cases hn:VO y with
   | true=>rw[hn]at h;cases h
   | false =>
    rw[hn]at h;simp only[cond_false]at h ⊢;cases hr:kK (ZK y)with
    | false=>rw[akw hr]at h;cases h
    | true=>exact axS hr (by have:=Xe hz.R6 qC [] (by decide);show(aO y qC []).length<=_;omega)
theorem an6:∀(l:List Node) (o:Node),(poS l o true).2=true
 | [],_=>rfl
 | _::t,_=>an6 t _
theorem an7:∀(l:List (anP)) (r:List Node) (o:Node),(Vx l r o true).2=true
 | [],_,_=>rfl
 | _::_,[],_=>rfl
 | _::t,_::r,_=>an7 t r _
theorem atM:∀(l:List Node) (o:Node),(∀y∈l,Nd y/\Kz y)->Ip gP o->((poS l o false).2=true/\VP l o=none)\/∃o',VP l o=some o'/\poS l o false=(o',false)/\Ip gP o'
 | [],o,_,h=>.inr ⟨o,rfl,rfl,h⟩
 | y::t,o,hl,h=>by
  obtain⟨h1,h2⟩:=aDW (hl y aa1).1;unfold VP poS;rw[h1,cond_false,h.with_];cases hb:Fx y==[]with
  | true=>exact .inl ⟨an6 t _,rfl⟩
  | false =>rw[hb]at h1;rw[h2 h1];exact atM t _ (fun q hq=>hl q (aa6 _ hq)) (h.put (aDX (hl y aa1).2 hb))
theorem akx(s:anP):Fx (bI s)=bif(jm s).2 != 0 then[]else Ad (jm s).1:=rfl
theorem key_eq(s:anP)(k:Int):(bif(bif(!(Ad (jm s).1==s))then true else(s==[]))then true else(k != 0))=(bif(bif k==0 then Fx (bI s)==s else false)then s==[]else true):=by
 rw[akx];by_cases he:(jm s).2=0
 ·grind
 ·rw[iI he,cond_true,atK s he,akw aDT];grind
theorem atO:∀(l:List (anP)) (r:List Node) (o:Node),(∀s∈l,s.length<=2000)->Ip gP o->((Vx l r o false).2=true/\Il l r o=none)\/∃o',Il l r o=some o'/\Vx l r o false=(o',false)/\Ip gP o'
 | [],_,o,_,h=>.inr ⟨o,by unfold Il;rfl,by unfold Vx;rfl,h⟩
 | _::_,[],o,_,h=>.inr ⟨o,by unfold Il;rfl,by unfold Vx;rfl,h⟩
 | s::t,y::r,o,hl,h=>by
  unfold Il Vx;rw[cond_false,key_eq,h.with_];cases hb:(bif(bif y.kind==0 then Fx (bI s)==s else false)then s==[]else true)with
  | true=>exact .inl ⟨an7 t r _,rfl⟩
  | false =>
   refine atO t r _ (fun q hq=>hl q (aa6 _ hq)) (h.put ?_);have hc:(bif y.kind==0 then Fx (bI s)==s else false)=true:=by grind
   rw[hc,cond_true]at hb;have hs:Fx (bI s)=s:=by grind
   have hne:s≠[]:=by simpa using hb
   rw[akx]at hs;by_cases he:(jm s).2=0
   ·rw[kg he]at hs;exact⟨⟨he,hs,hne,by have:=hl s aa1;omega⟩,rfl⟩
   grind
theorem aky{n:Node}(_:n.kind=3->n.keys.length=n.kids.length)(hkd:n.kind<=3)(hs:∀s∈n.keys,s.length<=2000)(hy:∀y∈n.kids,Nd y/\Kz y):(SX n=yH n/\SY n=(bif Bh n then 0 else 10))/\(Bh n=true->Sp gP (yH n)/\(yH n).keys.length<=32):=by
 unfold SX SY yH Bh;refine atJ aDU awm (poP n) (MG n) ?_;unfold poP MG qY;by_cases h32:(32:Int)<(n.kids.length:Int)
 ·grind
 ·rw[dF h32,dT (show(n.kids.length:Int)<=32 by omega),cond_false];by_cases h2:n.kind=2
  ·rw[iX h2,dF (show ¬ n.kind<2 by omega)];exact atM n.kids zn hy (Ip.nil (.inl rfl))
  ·by_cases h3':n.kind=3
   ·rw[dP h2,iX h3',dF (show ¬ n.kind<2 by omega)];exact atO n.keys n.kids zn hs (Ip.nil (.inl rfl))
   grind
theorem akz:∀(ks:List (anP)) (vs:List Node) (o:Node),Fa gP ks vs->ks.Nodup->(∀k∈ks,k∉o.keys)->(o.kind=0\/o.kind=3)->o.keys.length=o.kids.length->o.keys.Nodup->o.text=[]->∃o',Il ks vs o=some o'/\o'.text=[]/\o'.keys=o.keys++ks/\o'.kids=o.kids++vs
 | [],[],o,_,_,_,_,_,_,ht=>⟨o,by unfold Il;rfl,ht,by simp,by simp⟩
 | s::t,y::r,o,hf,hn,hd,hk,hl,hnd,ht=>by
  have hn':=List.nodup_cons.1 hn;obtain⟨⟨g1,g2,g3,_⟩,rfl⟩:=hf.1;have hop:Fx (bI s)=s:=by rw[akx,kg g1];exact g2
  have hz:(s==[])=false:=by simpa using g3
  obtain⟨p1,p2⟩:=adP hk hl hnd (v:=zn) (hd s aa1);unfold Il;rw[hop,show(zn.kind==0)=true from rfl,cond_true,show(s==s)=true by simp,cond_true,hz,cond_false,p1];obtain⟨o',q1,q2,q3,q4⟩:=akz t r ⟨3,[],o.keys++[s],o.kids++[zn]⟩ hf.2 hn'.2 (fun k hm hq=>by
   rcases List.mem_append.1 hq with hq | hq
   ·exact hd k (aa6 _ hm) hq
   ·rw[List.mem_singleton.1 hq]at hm;exact hn'.1 hm) (.inr rfl) (by simp[hl]) p2 rfl
  grind
 | [],_::_,_,h,_,_,_,_,_,_=>h.elim
 | _::_,[],_,h,_,_,_,_,_,_=>h.elim
theorem aqL{a:Node}(h:Sp gP a)(h32:a.keys.length<=32):yH a=a/\Bh a=true:=by
 have hl:=MN h.all;obtain⟨o',q1,q2,q3,q4⟩:=akz a.keys a.kids zn h.all (mD h.ss) (fun k _ h=>by cases h) (.inl rfl) rfl amt rfl;have e:MG a=some o':=by unfold MG;rw[dF (show ¬ (32:Int)<(a.kids.length:Int) by omega),cond_false,dF (show ¬ a.kind<2 by rw[h.kind];decide),cond_false,dP (show a.kind≠2 by rw[h.kind];decide),cond_false];exact q1
 unfold yH Bh;rw[e];exact an5 h awm h32 q2 (by rw[q3];rfl) (by rw[q4];rfl)
end
section
theorem aDY{y:Node}(hy:Nd y):VB y=Ka y/\plB y=(eO y VQ&&akg y):=by
 refine⟨rfl,?_⟩;have hb:(plF y).bad=(((((y.kind != 3) || !(bU y jC [])) || !(bU y dA []))||(!(bU y lU [])||Pp (aO y lU oM))) || !(bU y lV [])):=by show(((((((y.kind != 3) || !(bU y jC [])) || !(bU y dA [])) || !(bU y lU []))||Pp (aO y lU (Cc false))) || !(bU y lV [])))=_;rw[show Cc false=oM from rfl];cases(y.kind != 3)<;>cases bU y jC []<;>cases bU y dA []<;>cases bU y lU []<;>cases Pp (aO y lU oM)<;>cases bU y lV []<;>rfl
 have hL:(plF y).left=((((y.keys.length:Int)-b2 (aD y jC))-b2 (aD y dA))-b2 (aD y lU))-b2 (aD y lV):=rfl;have hK:plK (aO y lV zI)=(bif(bif aO y lV zI==[118,111,108,117,109,101]then true else aO y lV zI==[98,105,110,100])then true else aO y lV zI==[116,109,112,102,115]):=by unfold plK;cases aO y lV zI==[98,105,110,100]<;>cases aO y lV zI==[118,111,108,117,109,101]<;>cases aO y lV zI==[116,109,112,102,115]<;>rfl
 have hM:tJ (VB y)=tJ (Ka y):=rfl;unfold plB akg;rw[hb,hL,hK,hM,VX,JK,show bU y lV zI=bU y lV []from rfl];by_cases h3:y.kind=3
 ·obtain⟨hl,hn⟩:=hy h3;have h4:=lf4 h3 hl hn jC dA lU lV (by decide);rw[h4,kg h3];show _=(eO y [jC,dA,lU,lV]&&_)
  cases eO y [jC,dA,lU,lV]<;>cases bU y jC []<;>cases bU y dA []<;>cases bU y lU []<;>cases tf (aO y lU oM)<;>cases bU y lV []<;>cases tJ (Ka y)<;>rfl
 ·have:eO y VQ=false:=by unfold eO;rw[iI h3];rfl
  rw[iI h3,this];rfl
theorem aDZ{y:Node}(hy:Nd y):moB y=Fy y/\(Fy y=true->moX y=qP y):=by
 unfold moB Fy moX qP;cases hk:y.kind==1 with
 | true=>exact⟨rfl,fun _=>rfl⟩
 | false =>
  obtain⟨e1,e2⟩:=aDY hy;simp only[cond_false];rw[e1,e2];cases eO y VQ with
  | false=>exact⟨rfl,fun h=>by cases h⟩
  | true=>exact⟨rfl,fun _=>rfl⟩
def Nz(k:anP)(v:Node):Prop:=∃m:fZ,tJ m=true/\m.target=k/\v=bI (oN m)/\k.length<=64
theorem aCu{m:fZ}(hs:m.target.length<=1000000)(h:tJ m=true):Nz m.target (bI (oN m)):=⟨m,h,rfl,rfl,(aj6 hs (aj7 hs h).1).2.1⟩
theorem ag0{k:anP}{v:Node}(h:Nz k v):mE v/\v.text.length<=200:=by obtain⟨m,h1,h2,rfl,h3⟩:=h;exact⟨rfl,(anO (by rw[h2];omega) h1).2⟩
theorem aCv(k:anP)(y:Node)(h:Nz k y):wg 10000 11 y=true/\kd 11 y=true:=Xf y (ag0 h).1
theorem aqM(k:anP)(y:Node)(h:Nz k y):aK 11 y=y:=ML y (ag0 h).1
theorem axT{y:Node}(hz:Kz y)(h:Fy y=true):Nz (qP y).target (bI (oN (qP y))):=by
 obtain⟨_,_,hl⟩:=P8 y hz;refine aCu (by omega) ?_;unfold Fy at h;unfold qP;cases hk:y.kind==1 with
 | true =>rw[hk,cond_true]at h;exact aDJ y.text (eq_of_beq h)
 | false =>
  rw[hk,cond_false]at h;cases ho:eO y VQ with
  | false=>rw[ho]at h;cases h
  | true =>
   rw[ho]at h;have h:akg y=true:=h;show tJ (Ka y)=true;unfold akg at h;cases hr:tJ (Ka y)with
   | true=>rfl
   | false =>rw[hr]at h;cases hq:(bif(bif(bif bU y jC []then bU y dA []else false)then J6 y lU oM else false)then bU y lV zI else false)<;>rw[hq]at h<;>cases h
theorem an8:∀(l:List Node) (o:Node),(moS l o true).2=true
 | [],_=>rfl
 | _::t,_=>an8 t _
theorem an9:∀(l:List (anP)) (r:List Node) (o:Node),(VD l r o true).2=true
 | [],_,_=>rfl
 | _::_,[],_=>rfl
 | _::t,_::r,_=>an9 t r _
theorem atP:∀(l:List Node) (o:Node),(∀y∈l,Nd y/\Kz y)->Ip Nz o->((moS l o false).2=true/\VR l o=none)\/∃o',VR l o=some o'/\moS l o false=(o',false)/\Ip Nz o'
 | [],o,_,h=>.inr ⟨o,rfl,rfl,h⟩
 | y::t,o,hl,h=>by
  obtain⟨h1,h2⟩:=aDZ (hl y aa1).1;unfold VR moS;rw[h1,cond_false,h.with_];cases hb:Fy y with
  | false=>exact .inl ⟨an8 t _,rfl⟩
  | true =>rw[h2 hb];exact atP t _ (fun q hq=>hl q (aa6 _ hq)) (h.put (axT (hl y aa1).2 hb))
theorem azX(s:anP)(y:Node):(bif(bif(bif(y.kind != 1)then true else((nS y.text).2 != 0))then true else(!((nS y.text).1.target==s)))then true else(!(oN (nS y.text).1==y.text)))=(bif !(Fy y)then true else(bif(bif y.kind != 1 then true else !(y.text==oN (qP y)))then true else !(s==(qP y).target))):=by
 by_cases hk:y.kind=1
 ·have e1:Fy y=((nS y.text).2==0):=by unfold Fy;rw[iX hk];rfl
  have e2:qP y=(nS y.text).1:=by unfold qP;rw[iX hk];rfl
  rw[e1,e2,kg hk,show((nS y.text).1.target==s)=(s==(nS y.text).1.target)from Bool.beq_comm,show(oN (nS y.text).1==y.text)=(y.text==oN (nS y.text).1)from Bool.beq_comm,show((nS y.text).2 != 0) = !((nS y.text).2==0)from rfl];cases(nS y.text).2==0<;>cases s==(nS y.text).1.target<;>cases y.text==oN (nS y.text).1<;>rfl
 ·rw[iI hk];cases Fy y<;>rfl
theorem atQ:∀(l:List (anP)) (r:List Node) (o:Node),(∀y∈r,Kz y/\(y.kind=1->y=bI y.text))->Ip Nz o->((VD l r o false).2=true/\Im l r o=none)\/∃o',Im l r o=some o'/\VD l r o false=(o',false)/\Ip Nz o'
 | [],_,o,_,h=>.inr ⟨o,by unfold Im;rfl,by unfold VD;rfl,h⟩
 | _::_,[],o,_,h=>.inr ⟨o,by unfold Im;rfl,by unfold VD;rfl,h⟩
 | s::t,y::r,o,hl,h=>by
  unfold Im VD;rw[cond_false,azX,h.with_];cases hb:(bif !(Fy y)then true else(bif(bif y.kind != 1 then true else !(y.text==oN (qP y)))then true else !(s==(qP y).target)))with
  | true=>exact .inl ⟨an9 t r _,rfl⟩
  | false =>
   have hc:Fy y=true/\y.kind=1/\y.text=oN (qP y)/\s=(qP y).target:=by
    cases h1:Fy y with
    | false=>rw[h1]at hb;cases hb
    | true =>
     rw[h1]at hb;by_cases h2:y.kind=1
     ·rw[kg h2]at hb;cases h3:y.text==oN (qP y)with
      | false=>rw[h3]at hb;cases hb
      | true =>rw[h3]at hb;exact⟨rfl,h2,by simpa using h3,by simpa using hb⟩
     ·rw[iI h2]at hb;cases hb
   obtain⟨c1,c2,c3,c4⟩:=hc;have hy:=hl y aa1;have e:y=bI (oN (qP y)):=by rw[<- c3];exact hy.2 c2
   have e2:aZ o s y=aZ o (qP y).target (bI (oN (qP y))):=by rw[<- c4,<- e]
   rw[cond_false,e2];exact atQ t r _ (fun q hq=>hl q (aa6 _ hq)) (h.put (axT hy.1 c1))
theorem afk{n:Node}(hkd:n.kind<=3)(hy:∀y∈n.kids,(Nd y/\Kz y)/\(y.kind=1->y=bI y.text)):(Ta n=yI n/\Tc n=(bif Bj n then 0 else 10))/\(Bj n=true->Sp Nz (yI n)/\(yI n).keys.length<=32):=by
 unfold Ta Tc yI Bj;refine atJ aCv aqM (moP n) (MH n) ?_;unfold moP MH qY;by_cases h32:(32:Int)<(n.kids.length:Int)
 ·rw[dT h32,dF (show ¬ (n.kids.length:Int)<=32 by omega)];refine .inl ⟨?_,rfl⟩;cases n.kind==2<;>cases n.kind==3<;>rfl
 ·rw[dF h32,dT (show(n.kids.length:Int)<=32 by omega),cond_false];by_cases h2:n.kind=2
  ·rw[iX h2,dF (show ¬ n.kind<2 by omega)];exact atP n.kids zn (fun y h=>(hy y h).1) (Ip.nil (.inl rfl))
  ·by_cases h3':n.kind=3
   ·rw[dP h2,iX h3',dF (show ¬ n.kind<2 by omega)];exact atQ n.keys n.kids zn (fun y h=>⟨(hy y h).1.2,(hy y h).2⟩) (Ip.nil (.inl rfl))
   ·rw[dP h2,dP h3',dT (show n.kind<2 by omega)];exact .inl ⟨rfl,rfl⟩
theorem akA:∀(ks:List (anP)) (vs:List Node) (o:Node),Fa Nz ks vs->ks.Nodup->(∀k∈ks,k∉o.keys)->(o.kind=0\/o.kind=3)->o.keys.length=o.kids.length->o.keys.Nodup->o.text=[]->∃o',Im ks vs o=some o'/\o'.text=[]/\o'.keys=o.keys++ks/\o'.kids=o.kids++vs
 | [],[],o,_,_,_,_,_,_,ht=>⟨o,by unfold Im;rfl,ht,by simp,by simp⟩
 | s::t,y::r,o,hf,hn,hd,hk,hl,hnd,ht=>by
  have hn':=List.nodup_cons.1 hn;obtain⟨m,g1,rfl,rfl,g2⟩:=hf.1;have hb:=(anO (by omega) g1).1;have e1:Fy (bI (oN m))=true:=by show((nS (oN m)).2==0)=true;rw[hb];rfl
  have e2:qP (bI (oN m))=m:=by show(nS (oN m)).1=m;rw[hb]
  obtain⟨p1,p2⟩:=adP hk hl hnd (v:=bI (oN m)) (hd m.target aa1);unfold Im;rw[e1,e2,show((bI (oN m)).kind != 1)=false from rfl,show(bI (oN m)).text=oN m from rfl,show(oN m==oN m)=true by simp,show(m.target==m.target)=true by simp];simp only[abI,cond_false];rw[p1];obtain⟨o',q1,q2,q3,q4⟩:=akA t r ⟨3,[],o.keys++[m.target],o.kids++[bI (oN m)]⟩ hf.2 hn'.2 (fun k hm hq=>by
   rcases List.mem_append.1 hq with hq | hq
   ·exact hd k (aa6 _ hm) hq
   ·rw[List.mem_singleton.1 hq]at hm;exact hn'.1 hm) (.inr rfl) (by simp[hl]) p2 rfl
  exact⟨o',q1,q2,by rw[q3];simp,by rw[q4];simp⟩
 | [],_::_,_,h,_,_,_,_,_,_=>h.elim
 | _::_,[],_,h,_,_,_,_,_,_=>h.elim
theorem amk{a:Node}(h:Sp Nz a)(h32:a.keys.length<=32):yI a=a/\Bj a=true:=by
 have hl:=MN h.all;obtain⟨o',q1,q2,q3,q4⟩:=akA a.keys a.kids zn h.all (mD h.ss) (fun k _ h=>by cases h) (.inl rfl) rfl amt rfl;have e:MH a=some o':=by unfold MH;rw[dF (show ¬ (32:Int)<(a.kids.length:Int) by omega),cond_false,dF (show ¬ a.kind<2 by rw[h.kind];decide),cond_false,dP (show a.kind≠2 by rw[h.kind];decide),cond_false];exact q1
 unfold yI Bj;rw[e];exact an5 h aqM h32 q2 (by rw[q3];rfl) (by rw[q4];rfl)
end
section
def si:Nat->Node->Prop
 | 0,_=>False
 | d+1,x=>((x.keys.length<=300/\x.kids.length<=300)/\(x.kind=3->x.keys.length=x.kids.length)/\x.text.length<=200/\∀k∈x.keys,k.length<=200)/\((0<=x.kind/\x.kind<=3)/\(x.kind≠1->x.text=[])/\(x.kind≠3->x.keys=[])/\(x.kind<2->x.kids=[]))/\(x.kind=3->x.keys.Nodup)/\∀y∈x.kids,si d y
theorem Ed:∀{d:Nat} {x:Node},si d x->sn d x
 | 0,_,h=>h.elim
 | _+1,_,h=>⟨⟨h.1.1,h.1.2.1,Nat.le_trans h.1.2.2.1 (by decide),fun k hk=>Nat.le_trans (h.1.2.2.2 k hk) (by decide)⟩,h.2.1,fun y hy=>Ed (h.2.2.2 y hy)⟩
theorem axU:∀{d:Nat} {x:Node} (e:Nat),sn d x->sn (d+e) x
 | 0,_,_,h=>h.elim
 | d+1,x,e,h=>by rw[Nat.add_right_comm];exact⟨h.1,h.2.1,fun y hy=>axU e (h.2.2 y hy)⟩
theorem vV:∀{d:Nat} {x:Node},sn d x->wg 10000 d x=true
 | 0,_,h=>h.elim
 | _+1,_,h=>eZ.2 ⟨Nat.le_trans h.1.1.1 (by decide),Nat.le_trans h.1.1.2 (by decide),h.1.2.1,fun y hy=>vV (h.2.2 y hy)⟩
theorem Sb:∀{d:Nat} {x:Node},sn d x->kd d x=true
 | 0,_,h=>h.elim
 | _+1,_,h=>G5.2 ⟨⟨h.2.1.1,fun e=>by rw[h.2.1.2.2.1 e];rfl⟩,fun e=>by rw[h.2.1.2.2.2 e];rfl,fun y hy=>Sb (h.2.2 y hy)⟩
theorem axV:∀{d:Nat} {x:Node},sn d x->wr d x
 | 0,_,h=>h.elim
 | _+1,x,h=>⟨h.1.1.1,h.1.1.2,fun e=>by
   rcases e with e | e
   ·rw[h.2.1.2.2.1 (by omega),h.2.1.2.2.2 (by omega)];rfl
   ·exact h.1.2.1 e,h.1.2.2.1,h.1.2.2.2,fun y hy=>axV (h.2.2 y hy)⟩
theorem Af{B n m:Nat}{x:Node}(h:n<=m)(hx:wg B n x=true):wg B m x=true:=by have:=wo (m-n) hx;rwa[show n+(m-n)=m by omega]at this
theorem Xi{n m:Nat}{x:Node}(h:n<=m)(hx:kd n x=true):kd m x=true:=by have:=anT (m-n) hx;rwa[show n+(m-n)=m by omega]at this
theorem aD0{n m:Nat}{x:Node}(h:n<=m)(hx:sn n x):sn m x:=by have:=axU (m-n) hx;rwa[show n+(m-n)=m by omega]at this
theorem Ca(d:Nat){s:anP}(h:s.length<=30000):sn (d+1) (bI s):=⟨⟨⟨aas _,aas _⟩,(fun e=>by cases e),h,(fun k hk=>by cases hk)⟩,⟨⟨(by show(0:Int)<=1;decide),(by show(1:Int)<=3;decide)⟩,(fun e=>absurd rfl e),fun _=>rfl,fun _=>rfl⟩,fun y hy=>by cases hy⟩
theorem aCw(d:Nat):sn (d+1) zn:=⟨⟨⟨aas _,aas _⟩,(fun e=>by cases e),aas _,(fun k hk=>by cases hk)⟩,⟨⟨amw 0,(by show(0:Int)<=3;decide)⟩,(fun _=>rfl),fun _=>rfl,fun _=>rfl⟩,fun y hy=>by cases hy⟩
theorem V3{d:Nat}{a:Node}(h3:a.kind=3)(ht:a.text=[])(hl:a.keys.length=a.kids.length)(hk:a.keys.length<=300)(hs:∀k∈a.keys,k.length<=30000)(hy:∀y∈a.kids,sn d y):sn (d+1) a :=
 ⟨⟨⟨hk,by omega⟩,fun _=>hl,by rw[ht];exact aas _,hs⟩,⟨⟨by rw[h3];decide,by rw[h3];decide⟩,fun _=>ht,fun e=>absurd h3 e,fun e=>absurd (h3▸e) (by decide)⟩,hy⟩
theorem aCx{d:Nat}{l:List (anP)}(hl:l.length<=300)(hs:∀s∈l,s.length<=30000):sn (d+2) (tX l) :=
 ⟨⟨⟨aas _,by show(l.map bI).length<=300;rw[List.length_map];exact hl⟩,(fun e=>by cases e),aas _,(fun k hk=>by cases hk)⟩,⟨⟨(by show(0:Int)<=2;decide),(by show(2:Int)<=3;decide)⟩,(fun _=>rfl),(fun _=>rfl),fun e=>absurd (show(2:Int)<2 from e) (by decide)⟩,fun y hy=>by obtain⟨s,h1,rfl⟩:=List.mem_map.1 hy;exact Ca d (hs s h1)⟩
theorem Sc{d:Nat}{x:Node}(h:si (d+1) x):Nd x:=fun e=>⟨h.1.2.1 e,h.2.2.1 e⟩
theorem Qf{d:Nat}{x:Node}(h:si (d+1) x)(h1:x.kind=1):x=bI x.text:=as7 (Ed h) h1
theorem aqN{d:Nat}{x:Node}(h:si (d+1) x)(h1:x.kind=0):x=zn:=axo (Ed h) h1
theorem abY{d:Nat}{x:Node}(h:si (d+2) x)(k:anP):aJ x k=zn\/si (d+1) (aJ x k):=by
 rcases P6 x k with e | e
 ·exact .inl e
 ·exact .inr (h.2.2.2 _ e)
theorem Xj{d:Nat}{x:Node}(h:si (d+2) x):Kz x:=⟨Nat.le_trans h.1.2.2.1 (by decide),Pf (vV (Ed h)) (by decide),fun k=>by
 rcases abY h k with e | e
 ·rw[e];exact aas _
 ·exact Nat.le_trans e.1.2.2.1 (by decide)⟩
theorem aD1{d:Nat}{v:Node}(h:si (d+4) v)(hd:d+4<=12):Rz v:=by
 have hw:=Af hd (vV (Ed h));have hkz:∀y∈v.kids,Kz y:=fun y hy=>Xj (d:=d+1) (h.2.2.2 y hy)
 have he:fit (jg v)=true/\((jg v).kind=3->wg 10000 12 (jg v)=true):=by
  unfold jg;by_cases h1:v.kind=1
  ·rw[iX h1,cond_true];have hv:=Qf h h1;have hw2:wg 10000 12 (⟨3,[],[jf],[v]⟩:Node)=true:=eZ.2 ⟨by simp,by simp,fun _=>rfl,fun y hy=>by rw[List.mem_singleton.1 hy,hv];exact o8 _ _⟩;exact⟨Pf hw2 (by decide),fun _=>hw2⟩
  ·rw[dP h1,cond_false];exact⟨Pf hw (by decide),fun _=>hw⟩
 refine⟨Xj h,Nat.le_trans h.1.1.1 (by decide),Nat.le_trans h.1.1.2 (by decide),h.1.2.1,h.2.1.1.2,fun s hs=>Nat.le_trans (h.1.2.2.2 s hs) (by decide),hkz,he.1,he.2,?_,?_⟩
 ·rcases abY h bR with e | e
  ·rw[e];exact aas _
  ·exact Nat.le_trans e.1.1.2 (by decide)
 ·rcases abY h bR with e | e
  ·rw[e];exact fun s hs=>by cases hs
  ·exact fun s hs=>by have:=ZN (B:=200) (fun y hy=>(e.2.2.2 y hy).1.2.2.1) s hs;omega
structure Fo (k:anP) (a:Node):Prop where
 nz:a.kind≠0
 fd:fdF k a=some (a,0)
 qD:sn 6 a
 srt:aK 12 a=a
def V4(n:Node)(k:Int):Bool:=(decide (n.text.length<=1000000)&&decide (n.kids.length<=1000000))&&(decide (0<=k)&&decide (k<=5))
def nV(n:Node)(k:Int):Node:=bif k==5 then DC n else EF n k
def Qg(n:Node)(k:Int):Bool:=bif k==5 then He n else GY n k
theorem k6{k:Int}(h0:0<=k)(h5:k<=5):k=0\/k=1\/k=2\/k=3\/k=4\/k=5:=by omega
theorem JL(f:anP->Bool)(n:Node):xO f n=(bif !(Ki f n)then n else zn)/\xP f n=(bif !(Ki f n)then 0 else 10):=by unfold xO xP;cases Ki f n<;>exact⟨rfl,rfl⟩
theorem atS(n:Node):byV n=(bif !(Kj n)then bI (Bd (kJ n.text))else zn)/\byE n=(bif !(Kj n)then 0 else 10):=by unfold byV byE;cases Kj n<;>exact⟨rfl,rfl⟩
structure Ask (n:Node) (k:Int):Prop where
 f:V4 n k=true
 s:Ni 12 (nV n k) (nV n k)=true
 again:Qg n k=true->V4 (nV n k) k=true/\nV (nV n k) k=nV n k/\Qg (nV n k) k=true
theorem aoa{a b:Bool}(h:(!a)=b):a = !b:=by cases a<;>cases b<;>first | rfl | cases h
theorem azY(l:List (anP))(h:l.length<=10000):wg 10000 12 (tX l)=true :=
 eZ.2 ⟨aas _,by show(l.map bI).length<=10000;rw[List.length_map];exact h,fun e=>absurd e (by show(2:Int)≠3;decide),fun y hy=>by obtain⟨s,_,rfl⟩:=List.mem_map.1 hy;exact o8 _ _⟩
theorem aob:∀l:List (anP),lJ (l.map bI)=some l
 | []=>rfl
 | s::l=>by show lJ (bI s::l.map bI)=_;rw[lJ,aob l];rfl
theorem ZR{f:anP->Bool}{n:Node}(h:Ki f n=false):n.kind=1:=by
 unfold Ki at h;by_cases hk:n.kind=1
 ·exact hk
 ·rw[iI hk]at h;cases h
theorem atT{n:Node}{k:Int}(h:GY n k=true):n.kind=1:=by
 have h:=aoa h;by_cases h2:k=2
 ·subst h2;have h:Kj n=false:=h;unfold Kj at h;by_cases hk:n.kind=1
  ·exact hk
  ·rw[iI hk]at h;cases h
 ·rw[dP h2,cond_false]at h;cases h0:k==0<;>rw[h0]at h
  ·cases h1:k==1<;>rw[h1]at h
   ·cases h3:k==3<;>rw[h3]at h<;>exact ZR h
   ·exact ZR h
  ·exact ZR h
theorem azZ{n:Node}(hn:wf 300 12 n=true){k:Int}(h0:0<=k)(h4:k<=4):Ask n k:=by
 have w:=Uw.1 hn;have hk5:(k==5)=false:=dP (by omega);have f:V4 n k=true:=by simp only[V4,abG,abK];exact⟨⟨by have:=w.2.2.2.1;omega,by have:=w.2.1;omega⟩,h0,by omega⟩
 have e1:nV n k=EF n k:=by unfold nV;rw[hk5];rfl
 have e2:Qg n k=GY n k:=by unfold Qg;rw[hk5];rfl
 by_cases h2:k=2
 ·subst h2;cases hb:GY n 2 with
  | false =>
   have:nV n 2=zn:=by rw[e1];unfold EF;rw[hb];rfl
   exact⟨f,by rw[this];exact Qb Qa,fun h=>by rw[e2,hb]at h;cases h⟩
  | true =>
   have e:nV n 2=bI (Bd (kJ n.text)):=by rw[e1];unfold EF;rw[hb];rfl
   have hx:Kj n=false:=aoa hb;have hz:kJ n.text<=1125899906842624:=by
    unfold Kj at hx;have hE:Yj n.text=0:=by
     by_cases h:Yj n.text=0
     ·exact h
     ·rw[iI h]at hx;cases hq:n.kind != 1<;>rw[hq]at hx<;>cases hx
    unfold kJ Yj at *;unfold JG at *;cases hq:GL (n.text.drop (j5 n.text))with
    | false=>rw[hq]at hE;cases hE
    | true =>
     simp only[abI,cond_false];obtain⟨u0,u3⟩:=agH (n.text.drop (j5 n.text));have hb:=fun P (h:(0:Int)<=1125899906842624 / P)=>(JB (n.text.take (j5 n.text)) _ h).2
     have hb1:=hb 1 (by decide);have hb2:=hb 1024 (by decide);have hb3:=hb 1048576 (by decide);have hb4:=hb 1073741824 (by decide);unfold Cz at hb1 hb2 hb3 hb4;rcases Nu u0 u3 with⟨_,h⟩ | ⟨_,h⟩ | ⟨_,h⟩ | ⟨_,h⟩<;>rw[h]<;>omega
   have h0:=axG n.text;have zt:=azG h0 hz;have hlen:(Bd (kJ n.text)).length<=22:=by
    unfold Bd;have hl:=rU (kJ n.text / 2 ^ (Int.toNat (10*kM (kJ n.text))));have:(sfx (kM (kJ n.text))).length<=1:=by
     obtain⟨u0,u3⟩:=abF (kJ n.text);have:kM (kJ n.text)=0\/kM (kJ n.text)=1\/kM (kJ n.text)=2\/kM (kJ n.text)=3:=by omega
     rcases this with h | h | h | h<;>rw[h]<;>decide
    cases(bif decide (kJ n.text<0)then true else decide ((1125899906842624:Int)<kJ n.text))with
    | true=>exact aas _
    | false=>rw[cond_false,List.length_append];omega
   have hv0:kJ n.text≠0:=by intro h;unfold Kj at hx;rw[iX h]at hx;cases hq:(bif n.kind != 1 then true else Yj n.text != 0)<;>rw[hq]at hx<;>cases hx
   have hB:Kj (bI (Bd (kJ n.text)))=false:=by unfold Kj Yj kJ;show(bif(bif(1:Int)!=1 then true else(JG (Bd (kJ n.text))).2 != 0)then true else(JG (Bd (kJ n.text))).1==0)=false;rw[zt];exact dP hv0
   refine⟨f,by rw[e];exact Qb (o8 _ _),fun _=>?_⟩;rw[e];have hOB:GY (bI (Bd (kJ n.text))) 2=true:=by show(!(Kj (bI (Bd (kJ n.text)))))=true;rw[hB];rfl
   refine⟨?_,?_,hOB⟩
   ·simp only[V4,abG,abK];exact⟨⟨by show(Bd (kJ n.text)).length<=1000000;omega,aas _⟩,by decide,by decide⟩
   ·show EF (bI (Bd (kJ n.text))) 2=_;unfold EF;rw[hOB];show bI (Bd (kJ (Bd (kJ n.text))))=_;unfold kJ at zt ⊢;rw[zt]
 ·have e3:nV n k=bif GY n k then n else zn:=by rw[e1];unfold EF;rw[dP h2];rfl
  cases hb:GY n k with
  | false=>exact⟨f,by rw[e3,hb];exact Qb Qa,fun h=>by rw[e2,hb]at h;cases h⟩
  | true =>
   have e:nV n k=n:=by rw[e3,hb];rfl
   exact⟨f,by rw[e];exact Qb (apz (by decide) (awW hn)),fun _=>by rw[e];exact⟨f,e,e2.trans hb⟩⟩
theorem atU{n:Node}(hn:wf 300 12 n=true):Ask n 5:=by
 have w:=Uw.1 hn;have f:V4 n 5=true:=by simp only[V4,abG,abK];exact⟨⟨by have:=w.2.2.2.1;omega,by have:=w.2.1;omega⟩,by decide,by decide⟩
 cases hb:He n with
 | false =>
  have e:nV n 5=zn:=by show DC n=zn;unfold DC;rw[hb];rfl
  exact⟨f,by rw[e];exact Qb Qa,fun h=>absurd (show He n=true from h) (by rw[hb];decide)⟩
 | true =>
  have e:nV n 5=tX (jV n):=by show DC n=_;unfold DC;rw[hb];rfl
  have hl:(jV n).length<=32:=by
   unfold jV;by_cases h1:n.kind=1
   ·rw[iX h1];exact RV _
   ·rw[dP h1,cond_false];unfold He at hb;rw[dP h1,cond_false]at hb;have hb0:qx n=true:=hb;unfold qx at hb;have:=ED n;rw[BZ hb0]at this;by_cases h2:n.kind=2
    ·rw[iX h2,cond_true,abG,abK]at hb;omega
    ·rw[dP h2]at hb;simp at hb
  refine⟨f,by rw[e];exact Qb (azY _ (by omega)),fun _=>?_⟩;rw[e];have hT:lJ (tX (jV n)).kids=some (jV n):=aob _;have hB:He (tX (jV n))=true:=by
   show(bif(2:Int)==1 then _ else qx (tX (jV n)))=true;show qx (tX (jV n))=true;unfold qx;rw[hT];show(true&&(bif(2:Int)==2 then decide (((tX (jV n)).kids.length:Int)<=32)else false))=true;have:(tX (jV n)).kids.length=(jV n).length:=by show((jV n).map bI).length=_;rw[List.length_map]
   rw[this];show decide (((jV n).length:Int)<=32)=true;exact decide_eq_true (by omega)
  refine⟨?_,?_,hB⟩
  ·simp only[V4,abG,abK];exact⟨⟨aas _,by show((jV n).map bI).length<=1000000;rw[List.length_map];omega⟩,by decide,by decide⟩
  ·show DC (tX (jV n))=_;unfold DC;rw[hB];show tX (bH (tX (jV n)))=_;unfold bH;rw[hT];rfl
theorem atV(B:Nat):∀(n:Nat) (t w:anP) (b:Bool) (out l:List (anP)),ku n t w b out=some l->w.length+t.length<=B->(∀s∈out,s.length<=B)->∀s∈l,s.length<=B:=by
 have put:∀{w:anP} {b:Bool} {out:List (anP)},w.length<=B->(∀s∈out,s.length<=B)->∀s∈(bif b then out++[w]else out),s.length<=B:=by
  intro w b out hw ho s hs;cases b with
  | false=>exact ho s hs
  | true =>
   rcases List.mem_append.1 hs with h | h
   ·exact ho s h
   ·rw[List.mem_singleton.1 h];exact hw
 intro n
 induction n with
 | zero=>intro t w b out l h;cases h
 | succ n ih =>
  intro t w b out l h hB ho;cases t with
  | nil =>have h:some (bif b then out++[w]else out)=some l:=h;cases h;exact put (by simpa using hB) ho
  | cons c t =>
   rw[List.length_cons]at hB;by_cases hc:tq ((c.toNat:Nat):Int)=true
   ·simp only[ku,hc,cond_true]at h;refine ih t _ false _ l h ?_ (put (by omega) ho);cases b
    ·show w.length+t.length<=B;omega
    ·show 0+t.length<=B;omega
   ·simp only[ku,Bool.eq_false_iff.2 hc,cond_false]at h;cases hq:Mh (c::t)with
    | none=>rw[hq]at h;cases h
    | some q =>rw[hq]at h;obtain⟨q1,q2,q3⟩:=as2 hq;rw[List.length_cons]at q1;refine ih _ _ true out l h ?_ ho;rw[List.length_append,abP,List.length_cons];omega
theorem az0(t:anP):∀s∈RU t,s.length<=t.length:=by
 intro s hs;unfold RU qz at hs;cases hq:ku (t.length+1) t [] false []with
 | none=>rw[hq]at hs;cases hs
 | some l =>
  rw[hq]at hs;have hs:s∈(bif decide ((32:Int)<(l.length:Int))then[]else l):=hs;cases hd:decide ((32:Int)<(l.length:Int))with
  | true=>rw[hd]at hs;cases hs
  | false =>rw[hd]at hs;exact atV t.length _ t [] false [] l hq (by simp) (fun s hs=>by cases hs) s hs
theorem az1(l:List (anP)):aK 12 (tX l)=tX l:=by have e:aK 12 (tX l)=⟨2,[],[],(l.map bI).map (aK 11)⟩:=rfl;rw[e,List.map_map];rfl
theorem axW{d:Nat}:∀{n:Nat} {x:Node},si n x->wf 300 (n+d) x=true
 | 0,_,h=>h.elim
 | n+1,x,h=>by rw[Nat.add_right_comm];exact Uw.2 ⟨h.1.1.1,h.1.1.2,h.1.2.1,h.1.2.2.1,h.1.2.2.2,fun y hy=>axW (h.2.2.2 y hy)⟩
theorem aoc{e:Nat}{v:Node}(h:si (e+4) v)(he:e+4<=11){j:Int}(h0:0<=j)(h5:j<=5):vO v j=nV v j/\tK v j=Qg v j/\(Qg v j=true->(nV v j).kind≠0/\sn 6 (nV v j)/\aK 12 (nV v j)=nV v j/\nV (nV v j) j=nV v j/\Qg (nV v j) j=true):=by
 have hw:wf 300 12 v=true:=by have:=axW (d:=12-(e+4)) h;rwa[show e+4+(12-(e+4))=12 by omega]at this
 have e1:vO v j=nV v j:=by
  unfold vO nV;by_cases h5':j=5
  ·rw[iX h5',dF (by omega)];rfl
  ·rw[dP h5',dT (show j<5 by omega)];rfl
 have e2:tK v j=Qg v j:=by
  unfold tK Qg;by_cases h5':j=5
  ·rw[iX h5',dF (by omega)];rfl
  ·rw[dP h5',dT (show j<5 by omega)];rfl
 refine⟨e1,e2,fun hb=>?_⟩;have shape:(nV v j).kind≠0/\sn 6 (nV v j)/\aK 12 (nV v j)=nV v j:=by
  by_cases h5':j=5
  ·subst h5';have hb:He v=true:=hb;have e:nV v 5=tX (jV v):=by show DC v=_;unfold DC;rw[hb];rfl
   rw[e];refine⟨by show(2:Int)≠0;decide,?_,az1 _⟩;have hl:(jV v).length<=300/\∀s∈jV v,s.length<=30000:=by
    unfold jV;by_cases h1:v.kind=1
    ·rw[iX h1,cond_true];refine⟨Nat.le_trans (RV _) (by decide),fun s hs=>?_⟩;have:=az0 v.text s hs;have:=h.1.2.2.1;omega
    ·rw[dP h1,cond_false];exact P5 (Ed h)
   exact aCx (d:=4) hl.1 hl.2
  ·have e:nV v j=EF v j:=by unfold nV;rw[dP h5'];rfl
   have hb:GY v j=true:=by unfold Qg at hb;rw[dP h5']at hb;exact hb
   have hk:=atT hb;rw[e];unfold EF;rw[hb,cond_true];by_cases h2:j=2
   ·rw[iX h2,cond_true];refine⟨by show(1:Int)≠0;decide,Ca 5 ?_,rfl⟩;have hl:=rU (kJ v.text / 2 ^ (Int.toNat (10*kM (kJ v.text))));unfold Bd;cases(bif decide (kJ v.text<0)then true else decide ((1125899906842624:Int)<kJ v.text))with
    | true=>exact aas _
    | false =>
     rw[cond_false,List.length_append];have:(sfx (kM (kJ v.text))).length<=1:=by
      obtain⟨u0,u3⟩:=abF (kJ v.text);have:kM (kJ v.text)=0\/kM (kJ v.text)=1\/kM (kJ v.text)=2\/kM (kJ v.text)=3:=by omega
      rcases this with h | h | h | h<;>rw[h]<;>decide
     omega
   ·rw[dP h2,cond_false];have hv:=Qf h hk;refine⟨by omega,?_,by rw[hv];rfl⟩;rw[hv];exact Ca 5 (Nat.le_trans h.1.2.2.1 (by decide))
 have ag:nV (nV v j) j=nV v j/\Qg (nV v j) j=true:=by
  by_cases h5':j=5
  ·subst h5';exact((atU hw).again hb).2
  ·exact((azZ hw h0 (by omega)).again hb).2
 exact⟨shape.1,shape.2.1,shape.2.2,ag.1,ag.2⟩
end
section
theorem Sd(k:anP):((k=adB\/k=adD\/k=adE\/k=adC\/k=adz\/k=adA)\/(k=Zy\/k=Zz)\/(k=OH\/k=OI)\/k=ZA\/k=OG\/k=ZB\/k=ZC\/k=ZE)\/rD k = -1/\∀v,fdF k v=none:=by
 by_cases h0:k=adB
 ·exact .inl (.inl (.inl h0))
 by_cases h1:k=adD
 ·exact .inl (.inl (.inr (.inl h1)))
 by_cases h2:k=adE
 ·exact .inl (.inl (.inr (.inr (.inl h2))))
 by_cases h3:k=adC
 ·exact .inl (.inl (.inr (.inr (.inr (.inl h3)))))
 by_cases h4:k=adz
 ·exact .inl (.inl (.inr (.inr (.inr (.inr (.inl h4))))))
 by_cases h5:k=adA
 ·exact .inl (.inl (.inr (.inr (.inr (.inr (.inr h5))))))
 by_cases h6:k=Zy
 ·exact .inl (.inr (.inl (.inl h6)))
 by_cases h7:k=Zz
 ·exact .inl (.inr (.inl (.inr h7)))
 by_cases h8:k=OH
 ·exact .inl (.inr (.inr (.inl (.inl h8))))
 by_cases h9:k=OI
 ·exact .inl (.inr (.inr (.inl (.inr h9))))
 by_cases h10:k=ZA
 ·exact .inl (.inr (.inr (.inr (.inl h10))))
 by_cases h11:k=OG
 ·exact .inl (.inr (.inr (.inr (.inr (.inl h11)))))
 by_cases h12:k=ZB
 ·exact .inl (.inr (.inr (.inr (.inr (.inr (.inl h12))))))
 by_cases h13:k=ZC
 ·exact .inl (.inr (.inr (.inr (.inr (.inr (.inr (.inl h13)))))))
 by_cases h14:k=ZE
 ·exact .inl (.inr (.inr (.inr (.inr (.inr (.inr (.inr h14)))))))
 right;have e:∀{a:anP},¬ k=a->(a==k)=false:=fun h=>by simpa using fun h'=>h h'.symm
 refine⟨?_,fun v=>?_⟩
 ·unfold rD VT;simp only[nbG,e h0,e h1,e h2,e h3,e h4,e h5,e h6,e h7,e h8,e h10,e h11,e h12,e h13,e h14,cond_false];rw[show(k==OI)=false by simpa using h9];rfl
 ·unfold fdF;rw[if_neg h4,if_neg h5,if_neg h6,if_neg h7,if_neg h10,if_neg h11,if_neg h8,if_neg h9,if_neg h12,if_neg h13,if_neg h14,if_neg h0,if_neg h3,if_neg h1,if_neg h2]
def tY(k:anP)(v:Node):Prop:=fdF k v=some (vO v (rD k),bif tK v (rD k)then 0 else 10)
theorem axX(v:Node){j:Int}(h5:j<=5):vO v j=nV v j/\tK v j=Qg v j:=by
 constructor
 ·unfold vO nV;by_cases h5':j=5
  ·rw[iX h5',dF (by omega)];rfl
  ·rw[dP h5',dT (show j<5 by omega)];rfl
 ·unfold tK Qg;by_cases h5':j=5
  ·rw[iX h5',dF (by omega)];rfl
  ·rw[dP h5',dT (show j<5 by omega)];rfl
theorem aCA(n:Node):wdE n=(bif He n then 0 else 10):=rfl
theorem atW(v:Node):tY adB v:=by show some (xO vU v,xP vU v)=_;rw[(JL _ _).1,(JL _ _).2];rfl
theorem atX(v:Node):tY adD v:=by show some (xO BS v,xP BS v)=_;rw[(JL _ _).1,(JL _ _).2];rfl
theorem atY(v:Node):tY adE v:=by show some (byV v,byE v)=_;rw[(atS _).1,(atS _).2];rfl
theorem atZ(v:Node):tY adC v:=by show some (xO BR v,xP BR v)=_;rw[(JL _ _).1,(JL _ _).2];rfl
theorem at0(v:Node):tY adz v:=by show some (xO sZ v,xP sZ v)=_;rw[(JL _ _).1,(JL _ _).2];rfl
theorem at1(v:Node):tY adA v:=by show some (DC v,wdE v)=_;rw[aCA];rfl
theorem KQ{k:anP}{v V:Node}{E:Int}{R:Node}{B:Bool}(hf:fdF k v=some (V,E))(hv:vO v (rD k)=R)(hb:tK v (rD k)=B)(h:V=R/\E=(bif B then 0 else 10)):tY k v:=by unfold tY;rw[hf,hv,hb,h.1,h.2]
theorem at5{v:Node}(h:Gn v):tY Zy v:=KQ (V:=JX v true) (E:=JY v true) rfl (show vO v 6=q8 v true from rfl) (show tK v 6=zJ v true from rfl) (ZO h true).1
theorem at6{v:Node}(h:Gn v):tY Zz v:=KQ (V:=JX v false) (E:=JY v false) rfl (show vO v 7=q8 v false from rfl) (show tK v 7=zJ v false from rfl) (ZO h false).1
theorem at7{v:Node}(h:Gn v):tY OH v:=KQ (V:=Gq v) (E:=Gs v) rfl (show vO v 8=jQ v from rfl) (show tK v 8=rJ v from rfl) (VW h).1
theorem aua{v:Node}(h:Gn v):tY OI v:=KQ (V:=Gq v) (E:=Gs v) rfl (show vO v 8=jQ v from rfl) (show tK v 8=rJ v from rfl) (VW h).1
theorem aub{v:Node}(h:SX v=yH v/\SY v=(bif Bh v then 0 else 10)):tY ZA v:=KQ (V:=SX v) (E:=SY v) rfl (show vO v 9=yH v from rfl) (show tK v 9=Bh v from rfl) h
theorem auc{v:Node}(h:Ta v=yI v/\Tc v=(bif Bj v then 0 else 10)):tY OG v:=KQ (V:=Ta v) (E:=Tc v) rfl (show vO v 10=yI v from rfl) (show tK v 10=Bj v from rfl) h
theorem aud{v:Node}(h:Ge v):tY ZB v:=KQ (V:=dpV v) (E:=dpE v) rfl (show vO v 11=Mx v from rfl) (show tK v 11=MB v from rfl) (an2 h).1
theorem aue{v:Node}(h:Gx (jg v)):tY ZC v:=KQ (V:=exV v) (E:=Yi v) rfl (show vO v 12=vL v from rfl) (show tK v 12=EG v from rfl) (ext_eq h).1
theorem akB{v:Node}(h:Gh0 v):tY ZE v:=KQ (V:=hV v) (E:=hE v) (show some (hP v)=some (hV v,hE v)from rfl) (show vO v 13=Bf v from rfl) (show tK v 13=Bg v from rfl) (atG h)
theorem Ee{d:Nat}{v:Node}(h:si (d+2) v):Gn v:=⟨Sc h,fun y hy=>(h.2.2.2 y hy).1.2.2.1⟩
theorem aD2{d:Nat}{y:Node}(h:si (d+1) y):Ky y:=⟨aqN h,Sc h⟩
theorem aqO{d:Nat}{v:Node}(h:si (d+2) v):Ge v:=⟨h.1.2.1,fun y hy=>aD2 (h.2.2.2 y hy)⟩
theorem axY{d:Nat}{v:Node}(h:si (d+3) v):(SX v=yH v/\SY v=(bif Bh v then 0 else 10))/\(Bh v=true->Sp gP (yH v)/\(yH v).keys.length<=32) :=
 aky h.1.2.1 h.2.1.1.2 (fun s hs=>Nat.le_trans (h.1.2.2.2 s hs) (by decide)) fun y hy=>⟨Sc (h.2.2.2 y hy),Xj (h.2.2.2 y hy)⟩
theorem axZ{d:Nat}{v:Node}(h:si (d+3) v):(Ta v=yI v/\Tc v=(bif Bj v then 0 else 10))/\(Bj v=true->Sp Nz (yI v)/\(yI v).keys.length<=32) :=
 afk h.2.1.1.2 fun y hy=>⟨⟨Sc (h.2.2.2 y hy),Xj (h.2.2.2 y hy)⟩,Qf (h.2.2.2 y hy)⟩
theorem aqP{d:Nat}{v:Node}(h:si (d+2) v)(hd:d+2<=11):Gx (jg v):=by
 unfold jg;by_cases h1:v.kind=1
 ·rw[iX h1,cond_true];have hv:=Qf h h1;refine⟨fun _=>rfl,fun _=>rfl,fun _=>by show[jf].Nodup;decide,?_,?_,fun y hy _=>?_⟩
  ·exact eZ.2 ⟨by simp,by simp,fun _=>rfl,fun y hy=>by rw[List.mem_singleton.1 hy,hv];exact o8 _ _⟩
  ·exact G5.2 ⟨⟨⟨show(0:Int)<=3 by decide,show(3:Int)<=3 by decide⟩,fun e=>absurd rfl e⟩,fun e=>absurd (show(3:Int)<2 from e) (by decide),fun y hy=>by rw[List.mem_singleton.1 hy,hv];exact(Xf (bI v.text) rfl).2⟩
  ·rw[List.mem_singleton.1 hy];exact⟨hv,h.1.2.2.1⟩
 ·rw[dP h1,cond_false];exact⟨fun e=>h.2.1.2.1 (by omega),h.1.2.1,fun e=>h.2.2.1 e,Af (by omega) (vV (Ed h)),Xi (by omega) (Sb (Ed h)),fun y hy e=>⟨Qf (h.2.2.2 y hy) e,(h.2.2.2 y hy).1.2.2.1⟩⟩
theorem az2(d:Nat){s:anP}(h:s.length<=200):si (d+1) (bI s):=⟨⟨⟨aas _,aas _⟩,(fun e=>by cases e),h,(fun k hk=>by cases hk)⟩,⟨⟨(by show(0:Int)<=1;decide),(by show(1:Int)<=3;decide)⟩,(fun e=>absurd rfl e),fun _=>rfl,fun _=>rfl⟩,(fun e=>by cases e),fun y hy=>by cases hy⟩
theorem auf(d:Nat):si (d+1) zn:=⟨⟨⟨aas _,aas _⟩,(fun e=>by cases e),aas _,(fun k hk=>by cases hk)⟩,⟨⟨amw 0,(by show(0:Int)<=3;decide)⟩,(fun _=>rfl),fun _=>rfl,fun _=>rfl⟩,(fun e=>by cases e),fun y hy=>by cases hy⟩
theorem G6{k:anP}{a:Node}(hs:vO a (rD k)=a/\tK a (rD k)=true)(ha:tY k a)(nz:a.kind≠0)(hn:sn 6 a)(ht:aK 12 a=a):Fo k a:=by refine⟨nz,?_,hn,ht⟩;unfold tY at ha;rw[ha,hs.1,hs.2];rfl
section
variable {ψ:anP->Prop} {φ:Node->Prop} {P:anP->Node->Prop}
theorem Sf.nz{a:Node}(h:Sf ψ φ a):a.kind≠0:=by rw[h.kind];decide
theorem Sp.nz{a:Node}(h:Sp P a):a.kind≠0:=by rw[h.kind];decide
theorem Sf.qD{a:Node}(h:Sf ψ φ a)(hk:∀k,ψ k->k.length<=30000)(hy:∀y,φ y->sn 5 y):sn 6 a:=V3 h.kind h.text h.len (Nat.le_trans h.le (by decide)) (fun k hm=>hk k (h.key k hm)) (fun y hm=>hy y (h.kid y hm))
theorem Sp.qD{a:Node}{d:Nat}(h:Sp P a)(hl:a.keys.length<=300)(hp:∀k y,P k y->k.length<=30000/\sn d y):sn (d+1) a:=V3 h.kind h.text (MN h.all) hl
 (fun k hm=>by obtain⟨v,hv⟩:=abX h.all k hm;exact(hp k v hv).1)
 (fun y hm=>by obtain⟨k,hv⟩:=Qe h.all y hm;exact(hp k y hv).2)
theorem Sf.kd_{a:Node}(h:Sf ψ φ a)(hφ:∀y,φ y->wg 10000 11 y=true/\kd 11 y=true):kd 12 a=true :=
 G5.2 ⟨⟨⟨by rw[h.kind];decide,by rw[h.kind];decide⟩,fun e=>absurd h.kind e⟩,fun e=>absurd (h.kind▸e) (by decide),fun y hy=>(hφ y (h.kid y hy)).2⟩
end
theorem Sf.Gn_{ψ:anP->Prop}{φ:Node->Prop}{a:Node}(h:Sf ψ φ a)(hy:∀y,φ y->y.text.length<=200):Gn a:=⟨fun _=>⟨h.len,mD h.ss⟩,fun y hm=>hy y (h.kid y hm)⟩
theorem akC{k:anP}{v:Bool}(h:nT k v=true):k.length<=30000:=Nat.le_trans (azQ h) (by decide)
theorem adQ(y:Node)(h:EH y):sn 5 y:=by rw[h.1];exact Ca 4 (Nat.le_trans h.2 (by decide))
theorem aod(y:Node)(h:R8 y):sn 5 y:=by rw[h];exact aCw 4
theorem aCB{s:anP}(h:co s=true):s.length<=30000:=by unfold co at h;simp only[amy,beq_iff_eq]at h;rcases h with(h | h) | h<;>rw[h]<;>decide
theorem ax0(b:Bool)(d:Nat):sn (d+1) (fH b):=by have e:fH b=bI (Cc b):=rfl;rw[e];exact Ca d (by cases b<;>decide)
theorem az3(y:Node)(h:Io y):sn 5 y:=by
 have hp:=ZP h.1;rw[<- h.2];refine V3 rfl rfl rfl (by show(3:Nat)<=300;decide) (fun k hk=>?_) (fun z hz=>?_)
 ·have hk:k∈[cK,rK,sK]:=hk;simp only[amG,anJ,or_false]at hk;rcases hk with rfl | rfl | rfl<;>decide
 ·have hz:z∈[dz (aO (em y) cK mq),fH (aO (em y) rK jZ==jZ),fH (aO (em y) sK oM==jZ)]:=hz;simp only[amG,anJ,or_false]at hz;rcases hz with rfl | rfl | rfl
  ·exact Ca 3 (aCB hp.2.1)
  ·exact ax0 _ 3
  ·exact ax0 _ 3
theorem ZT{v:Node}(h:Gn v)(b:Bool)(hb:zJ v b=true):Gn (q8 v b)/\(q8 (q8 v b) b=q8 v b/\zJ (q8 v b) b=true)/\(q8 v b).kind≠0/\sn 6 (q8 v b)/\aK 12 (q8 v b)=q8 v b:=by have sf:=(ZO h b).2 hb;exact⟨sf.Gn_ fun y hy=>hy.2,aqH sf,sf.nz,sf.qD (fun k hk=>akC hk) adQ,sf.sorted MK⟩
theorem V5{v:Node}(h:Gn v)(hb:rJ v=true):Gn (jQ v)/\(jQ (jQ v)=jQ v/\rJ (jQ v)=true)/\(jQ v).kind≠0/\sn 6 (jQ v)/\aK 12 (jQ v)=jQ v:=by have sf:=(VW h).2 hb;exact⟨sf.Gn_ fun y hy=>by rw[hy];exact aas _,set_self sf,sf.nz,sf.qD (fun k hk=>akC (v:=false) hk) aod,sf.sorted abT⟩
theorem aD3(k:anP)(y:Node)(h:gP k y):k.length<=30000/\sn 5 y:=⟨by have:=h.1.2.2.2;omega,aod y h.2⟩
theorem aCC(k:anP)(y:Node)(h:Nz k y):k.length<=30000/\sn 5 y:=by have ht:=ag0 h;obtain⟨m,_,_,_,h3⟩:=h;exact⟨by omega,adQ y ht⟩
theorem akD{v:Node}{d:Nat}(h:si (d+3) v)(hb:Bh v=true):Fo ZA (yH v):=by
 obtain⟨sp,h32⟩:=(axY h).2 hb;refine G6 (aqL sp h32) (aub (aky (fun _=>MN sp.all) (by rw[sp.kind];decide) (fun s hs=>?_) (fun y hy=>?_)).1) sp.nz (sp.qD (by omega) aD3) (sp.sorted awm)
 ·obtain⟨w,hw⟩:=abX sp.all s hs;exact hw.1.2.2.2
 ·obtain⟨k,hk⟩:=Qe sp.all y hy;have e:y=zn:=hk.2;rw[e];exact⟨Sc (auf 1),Xj (auf 1)⟩
theorem afl{v:Node}{d:Nat}(h:si (d+3) v)(hb:Bj v=true):Fo OG (yI v):=by obtain⟨sp,h32⟩:=(axZ h).2 hb;refine G6 (amk sp h32) (auc (afk (by rw[sp.kind];decide) (fun y hy=>?_)).1) sp.nz (sp.qD (by omega) aCC) (sp.sorted aqM);obtain⟨k,hk⟩:=Qe sp.all y hy;obtain⟨t1,t2⟩:=ag0 hk;have e:y=bI y.text:=t1;rw[e];have:=az2 1 t2;exact⟨⟨Sc this,Xj this⟩,fun _=>rfl⟩
theorem aoe{v:Node}(h:Ge v)(hb:MB v=true):Fo ZB (Mx v):=by have sf:=(an2 h).2 hb;exact G6 (atB sf) (aud ⟨fun _=>sf.len,fun y hy=>an1 (sf.kid y hy)⟩) sf.nz (sf.qD (fun k hk=>akC (v:=false) hk) az3) (sf.sorted akq)
theorem aug{v:Node}(h:Gx (jg v))(hb:EG v=true):Fo ZC (vL v):=by
 obtain⟨sf,e,ho,hr⟩:=(ext_eq h).2 hb;have e1:jg (vL v)=vL v:=by show(bif(vL v).kind==1 then _ else vL v)=_;rw[dP (show(vL v).kind≠1 by rw[sf.kind];decide)];rfl
 refine G6 (awh h ho hr e sf) (aue ?_) sf.nz (sf.qD (fun k hk=>by rcases hk with rfl | rfl<;>decide) adQ) (sf.sorted MK);rw[e1];exact⟨fun _=>sf.text,fun _=>sf.len,fun _=>mD sf.ss,sf.Mv adN,sf.kd_ adN,fun y hy _=>sf.kid y hy⟩
end
section
theorem qt4{s:anP}:(JD s).length<=4*s.length+2:=by
 unfold JD;cases Ac s with
 | true=>rw[cond_true];omega
 | false =>have h:=ajX s;rw[<- ajW]at h;rw[cond_false,List.length_append,List.length_append];simp only[List.length_cons,List.length_nil];omega
theorem auh:∀l:List (anP),(∀s∈l,s.length<=200)->(VG l).length<=l.length*803
 | [],_=>abH _
 | x::t,h=>by
  have ih:=auh t fun s hs=>h s (aa6 _ hs)
  have h1:=h x aa1;have h2:=qt4 (s:=x);have e:VG (x::t)=(32::JD x)++VG t:=by simp[VG]
  rw[e,List.length_append,List.length_cons,List.length_cons];omega
theorem aD4{l:List (anP)}(h:∀s∈l,s.length<=200):(Mc l).length<=l.length*803:=by
 cases l with
 | nil=>show 0<=_;omega
 | cons x t =>
  have h1:=h x aa1;have h2:=qt4 (s:=x);have h3:=auh t fun s hs=>h s (aa6 _ hs)
  rw[W9,List.length_append,List.length_cons];omega
theorem az4{n:Node}(h:qx n=true):n.kids.length<=32:=by
 unfold qx at h;by_cases h2:n.kind=2
 ·rw[iX h2,cond_true,abG,abK]at h;omega
 ·rw[dP h2]at h;simp at h
theorem az5{l:List (anP)}{B:Nat}(h:∀s∈l,s.length<=B)(i:Nat):(l.getD i []).length<=B:=by
 rw[List.getD];cases hq:l[i]? with
 | none=>exact aas _
 | some x=>exact h x (ae7 hq)
theorem aui{n:Node}(h1:n.text.length<=200)(hy:∀y∈n.kids,y.text.length<=200):(JF n).length<=30000:=by
 have ht:=ZN hy;unfold JF;cases n.kind==1 with
 | true=>rw[cond_true];omega
 | false =>
  rw[cond_false];cases hx:tsX n with
  | true=>exact aas _
  | false =>
   have hb:qx n=true:=by
    unfold tsX at hx;cases hb:qx n with
    | true=>rfl
    | false=>rw[hb]at hx;cases hx
   have h32:=az4 hb;have hl:(bH n).length<=32:=by have:=ED n;rw[BZ hb]at this;omega
   rw[cond_false];cases(bH n).getD 0 []==Vo with
   | true=>exact aas _
   | false =>
    rw[cond_false];cases(bH n).getD 0 []==Vp with
    | true =>
     rw[cond_true];cases((bH n).length:Int)==2 with
     | true=>exact Nat.le_trans (az5 ht 1) (by decide)
     | false=>exact aas _
    | false =>
     rw[cond_false];cases(bH n).getD 0 []==Vq with
     | false=>exact aas _
     | true =>
      rw[cond_true];have:=aD4 (l:=(bH n).drop 1) fun s hs=>ht s (List.mem_of_mem_drop hs)
      rw[abP]at this;omega
theorem aCD{d:Nat}{v:Node}(h:si (d+3) v)(q:anP)(y:Node)(hy:hL v q=some y):y.text.length<=30000:=by
 have hsp:∀k l,(qO v k l).length<=30000:=fun k l=>by
  unfold qO;cases aD v k with
  | true=>exact Nat.le_trans (aCq _) (by decide)
  | false=>exact aas _
 have hts:(JF (aJ v bR)).length<=30000:=by
  rcases abY (d:=d+1) h bR with e | e
  ·rw[e];exact aui (aas _) fun y hy=>by cases hy
  ·exact aui e.1.2.2.1 fun y hy=>(e.2.2.2 y hy).1.2.2.1
 have of:∀{b:Bool} {s:anP},s.length<=30000->(bif b then some (bI s)else none)=some y->y.text.length<=30000:=by
  intro b s hs he;cases b with
  | false=>cases he
  | true=>cases he;exact hs
 unfold hL at hy;split at hy
 ·exact of (Nat.le_trans (rU _) (by decide)) hy
 ·split at hy
  ·exact of (hsp _ _) hy
  ·split at hy
   ·exact of (hsp _ _) hy
   ·split at hy
    ·exact of hts hy
    ·cases hy
theorem Xk:Sf isK mE J8:=⟨rfl,rfl,by unfold Pl.SS;exact List.pairwise_singleton _ _,rfl,by decide,fun k hk=>by rw[List.mem_singleton.1 hk];exact kyT.2.2.2.2,fun y hy=>by rw[List.mem_singleton.1 hy];rfl⟩
theorem aof(k:anP)(h:isK k):k.length<=30000:=by
 have:∀k∈Tg,k.length<=30000:=by decide
 exact this k h
theorem Sf.Gh{ψ:anP->Prop}{φ:Node->Prop}{a:Node}(h:Sf ψ φ a):Gh0 a:=fun _=>⟨h.len,mD h.ss⟩
theorem afm{v:Node}{d:Nat}(h:si (d+3) v)(hb:Bg v=true):Fo ZE (Bf v):=by
 unfold Bg at hb;unfold Bf;cases hno:Hg v with
 | true=>rw[hno]at hb;cases hb
 | false =>
  rw[hno,cond_false]at hb;rw[cond_false];cases hof:Ik v==jZ with
  | true =>rw[cond_true];refine G6 atH (akB Xk.Gh) Xk.nz (V3 rfl rfl rfl (by decide) (fun k hk=>aof k (Xk.key k hk)) fun y hy=>?_) (Xk.sorted ML);rw[List.mem_singleton.1 hy];exact Ca 4 (by decide)
  | false =>
   rw[hof,cond_false]at hb;rw[cond_false];have fh:=azV hb;refine G6 (amj fh hno) (akB fh.sf.Gh) fh.sf.nz (V3 fh.sf.kind fh.sf.text fh.sf.len (Nat.le_trans fh.sf.le (by decide)) (fun k hk=>aof k (fh.sf.key k hk)) fun y hy=>?_) (fh.sf.sorted ML);obtain⟨q,hq⟩:=aqK fh.sf.len (mD fh.sf.ss) y hy;have hg:get (eY (rO v) true) q=some y:=by unfold get;rw[if_pos fh.sf.kind];exact hq
   rw[fh.VZ]at hg;have hl:=aCD h q y hg;have e:y=bI y.text:=fh.sf.kid y hy;rw[e];exact Ca 4 hl
theorem Qh{e:Nat}{v:Node}(h:si (e+4) v)(he:e+4<=11){k:anP}{j:Int}(hj:rD k=j)(h0:0<=j)(h5:j<=5)(ask:∀x,tY k x)(hb:tK v j=true):Fo k (vO v j):=by obtain⟨e1,e2,ag⟩:=aoc h he h0 h5;rw[e2]at hb;rw[e1];obtain⟨g1,g2,g3,g4,g5⟩:=ag hb;refine G6 ?_ (ask _) g1 g2 g3;rw[hj,(axX _ h5).1,(axX _ h5).2];exact⟨g4,g5⟩
theorem auj{e:Nat}{k:anP}{v:Node}(h:si (e+4) v)(he:e+4<=11)(hn:¬ rD k<0):tY k v/\(tK v (rD k)=true->Fo k (vO v (rD k))):=by
 rcases Sd k with hk | hk
 ·rcases hk with hk | hk | hk | rfl | rfl | rfl | rfl | rfl
  ·rcases hk with rfl | rfl | rfl | rfl | rfl | rfl
   ·exact⟨atW v,Qh h he (j:=0) rfl (by decide) (by decide) atW⟩
   ·exact⟨atX v,Qh h he (j:=1) rfl (by decide) (by decide) atX⟩
   ·exact⟨atY v,Qh h he (j:=2) rfl (by decide) (by decide) atY⟩
   ·exact⟨atZ v,Qh h he (j:=3) rfl (by decide) (by decide) atZ⟩
   ·exact⟨at0 v,Qh h he (j:=4) rfl (by decide) (by decide) at0⟩
   ·exact⟨at1 v,Qh h he (j:=5) rfl (by decide) (by decide) at1⟩
  ·rcases hk with rfl | rfl
   ·refine⟨at5 (Ee h),fun hb=>?_⟩;obtain⟨g1,g2,g3,g4,g5⟩:=ZT (Ee h) true hb;exact G6 (k:=Zy) g2 (at5 g1) g3 g4 g5
   ·refine⟨at6 (Ee h),fun hb=>?_⟩;obtain⟨g1,g2,g3,g4,g5⟩:=ZT (Ee h) false hb;exact G6 (k:=Zz) g2 (at6 g1) g3 g4 g5
  ·rcases hk with rfl | rfl
   ·refine⟨at7 (Ee h),fun hb=>?_⟩;obtain⟨g1,g2,g3,g4,g5⟩:=V5 (Ee h) hb;exact G6 (k:=OH) g2 (at7 g1) g3 g4 g5
   ·refine⟨aua (Ee h),fun hb=>?_⟩;obtain⟨g1,g2,g3,g4,g5⟩:=V5 (Ee h) hb;exact G6 (k:=OI) g2 (aua g1) g3 g4 g5
  ·exact⟨aub (axY h).1,akD h⟩
  ·exact⟨auc (axZ h).1,afl h⟩
  ·exact⟨aud (aqO h),aoe (aqO h)⟩
  ·exact⟨aue (aqP (d:=e+2) h (by omega)),aug (aqP (d:=e+2) h (by omega))⟩
  ·exact⟨akB (Sc h),afm h⟩
 ·exact absurd (show rD k<0 by omega) hn
theorem awn{k:anP}(v:Node)(hn:rD k<0):fdF k v=none:=by
 rcases Sd k with hk | hk
 ·exfalso;rcases hk with(rfl | rfl | rfl | rfl | rfl | rfl) | (rfl | rfl) | (rfl | rfl) | rfl | rfl | rfl | rfl | rfl<;>exact absurd hn (by decide)
 ·exact hk.2 v
end
section
theorem aqQ{l:List (anP)}(h:l.Nodup):(Pl.bn l).length=l.length :=
 Nat.le_antisymm (Pl.uK l) (Ny l (Pl.bn l) h fun _ hx=>Pl.kE.2 hx)
section
variable {P:anP->Node->Prop}
theorem az6{o:Node}(h3:o.kind=3):iJ o=o:=by show(⟨3,o.text,o.keys,o.kids⟩:Node)=o;rw[<- h3];exact fO o
theorem aqR{d:Nat}(hd:d+1<=1000)(hw:∀k y,P k y->wg 10000 d y=true/\kd d y=true)(hs:∀k y,P k y->aK d y=y){o:Node}(h:Ip P o)(h3:o.kind=3)(hl:o.keys.length<=300) :
  dR 1000 o=aK (d+1) o/\Sp P (aK (d+1) o)/\(aK (d+1) o).keys.length=o.keys.length:=by
 obtain⟨w1,w2⟩:=h.leafs hw (by omega);have hf:=h.form hs;rw[az6 h3]at w1 w2 hf;refine⟨Qd hd w1 w2,hf,?_⟩;have e:aK (d+1) o=⟨o.kind,o.text,Pl.bn o.keys,(Pl.bn o.keys).map fun k=>aK d (aJ o k)⟩:=by show(bif o.kind==3 then _ else _)=_;rw[iX h3];rfl
 rw[e];exact aqQ h.nd
theorem Sp.awo{o:Node}(h:Sp P o){d:Nat}(hd:d+1<=1000)(hw:∀k y,P k y->wg 10000 d y=true/\kd d y=true)(hs:∀k y,P k y->aK d y=y)(hl:o.keys.length<=300):dR 1000 ⟨3,[],o.keys,o.kids⟩=o:=by
 have e:(⟨3,[],o.keys,o.kids⟩:Node)=o:=by rw[<- h.text,<- h.kind];exact fO o
 obtain⟨w1,w2⟩:=h.leafs hw (by omega);rw[e,Qd hd w1 w2,h.sorted hs]
theorem adR{o:Node}(h3:o.kind=3)(hl:o.keys.length=o.kids.length)(hn:o.keys.Nodup){k:anP}{v:Node}(hk:k∉o.keys):bf o k v=⟨3,[],o.keys++[k],o.kids++[v]⟩/\(o.keys++[k]).Nodup:=by rw[ZL (.inr h3) hl hn];exact adP (.inr h3) hl hn hk
theorem adS{l:List (anP)}{k s:anP}{t:List (anP)}(hd:∀q∈s::t,q∉l)(hn:(s::t).Nodup)(hk:k∈t):k∉l++[s]:=fun hq=>by
 rcases List.mem_append.1 hq with hq | hq
 ·exact hd k (aa6 _ hk) hq
 ·rw[List.mem_singleton.1 hq]at hk;exact(List.nodup_cons.1 hn).1 hk
end
theorem auk{k:anP}{a:Node}(h:Fo k a):Km k=false/\¬ rD k<0:=by
 rcases Sd k with hk | hk
 ·rcases hk with(rfl | rfl | rfl | rfl | rfl | rfl) | (rfl | rfl) | (rfl | rfl) | rfl | rfl | rfl | rfl | rfl<;>exact⟨rfl,by decide⟩
 ·have:=h.fd;rw[hk.2 a]at this;cases this
theorem ax1(k:anP)(y:Node)(h:Fo k y):wg 10000 12 y=true/\kd 12 y=true:=⟨Af (by decide) (vV h.qD),Xi (by decide) (Sb h.qD)⟩
theorem awp(k:anP)(y:Node)(h:Fo k y):aK 12 y=y:=h.srt
theorem az7{k:anP}{a:Node}(h:Fo k a):k.length<=30000:=by
 rcases Sd k with hk | hk
 ·rcases hk with(rfl | rfl | rfl | rfl | rfl | rfl) | (rfl | rfl) | (rfl | rfl) | rfl | rfl | rfl | rfl | rfl<;>decide
 ·have:=h.fd;rw[hk.2 a]at this;cases this
structure Sv (a:Node):Prop where
 kind:a.kind=3
 again:CB a=(a,[],0)
 qD:sn 7 a
 srt:aK 13 a=a
 key:∀k∈a.keys,¬ rD k<0
theorem akE:∀(ks:List (anP)) (vs:List Node) (o:Node),Fa Fo ks vs->ks.Nodup->(∀k∈ks,k∉o.keys)->o.kind=3->o.text=[]->o.keys.length=o.kids.length->o.keys.Nodup->GR ks vs o=(dR 1000 ⟨3,[],o.keys++ks,o.kids++vs⟩,[],0)
 | [],[],o,_,_,_,h3,ht,_,_=>by unfold GR;rw[abR,abR,<- h3,<- ht,fO]
 | k::ks,v::vs,o,hf,hn,hd,h3,ht,hl,hnd=>by
  have hn':=List.nodup_cons.1 hn;obtain⟨p1,p2⟩:=adR h3 hl hnd (v:=v) (hd k aa1);obtain⟨q1,q2⟩:=auk hf.1;rw[GR,q1,cond_false,hf.1.fd];simp only;rw[dP hf.1.nz,cond_false,show((0:Int)!=0)=false from rfl,cond_false,iI hf.1.nz,cond_true,p1,
   akE ks vs _ hf.2 hn'.2 (fun q hq=>adS hd hn hq) rfl rfl (by simp[hl]) p2]
  simp
 | [],_::_,_,h,_,_,_,_,_,_=>h.elim
 | _::_,[],_,h,_,_,_,_,_,_=>h.elim
theorem Sp.Sv_{a:Node}(h:Sp Fo a)(hl:a.keys.length<=300):Sv a:=by
 refine⟨h.kind,?_,h.qD hl fun k y hy=>⟨az7 hy,hy.qD⟩,h.sorted awp,fun k hk=>?_⟩
 ·unfold CB;rw[dP (show a.kind≠0 by rw[h.kind];decide),kg h.kind,cond_false,cond_false,akE a.keys a.kids _ h.all (mD h.ss) (fun k _ h=>by cases h) rfl rfl rfl amt];show(dR 1000 ⟨3,[],a.keys,a.kids⟩,_,_)=_;rw[h.awo (by decide) ax1 awp hl]
 ·obtain⟨v,hv⟩:=abX h.all k hk;exact(auk hv).2
theorem aul{e:Nat}(he:e+4<=11):∀(ks:List (anP)) (vs:List Node) (o:Node),(∀y∈vs,si (e+4) y)->Ip Fo o->o.kind=3->o.keys.length+ks.length<=300 ->
  GR ks vs o=((q9 ks vs o).n,(q9 ks vs o).path,(q9 ks vs o).e)/\((q9 ks vs o).e=0->Sv (q9 ks vs o).n/\(q9 ks vs o).path=[]):=by
 have fin:∀o:Node,Ip Fo o->o.kind=3->o.keys.length<=300->((dR 1000 o,([]:anP),(0:Int))=(aK 13 o,[],0))/\((0:Int)=0->Sv (aK 13 o)/\([]:anP)=[]):=fun o ho h3 hl=>by obtain⟨g1,g2,g3⟩:=aqR (d:=12) (by decide) ax1 awp ho h3 hl;exact⟨by rw[g1],fun _=>⟨g2.Sv_ (by omega),rfl⟩⟩
 intro ks
 induction ks with
 | nil =>intro vs o _ ho h3 hl;exact fin o ho h3 (by simpa using hl)
 | cons k ks ih =>
  intro vs o hv ho h3 hl;rw[List.length_cons]at hl;cases vs with
  | nil=>exact fin o ho h3 (by omega)
  | cons v vs =>
   have hv':=fun y hy=>hv y (aa6 _ hy)
   rw[GR,q9];cases hf:Km k with
   | true=>exact ih vs o hv' ho h3 (by omega)
   | false =>
    simp only[cond_false];by_cases hn:rD k<0
    ·rw[awn v hn,dT hn];exact⟨rfl,fun h=>by cases h⟩
    ·obtain⟨a1,a2⟩:=auj (hv v aa1) he hn;unfold tY at a1;rw[a1,dF hn];simp only[cond_false];cases hk0:v.kind==0 with
     | true=>exact ih vs o hv' ho h3 (by omega)
     | false =>
      simp only[cond_false];cases hb:tK v (rD k)with
      | false=>exact⟨rfl,fun h=>by cases h⟩
      | true =>have fo:=a2 hb;obtain⟨h1,h2,h4,_⟩:=ER (k:=k) (v:=vO v (rD k)) ho.kind ho.len;simp only[cond_true,abI,cond_false,show((0:Int)!=0)=false from rfl];rw[iI fo.nz,cond_true,ho.with_];exact ih vs _ hv' (ho.put fo) h1 (by omega)
theorem aCE:aK 13 ⟨3,[],[],[]⟩=⟨3,[],[],[]⟩:=by have e:aK 13 (⟨3,[],[],[]⟩:Node)=⟨3,[],Pl.bn [],(Pl.bn []).map fun k=>aK 12 (aJ ⟨3,[],[],[]⟩ k)⟩:=rfl;have h:Pl.bn []=[]:=List.length_eq_zero_iff.1 (Nat.le_zero.1 (Pl.uK []));rw[e,h];rfl
theorem aml{e:Nat}{n:Node}(h:si (e+5) n)(he:e+4<=11):CB n=((tu n).n,(tu n).path,(tu n).e)/\((tu n).e=0->Sv (tu n).n/\(tu n).path=[]):=by
 unfold tu CB;by_cases h0:n.kind=0
 ·have ez:=aqN h h0;have hi:=aul he [] [] ⟨3,[],[],[]⟩ (fun y hy=>by cases hy) (Ip.nil (.inr rfl)) rfl (by decide);have es:q9 [] [] ⟨3,[],[],[]⟩=⟨⟨3,[],[],[]⟩,[],0⟩:=by
   show(⟨aK 13 ⟨3,[],[],[]⟩,[],0⟩:jr)=_;rw[aCE]
  rw[es]at hi;subst ez;show(_=((q9 [] [] ⟨3,[],[],[]⟩).n,(q9 [] [] ⟨3,[],[],[]⟩).path,(q9 [] [] ⟨3,[],[],[]⟩).e))/\((q9 [] [] ⟨3,[],[],[]⟩).e=0->Sv (q9 [] [] ⟨3,[],[],[]⟩).n/\(q9 [] [] ⟨3,[],[],[]⟩).path=[]);rw[es];exact⟨rfl,hi.2⟩
 ·rw[dP h0,iI h0,cond_false,cond_true];by_cases h3:n.kind=3
  ·rw[kg h3,cond_false,cond_false];exact aul he n.keys n.kids _ h.2.2.2 (Ip.nil (.inr rfl)) rfl (by show 0+_<=_;have:=h.1.1.1;omega)
  ·rw[iI h3,cond_true,cond_true];exact⟨rfl,fun h=>by cases h⟩
def Fv(k:anP)(v:Node):Prop:=bO fK k=true/\Sv v
theorem ax2(k:anP)(y:Node)(h:Fv k y):wg 10000 13 y=true/\kd 13 y=true:=⟨Af (by decide) (vV h.2.qD),Xi (by decide) (Sb h.2.qD)⟩
theorem awq(k:anP)(y:Node)(h:Fv k y):aK 13 y=y:=h.2.srt
structure Ss (a:Node):Prop where
 kind:a.kind=3
 again:RY a=(a,[],0)
 qD:sn 8 a
 srt:aK 14 a=a
theorem jn2(k:anP):Lib.join [jw,k] [46]=CG k:=by show jw++([46]++(k++[]))=[115,101,114,118,105,99,101,115,46]++k;simp[jw]
theorem aF3{k:anP}(hk:k≠[]):Mk [jw,k]=CG k:=by
 have e:([jw,k]:List (anP)).filter (fun s=>!(s==[]))=[jw,k]:=by rw[ajw rfl,ajw (by simpa using hk),List.filter_nil]
 unfold Mk;rw[e,jn2]
theorem aF4{k p:anP}(hk:k≠[])(hp:p≠[]):Mk [jw,k,p]=(CG k++[46])++p:=by
 have e:([jw,k,p]:List (anP)).filter (fun s=>!(s==[]))=[jw,k,p]:=by rw[ajw rfl,ajw (by simpa using hk),ajw (by simpa using hp),List.filter_nil]
 unfold Mk;rw[e];show jw++([46]++(k++([46]++(p++[]))))=(([115,101,114,118,105,99,101,115,46]++k)++[46])++p;simp[jw]
theorem aD5{k:anP}(hk:k≠[]):Mk [jw,k,[]]=CG k:=by
 have e:([jw,k,[]]:List (anP)).filter (fun s=>!(s==[]))=[jw,k]:=by rw[ajw rfl,ajw (by simpa using hk),List.filter_cons_of_neg (by simp),List.filter_nil]
 unfold Mk;rw[e,jn2]
theorem az8{k:anP}(h:bO fK k=true):k≠[]:=fun e=>by have:=(Vb h).1;rw[e]at this;exact absurd this (by decide)
theorem akF:∀(ks:List (anP)) (vs:List Node) (o:Node),Fa Fv ks vs->ks.Nodup->(∀k∈ks,k∉o.keys)->o.kind=3->o.text=[]->o.keys.length=o.kids.length->o.keys.Nodup->Kn ks vs o=(dR 1000 ⟨3,[],o.keys++ks,o.kids++vs⟩,[],0)
 | [],[],o,_,_,_,h3,ht,_,_=>by unfold Kn;rw[abR,abR,<- h3,<- ht,fO]
 | k::ks,v::vs,o,hf,hn,hd,h3,ht,hl,hnd=>by have hn':=List.nodup_cons.1 hn;obtain⟨p1,p2⟩:=adR h3 hl hnd (v:=v) (hd k aa1);have q:=hf.1.2;rw[Kn,uS,hf.1.1,q.again];simp only[abI,cond_false,show((0:Int)!=0)=false from rfl];rw[iI (show v.kind≠0 by rw[q.kind];decide),cond_true,p1,akF ks vs _ hf.2 hn'.2 (fun q hq=>adS hd hn hq) rfl rfl (by simp[hl]) p2];simp
 | [],_::_,_,h,_,_,_,_,_,_=>h.elim
 | _::_,[],_,h,_,_,_,_,_,_=>h.elim
theorem Sp.Ss_{a:Node}(h:Sp Fv a)(hl:a.keys.length<=16):Ss a:=by
 have e:Ml a=(a,[],0):=by unfold Ml;rw[dP (show a.kind≠0 by rw[h.kind];decide),kg h.kind,cond_false,cond_false,akF a.keys a.kids _ h.all (mD h.ss) (fun k _ h=>by cases h) rfl rfl rfl amt];show(dR 1000 ⟨3,[],a.keys,a.kids⟩,_,_)=_;rw[h.awo (by decide) ax2 awq (by omega)]
 refine⟨h.kind,?_,h.qD (by omega) fun k y hy=>⟨Nat.le_trans (Vb hy.1).2 (by decide),hy.2.qD⟩,h.sorted awq⟩;unfold RY;rw[e,kg h.kind,cond_false];show(bif(bif(0:Int)==0 then decide ((16:Int)<(a.keys.length:Int))else false)then _ else _)=_;rw[dF (show ¬ (16:Int)<(a.keys.length:Int) by omega)];rfl
theorem aCF{e:Nat}(he:e+4<=11):∀(ks:List (anP)) (vs:List Node) (o:Node),(∀y∈vs,si (e+5) y)->Ip Fv o->o.kind=3->o.keys.length+ks.length<=300 ->
  ((Kn ks vs o).2.2≠0/\Kn ks vs o=((mM ks vs o).n,(mM ks vs o).path,(mM ks vs o).e))\/∃o',Ip Fv o'/\o'.kind=3/\o'.keys.length<=300/\Kn ks vs o=(dR 1000 o',[],0)/\mM ks vs o=bif decide ((16:Int)<(o'.keys.length:Int))then⟨zn,jw,9⟩else⟨aK 14 o',[],0⟩:=by
 intro ks
 induction ks with
 | nil =>intro vs o _ ho h3 hl;exact .inr ⟨o,ho,h3,by simpa using hl,by unfold Kn;rfl,by unfold mM;rfl⟩
 | cons k ks ih =>
  intro vs o hv ho h3 hl;rw[List.length_cons]at hl;cases vs with
  | nil=>exact .inr ⟨o,ho,h3,by omega,by unfold Kn;rfl,by unfold mM;rfl⟩
  | cons v vs =>
   have hv':=fun y hy=>hv y (aa6 _ hy)
   obtain⟨a1,a2⟩:=aml (hv v aa1) he;rw[Kn,mM,uS,a1];simp only;cases hn:bO fK k with
   | false =>
    simp only[aem,cond_true];refine .inl ⟨by decide,?_⟩;by_cases hk:k=[]
    ·rw[hk];rfl
    ·rw[aF3 hk,show(k==[])=false by simpa using hk];rfl
   | true =>
    have hk:=az8 hn;simp only[abI,cond_false];generalize tu v=s at a1 a2 ⊢;by_cases hse:s.e=0
    ·obtain⟨sv,_⟩:=a2 hse;obtain⟨h1,h2,h4,_⟩:=ER (k:=k) (v:=s.n) ho.kind ho.len;rw[kg hse,cond_false,cond_false,iI (show s.n.kind≠0 by rw[sv.kind];decide),cond_true,ho.with_];exact ih vs _ hv' (ho.put ⟨hn,sv⟩) h1 (by omega)
    ·rw[iI hse,cond_true,cond_true];refine .inl ⟨hse,?_⟩;by_cases hp:s.path=[]
     ·rw[hp,aD5 hk];rfl
     ·rw[aF4 hk hp,show(s.path==[])=false by simpa using hp];rfl
theorem akG{e:Nat}{n:Node}(h:si (e+6) n)(he:e+4<=11):RY n=((qc n).n,(qc n).path,(qc n).e)/\((qc n).e=0->Ss (qc n).n):=by
 unfold qc RY;by_cases h3:n.kind=3
 ·have es:Ml n=Kn n.keys n.kids ⟨3,[],[],[]⟩:=by unfold Ml;rw[dP (show n.kind≠0 by rw[h3];decide),kg h3];rfl
  rw[kg h3,cond_false,cond_false,es];rcases aCF he n.keys n.kids ⟨3,[],[],[]⟩ h.2.2.2 (Ip.nil (.inr rfl)) rfl (by show 0+_<=_;have:=h.1.1.1;omega)with⟨g1,g2⟩ | ⟨o,g1,g2,g3,g4,g5⟩
  ·rw[dP g1];rw[g2]at g1 ⊢;exact⟨rfl,fun h=>absurd h g1⟩
  ·obtain⟨f1,f2,f3⟩:=aqR (d:=13) (by decide) ax2 awq g1 g2 g3;rw[g4,g5,f1];show(bif(bif(0:Int)==0 then decide ((16:Int)<((aK 14 o).keys.length:Int))else false)then _ else _)=_/\_;rw[f3];by_cases h16:(16:Int)<(o.keys.length:Int)
   ·rw[dT h16];exact⟨rfl,fun h=>by cases h⟩
   ·rw[dF h16];exact⟨rfl,fun _=>f2.Ss_ (by omega)⟩
 ·rw[iI h3,cond_true,cond_true];exact⟨rfl,fun h=>by cases h⟩
end
section
theorem az9(n:Node):(qc n).e≠0->(qc n).n=zn:=by
 have fin:∀o:Node,(bif decide ((16:Int)<(o.keys.length:Int))then(⟨zn,jw,9⟩:jr)else⟨aK 14 o,[],0⟩).e≠0->(bif decide ((16:Int)<(o.keys.length:Int))then(⟨zn,jw,9⟩:jr)else⟨aK 14 o,[],0⟩).n=zn:=fun o=>by
  cases decide ((16:Int)<(o.keys.length:Int))with
  | true=>exact fun _=>rfl
  | false=>exact fun h=>absurd rfl h
 have go:∀(ks:List (anP)) (vs:List Node) (o:Node),(mM ks vs o).e≠0->(mM ks vs o).n=zn:=by
  intro ks
  induction ks with
  | nil=>intro vs o;rw[mM];exact fin o;intro _ _ _ _ h;cases h
  | cons k ks ih =>
   intro vs o;cases vs with
   | nil=>rw[mM];exact fin o;intro _ _ _ _ _ h;cases h
   | cons v vs =>
    rw[mM];cases !(bO fK k)with
    | true=>exact fun _=>rfl
    | false =>
     cases(tu v).e != 0 with
     | true=>exact fun _=>rfl
     | false=>exact ih vs _
 unfold qc;cases n.kind != 3 with
 | true=>exact fun _=>rfl
 | false=>exact go _ _ _
theorem aCG{k:anP}(h:Ym k=false):k=J4\/k=jw\/k=OH\/k=OG:=by
 unfold Ym at h;by_cases h1:k=J4
 ·exact .inl h1
 by_cases h2:k=jw
 ·exact .inr (.inl h2)
 by_cases h3:k=OH
 ·exact .inr (.inr (.inl h3))
 by_cases h4:k=OG
 ·exact .inr (.inr (.inr h4))
 have e:∀{a:anP},¬ k=a->(k==a)=false:=fun h=>by simpa using h
 rw[e h1,e h2,e h3,e h4]at h;cases h
theorem aAa{d e:Nat}{a:Node}(h:sn d a)(h1:d<=e)(h2:e<=1000){m:Nat}(hm:d<=m)(hm2:m<=1000)(hs:aK m a=a):aK e a=a:=by have g1:=Qd h2 (Af h1 (vV h)) (Xi h1 (Sb h));have g2:=Qd hm2 (Af hm (vV h)) (Xi hm (Sb h));rw[<- g1,g2,hs]
structure Ff (k:anP) (a:Node):Prop where
 fk:Ym k=false
 nz:a.kind≠0
 v:(DI k a).1=a
 e:(DI k a).2.2=0
 qD:sn 8 a
 srt:aK 14 a=a
theorem Ff.aCH{k:anP}{a:Node}(h:Ff k a):Km k=false/\k.length<=30000:=by rcases aCG h.fk with rfl | rfl | rfl | rfl<;>exact⟨rfl,by decide⟩
theorem aqS(k:anP)(y:Node)(h:Ff k y):wg 10000 14 y=true/\kd 14 y=true:=⟨Af (by decide) (vV h.qD),Xi (by decide) (Sb h.qD)⟩
theorem aqT(k:anP)(y:Node)(h:Ff k y):aK 14 y=y:=h.srt
theorem awr{e:Nat}{k:anP}{v:Node}(h:si (e+6) v)(he:e+4<=11)(hf:Ym k=false):(DI k v).2.2=(vN k v).e/\((vN k v).e≠0->(DI k v).2.1=(vN k v).path/\(vN k v).n=zn)/\((vN k v).e=0->(DI k v).1=(vN k v).n/\Ff k (vN k v).n):=by
 by_cases h1:k=jw
 ·have e1:∀x,DI k x=RY x:=fun x=>by unfold DI;rw[h1];rfl
  have e2:vN k v=qc v:=by unfold vN;rw[h1];rfl
  obtain⟨g1,g2⟩:=akG h he;rw[e1,e2,g1];refine⟨rfl,fun hx=>⟨rfl,az9 v hx⟩,fun hx=>⟨rfl,?_⟩⟩;have s:=g2 hx;refine⟨hf,by rw[s.kind];decide,?_,?_,s.qD,s.srt⟩
  ·rw[e1,s.again]
  ·rw[e1,s.again]
 ·have n1:(k==jw)=false:=by simpa using h1
  by_cases h2:k=J4
  ·have n2:(k==J4)=true:=by rw[h2];rfl
   have e1:∀x:Node,DI k x=(bif(bif x.kind != 1 then true else !(bO Cw x.text))then(zn,k,10)else(x,[],0)):=fun x=>by unfold DI;rw[n1,n2,aqy];rfl
   have e2:vN k v=(bif(bif v.kind != 1 then true else !(bO Cw v.text))then⟨zn,k,10⟩else⟨v,[],0⟩):=by unfold vN;rw[n1,n2];rfl
   rw[e1,e2];cases hc:(bif v.kind != 1 then true else !(bO Cw v.text))with
   | true=>exact⟨rfl,fun _=>⟨rfl,rfl⟩,fun h=>by cases h⟩
   | false =>
    have hk:v.kind=1:=by
     by_cases hk:v.kind=1
     ·exact hk
     ·rw[iI hk]at hc;cases hc
    have hv:=Qf h hk;refine⟨rfl,fun h=>absurd rfl h,fun _=>⟨rfl,hf,by show v.kind≠0;omega,?_,?_,?_,?_⟩⟩
    ·show(DI k v).1=v;rw[e1,hc];rfl
    ·show(DI k v).2.2=0;rw[e1,hc];rfl
    ·show sn 8 v;rw[hv];exact Ca 7 (Nat.le_trans h.1.2.2.1 (by decide))
    ·show aK 14 v=v;rw[hv];rfl
  ·have n2:(k==J4)=false:=by simpa using h2
   have e1:∀x:Node,DI k x=(Gq x,k,Gs x):=fun x=>by unfold DI;rw[n1,n2];rfl
   have e2:vN k v=(bif !(rJ v)then⟨zn,k,10⟩else⟨jQ v,[],0⟩):=by unfold vN;rw[n1,n2];rfl
   have gn:=Ee (d:=e+4) h;obtain⟨g1,g2⟩:=(VW gn).1;rw[e1,e2,g1,g2];cases hb:rJ v with
   | false=>exact⟨rfl,fun _=>⟨rfl,rfl⟩,fun h=>by cases h⟩
   | true =>
    obtain⟨f1,f2,f3,f4,f5⟩:=V5 gn hb;obtain⟨q1,q2⟩:=(VW f1).1;refine⟨rfl,fun h=>absurd rfl h,fun _=>⟨rfl,hf,f3,?_,?_,aD0 (by decide) f4,aAa f4 (by decide) (by decide) (m:=12) (by decide) (by decide) f5⟩⟩
    ·show(DI k (jQ v)).1=jQ v;rw[e1];show Gq (jQ v)=_;rw[q1,f2.1]
    ·show(DI k (jQ v)).2.2=0;rw[e1];show Gs (jQ v)=0;rw[q2,f2.2];rfl
structure Sl (a:Node):Prop where
 kind:a.kind=3
 again:flP a=(a,[],0)
 fe:Ae a=(a,[],0)
 qD:sn 9 a
 srt:aK 15 a=a
theorem aog:∀(ks:List (anP)) (vs:List Node) (o:Node),Fa Ff ks vs->ks.Nodup->(∀k∈ks,k∉o.keys)->o.kind=3->o.text=[]->o.keys.length=o.kids.length->o.keys.Nodup->DJ ks vs o=(dR 1000 ⟨3,[],o.keys++ks,o.kids++vs⟩,[],0)
 | [],[],o,_,_,_,h3,ht,_,_=>by unfold DJ;rw[abR,abR,<- h3,<- ht,fO]
 | k::ks,v::vs,o,hf,hn,hd,h3,ht,hl,hnd=>by have hn':=List.nodup_cons.1 hn;obtain⟨p1,p2⟩:=adR h3 hl hnd (v:=v) (hd k aa1);have q:=hf.1;rw[DJ,q.aCH.1,q.fk,dP q.nz,q.v,q.e];simp only[cond_false,show((0:Int)!=0)=false from rfl];rw[iI q.nz,cond_true,p1,aog ks vs _ hf.2 hn'.2 (fun q hq=>adS hd hn hq) rfl rfl (by simp[hl]) p2];simp
 | [],_::_,_,h,_,_,_,_,_,_=>h.elim
 | _::_,[],_,h,_,_,_,_,_,_=>h.elim
theorem Sp.aCI{a:Node}(h:Sp Ff a)(hl:a.keys.length<=300):Ae a=(a,[],0):=by unfold Ae;rw[dP (show a.kind≠0 by rw[h.kind];decide),kg h.kind,cond_false,cond_false,aog a.keys a.kids _ h.all (mD h.ss) (fun k _ h=>by cases h) rfl rfl rfl amt];show(dR 1000 ⟨3,[],a.keys,a.kids⟩,_,_)=_;rw[h.awo (by decide) aqS aqT hl]
theorem Sp.fsn{a:Node}(h:Sp Ff a)(hl:a.keys.length<=300):sn 9 a:=h.qD hl fun _ _ hy=>⟨hy.aCH.2,hy.qD⟩
theorem Sp.Sl_{a:Node}(h:Sp Ff a)(hl:a.keys.length<=300)(hr:kW a=true):Sl a:=by refine⟨h.kind,?_,h.aCI hl,h.fsn hl,h.sorted aqT⟩;unfold flP;rw[h.aCI hl];show(bif(bif(0:Int)==0 then !(kW a)else false)then _ else _)=_;rw[hr];rfl
theorem ax3{e:Nat}(he:e+4<=11):∀(ks:List (anP)) (vs:List Node) (o:Node),(∀y∈vs,si (e+6) y)->Ip Ff o->o.kind=3->o.keys.length+ks.length<=300 ->
  ((xE ks vs o).e≠0/\DJ ks vs o=(zn,(xE ks vs o).path,(xE ks vs o).e)/\(xE ks vs o).n=zn)\/∃o',Ip Ff o'/\o'.kind=3/\o'.keys.length<=300/\DJ ks vs o=(dR 1000 o',[],0)/\xE ks vs o=bif !(kW (aK 15 o'))then⟨zn,[],9⟩else⟨aK 15 o',[],0⟩:=by
 intro ks
 induction ks with
 | nil =>intro vs o _ ho h3 hl;exact .inr ⟨o,ho,h3,by simpa using hl,by unfold DJ;rfl,by unfold xE;rfl⟩
 | cons k ks ih =>
  intro vs o hv ho h3 hl;rw[List.length_cons]at hl;cases vs with
  | nil=>exact .inr ⟨o,ho,h3,by omega,by unfold DJ;rfl,by unfold xE;rfl⟩
  | cons v vs =>
   have hv':=fun y hy=>hv y (aa6 _ hy)
   rw[DJ,xE];cases hf:Km k with
   | true=>exact ih vs o hv' ho h3 (by omega)
   | false =>
    cases hk:Ym k with
    | true=>exact .inl ⟨by show(10:Int)≠0;decide,rfl,rfl⟩
    | false =>
     obtain⟨a1,a2,a3⟩:=awr (hv v aa1) he hk;simp only[cond_false];cases hk0:v.kind==0 with
     | true=>exact ih vs o hv' ho h3 (by omega)
     | false =>
      simp only[cond_false];rw[a1];by_cases hx:(vN k v).e=0
      ·obtain⟨b1,b2⟩:=a3 hx;obtain⟨h1,h2,h4,_⟩:=ER (k:=k) (v:=(vN k v).n) ho.kind ho.len;rw[kg hx,cond_false,cond_false,b1,iI b2.nz,cond_true,ho.with_];exact ih vs _ hv' (ho.put b2) h1 (by omega)
      ·obtain⟨b1,b2⟩:=a2 hx;rw[iI hx,cond_true,cond_true,b1];exact .inl ⟨hx,rfl,b2⟩
theorem aCJ:aK 15 ⟨3,[],[],[]⟩=⟨3,[],[],[]⟩:=by have e:aK 15 (⟨3,[],[],[]⟩:Node)=⟨3,[],Pl.bn [],(Pl.bn []).map fun k=>aK 14 (aJ ⟨3,[],[],[]⟩ k)⟩:=rfl;have h:Pl.bn []=[]:=List.length_eq_zero_iff.1 (Nat.le_zero.1 (Pl.uK []));rw[e,h];rfl
theorem ax4{d:Nat}(hd:d<=13){x:Node}(h:sn d x):dp 13 x=true:=agE (by decide) (Af hd (vV h))
theorem aoh{e:Nat}(hq:e+4<=11)(ks:List (anP))(vs:List Node)(n:Node)(hl:ks.length<=300)(hy:∀y∈vs,si (e+6) y)(he:Ae n=DJ ks vs ⟨3,[],[],[]⟩)(hr:ru n=xE ks vs ⟨3,[],[],[]⟩) :
  flP n=((ru n).n,(ru n).path,(ru n).e)/\((ru n).e=0->Sl (ru n).n)/\dp 13 (Ae n).1=true:=by
 unfold flP;rw[he,hr];rcases ax3 hq ks vs ⟨3,[],[],[]⟩ hy (Ip.nil (.inr rfl)) rfl (by show 0+_<=_;omega)with⟨g1,g2,g3⟩ | ⟨o,g1,g2,g3,g4,g5⟩
 ·rw[g2];show(bif(bif(xE ks vs ⟨3,[],[],[]⟩).e==0 then !(kW zn)else false)then _ else _)=_/\_;rw[dP g1,g3];exact⟨rfl,fun h=>absurd h g1,rfl⟩
 ·obtain⟨f1,f2,f3⟩:=aqR (d:=14) (by decide) aqS aqT g1 g2 g3;rw[g4,g5,f1];show((bif(bif(0:Int)==0 then !(kW (aK 15 o))else false)then _ else _)=_)/\_;have hd:=ax4 (by decide) (f2.fsn (by omega));cases hR:kW (aK 15 o)with
  | false=>exact⟨rfl,fun h=>absurd (show(9:Int)=0 from h) (by decide),hd⟩
  | true=>exact⟨rfl,fun _=>f2.Sl_ (by omega) hR,hd⟩
theorem akH{e:Nat}{n:Node}(h:si (e+7) n)(he:e+4<=11):flP n=((ru n).n,(ru n).path,(ru n).e)/\((ru n).e=0->Sl (ru n).n)/\dp 13 (Ae n).1=true:=by
 by_cases h0:n.kind=0
 ·have ez:=aqN h h0;have e1:Ae n=(⟨3,[],[],[]⟩,[],0):=by unfold Ae;rw[iX h0];rfl
  have e2:DJ [] [] ⟨3,[],[],[]⟩=(⟨3,[],[],[]⟩,[],0):=by unfold DJ;rw[(aqR (P:=Ff) (d:=14) (by decide) aqS aqT (Ip.nil (.inr rfl)) rfl (by decide)).1,aCJ]
  refine aoh he [] [] n (by decide) (fun y hy=>by cases hy) (by rw[e1,e2]) ?_;rw[ez];rfl
 ·by_cases h3:n.kind=3
  ·refine aoh he n.keys n.kids n h.1.1.1 h.2.2.2 ?_ ?_
   ·unfold Ae;rw[dP h0,kg h3];rfl
   ·unfold ru;rw[iI h0,kg h3];rfl
  ·have e1:Ae n=(zn,[],10):=by unfold Ae;rw[dP h0,iI h3];rfl
   have e2:ru n=⟨zn,[],10⟩:=by unfold ru;rw[iI h0,iI h3];rfl
   unfold flP;rw[e1,e2];exact⟨rfl,fun h=>absurd h (by decide),rfl⟩
theorem aCK{e:Nat}{n:Node}(h:si (e+7) n)(he:e+4<=11):(ru n).e≠0->(ru n).n=zn:=by
 have go:∀(ks:List (anP)) (vs:List Node),ks.length<=300->(∀y∈vs,si (e+6) y)->(xE ks vs ⟨3,[],[],[]⟩).e≠0->(xE ks vs ⟨3,[],[],[]⟩).n=zn:=fun ks vs hl hy hne=>by
  rcases ax3 he ks vs ⟨3,[],[],[]⟩ hy (Ip.nil (.inr rfl)) rfl (by show 0+_<=_;omega)with⟨g1,g2,g3⟩ | ⟨o,g1,g2,g3,g4,g5⟩
  ·exact g3
  ·rw[g5]at hne ⊢;cases hR:kW (aK 15 o)with
   | false=>rfl
   | true=>rw[hR]at hne;exact absurd rfl hne
 unfold ru;cases(bif n.kind != 0 then n.kind != 3 else false)with
 | true=>exact fun _=>rfl
 | false=>exact go n.keys n.kids h.1.1.1 h.2.2.2
end
section
theorem aoi:∀(n:Nat) (x:Node) (d l:Int),d+(n+1:Nat)=14->l<=301->0<=leftV (n+1) x d l->rC n x=true->si n x
 | n,x,d,l,hd,hl,h,hs=>by
  unfold leftV at h;cases h1:Cx x d (l-1)with
  | true=>rw[h1,cond_true]at h;omega
  | false =>
   cases h2:H9 x with
   | true=>rw[h1,h2,cond_false,cond_true]at h;omega
   | false =>
    cases h3:Ia x (l-1)with
    | true=>rw[h1,h2,h3,cond_false,cond_false,cond_true]at h;omega
    | false =>
     rw[h1,h2,h3,cond_false,cond_false,cond_false]at h;have hA:¬ 12<d/\0<=x.kind/\x.kind<=3:=by
      unfold Cx at h1;refine⟨fun a=>?_,?_⟩
      ·rw[dT a]at h1;cases hx:decide (l-1<0)<;>rw[hx]at h1<;>cases h1
      ·by_cases a:x.kind<0
       ·rw[dT a]at h1;cases hx:decide (l-1<0)<;>cases hy:decide (12<d)<;>rw[hx,hy]at h1<;>cases h1
       ·by_cases b:3<x.kind
        ·rw[dT b]at h1;cases hx:decide (l-1<0)<;>cases hy:decide (12<d)<;>cases hz:decide (x.kind<0)<;>rw[hx,hy,hz]at h1<;>cases h1
        ·omega
     obtain⟨m,rfl⟩:∃m,n=m+1:=⟨n-1,by omega⟩
     simp only[rC,abG,abK,afe]at hs;obtain⟨q1,q2⟩:=RG (fun k l h=>LU (m+1) k (d+1) l h) x.kids (l-1) h;have hrec:∀y∈x.kids,si m y:=fun y hy=>by obtain⟨l',h4,h5⟩:=q2 y hy;exact aoi m y (d+1) l' (by omega) (by omega) h4 (hs.2.2 y hy)
     have hB:(x.kind≠1->x.text.length=0)/\(x.kind≠3->x.keys.length=0)/\(x.kind<2->x.kids.length=0):=by
      unfold H9 at h2;refine⟨fun e=>?_,fun e=>?_,fun e=>?_⟩
      ·by_cases a1:(0:Int)<(x.text.length:Int)
       ·rw[iI e,dT a1]at h2;cases h2
       ·omega
      ·by_cases a1:(0:Int)<(x.keys.length:Int)
       ·rw[iI e,dT a1]at h2;cases hx:(bif x.kind != 1 then decide ((0:Int)<(x.text.length:Int))else false)<;>rw[hx]at h2<;>cases h2
       ·omega
      ·by_cases a1:(0:Int)<(x.kids.length:Int)
       ·rw[dT e,dT a1]at h2;cases hx:(bif x.kind != 1 then decide ((0:Int)<(x.text.length:Int))else false)<;>cases hy:(bif x.kind != 3 then decide ((0:Int)<(x.keys.length:Int))else false)<;>rw[hx,hy]at h2<;>cases h2
       ·omega
     have hC:x.kind=3->x.keys.length=x.kids.length/\x.keys.Nodup:=by
      intro e;unfold Ia at h3;rw[iX e,cond_true]at h3;by_cases a1:(x.keys.length:Int)=x.kids.length
      ·refine⟨by omega,?_⟩;by_cases a2:((Pl.bn x.keys).length:Int)=(x.keys.length:Int)
       ·exact agf (by omega)
       ·rw[iI a2]at h3;cases hq:(bif(x.keys.length:Int)!=(x.kids.length:Int)then true else decide (l-1<(x.kids.length:Int)))<;>rw[hq]at h3<;>cases h3
      ·rw[iI a1]at h3;cases h3
     have hk:x.keys.length<=300:=by
      by_cases e:x.kind=3
      ·have:=(hC e).1;omega
      ·have:=hB.2.1 e;omega
     have awt:∀{α:Type} {t:List α},t.length=0->t=[]:=fun h=>List.length_eq_zero_iff.1 h
     exact⟨⟨⟨hk,by omega⟩,fun e=>(hC e).1,hs.1,hs.2.1⟩,⟨hA.2,fun e=>awt (hB.1 e),fun e=>awt (hB.2.1 e),fun e=>awt (hB.2.2 e)⟩,fun e=>(hC e).2,hrec⟩
 termination_by n=>n
theorem awu{x:Node}{m:Int}(hm:m<=300)(h:Gv x m=true):si 12 x:=by
 unfold Gv at h;by_cases h0:0<=leftV 13 x 1 m
 ·rw[dT h0,cond_true]at h;exact aoi 12 x 1 m (by decide) (by omega) h0 h
 ·rw[dF h0]at h;cases h
theorem KY{o:Node}{b:Bool}(h:eX o b=false):eY o b=zn:=by unfold eY;rw[h];rfl
theorem aqU{q:Option Node}(h:oB q=false):oV q=zn:=by
 cases q with
 | none=>rfl
 | some o=>exact KY h
theorem aD6{v:Node}{k:Int}(hb:tK v k=false):vO v k=zn:=by
 unfold tK at hb;unfold vO;cases h1:decide (k<5)with
 | true =>rw[h1]at hb;have hb:GY v k=false:=hb;show EF v k=zn;unfold EF;rw[hb];rfl
 | false =>
  rw[h1,cond_false]at hb;rw[cond_false];cases h2:k==5 with
  | true =>rw[h2]at hb;have hb:He v=false:=hb;show DC v=zn;unfold DC;rw[hb];rfl
  | false =>
   rw[h2,cond_false]at hb;rw[cond_false];cases h3:(bif k==6 then true else k==7)with
   | true=>rw[h3]at hb;exact aqU hb
   | false =>
    rw[h3,cond_false]at hb;rw[cond_false];cases h4:k==8 with
    | true=>rw[h4]at hb;exact KY hb
    | false =>
     rw[h4,cond_false]at hb;rw[cond_false];cases h5:k==9 with
     | true=>rw[h5]at hb;exact aqU hb
     | false =>
      rw[h5,cond_false]at hb;rw[cond_false];cases h6:k==10 with
      | true=>rw[h6]at hb;exact aqU hb
      | false =>
       rw[h6,cond_false]at hb;rw[cond_false];cases h7:k==11 with
       | true=>rw[h7]at hb;exact KY hb
       | false =>
        rw[h7,cond_false]at hb;rw[cond_false];cases h8:k==12 with
        | true =>
         rw[h8]at hb;have hb:EG v=false:=hb;show vL v=zn;unfold EG at hb;unfold vL;cases g1 : !(eO (jg v) [jf,l7])with
         | true=>rfl
         | false =>
          rw[g1]at hb;cases g2:MC (jg v)with
          | true=>rfl
          | false=>rw[g2]at hb;exact KY hb
        | false =>
         rw[h8]at hb;have hb:Bg v=false:=hb;show Bf v=zn;unfold Bg at hb;unfold Bf;cases g1:Hg v with
         | true=>rfl
         | false =>
          rw[g1]at hb;cases g2:Ik v==jZ with
          | true=>rw[g2]at hb;cases hb
          | false=>rw[g2]at hb;exact KY hb
theorem aD7{d:Nat}{v:Node}(h:si (d+4) v)(hd:d+4<=11)(k:Int):wg 10000 12 (vO v k)=true:=by
 cases hb:tK v k with
 | false=>rw[aD6 hb];exact Qa
 | true =>
  have s6:∀{x:Node},sn 6 x->wg 10000 12 x=true:=fun hx=>Af (by decide) (vV hx)
  unfold tK at hb;unfold vO;by_cases h1:k<5
  ·rw[dT h1,cond_true];unfold EF;cases GY v k with
   | false=>exact Qa
   | true =>
    cases k==2 with
    | true=>exact o8 _ _
    | false=>exact Af (by omega) (vV (Ed h))
  ·rw[dF h1,cond_false]at hb;rw[dF h1,cond_false];by_cases h2:k=5
   ·rw[iX h2]at hb ⊢;have:=(aoc h hd (j:=5) (by decide) (by decide)).2.2 hb;exact s6 this.2.1
   ·rw[dP h2,cond_false]at hb;rw[dP h2,cond_false];cases h3:(bif k==6 then true else k==7)with
    | true=>rw[h3]at hb;exact s6 (ZT (Ee h) _ hb).2.2.2.1
    | false =>
     rw[h3,cond_false]at hb;rw[cond_false];cases h4:k==8 with
     | true=>rw[h4]at hb;exact s6 (V5 (Ee h) hb).2.2.2.1
     | false =>
      rw[h4,cond_false]at hb;rw[cond_false];cases h5:k==9 with
      | true=>rw[h5]at hb;exact s6 (akD h hb).qD
      | false =>
       rw[h5,cond_false]at hb;rw[cond_false];cases h6:k==10 with
       | true=>rw[h6]at hb;exact s6 (afl h hb).qD
       | false =>
        rw[h6,cond_false]at hb;rw[cond_false];cases h7:k==11 with
        | true=>rw[h7]at hb;exact s6 (aoe (aqO h) hb).qD
        | false =>
         rw[h7,cond_false]at hb;rw[cond_false];cases h8:k==12 with
         | true=>rw[h8]at hb;exact s6 (aug (aqP (d:=d+2) h (by omega)) hb).qD
         | false=>rw[h8]at hb;exact s6 (afm h hb).qD
theorem aCL{d:Nat}{v:Node}(h:si (d+4) v)(hd:d+4<=11):Rf1 v:=⟨aD1 h (by omega),aD7 h hd⟩
theorem aCM{d:Nat}{v:Node}(h:si (d+5) v)(hd:d+4<=11):Rs1 v :=
 ⟨Nat.le_trans h.1.1.1 (by decide),fun e=>h.2.1.2.2.1 (by omega),h.1.2.1,fun y hy=>aCL (h.2.2.2 y hy) hd,fun s hs=>Nat.le_trans (h.1.2.2.2 s hs) (by decide)⟩
theorem aCN{v:Node}(h:Gn v):wg 10000 14 (jQ v)=true:=by
 cases hb:rJ v with
 | false=>rw[show jQ v=zn from KY hb];rfl
 | true=>exact Af (by decide) (vV (V5 h hb).2.2.2.1)
theorem aCO{d:Nat}{v:Node}(h:si (d+6) v)(hd:d+4<=11)(hd2:d+6<=14):Rp1 v :=
 ⟨Nat.le_trans h.1.1.1 (by decide),Nat.le_trans h.1.1.2 (by decide),h.1.2.1,fun s hs=>Nat.le_trans (h.1.2.2.2 s hs) (by decide),fun y hy=>aCM (h.2.2.2 y hy) hd,Af hd2 (vV (Ed h)),aCN (Ee (d:=d+4) h)⟩
theorem awv{n:Node}(h:si 12 n):mH n=some (ru n) :=
 aqE n (Nat.le_trans h.1.1.1 (by decide)) (fun e=>h.2.1.2.2.1 (by omega)) h.1.2.1 fun y hy=>aCO (d:=5) (h.2.2.2 y hy) (by decide) (by decide)
theorem aum{n:Node}(h:si 12 n)(hs:(iB n).isSome=true):iB n=some ((ru n).n,(ru n).path,(ru n).e) :=
 WZ hs fun hs=>by obtain⟨g1,g2,g3⟩:=akH (e:=5) h (by decide);rw[anw (d:=5) (Ed h) g3 hs,g1]
theorem aqV{a:Node}(h:Sl a)(hs:(iB a).isSome=true):iB a=some (a,[],0) :=
 WZ hs fun hs=>by
  have hd:dp 13 (Ae a).1=true:=by rw[h.fe];exact ax4 (by decide) h.qD
  rw[anw (d:=2) h.qD hd hs,h.again]
end
section
def akI{α:Type}(l:List α):Bool:=Nat.ble l.length 1000000
theorem aAb{α:Type}(l:List α):pE l=akI l:=by
 unfold pE akI;cases h:Nat.ble l.length 1000000 with
 | true=>exact decide_eq_true (anv h)
 | false=>exact decide_eq_false fun h'=>by rw[Nat.ble_eq_true_of_le h']at h;cases h
noncomputable def ab0:jq E:=EM (E:=E) .dw .dw akI Pl.aaM
def amm:FuncId:=26
theorem amn:bE E amm ab0:=by have h:=Q6;unfold Ju at h;rw[show Pl.bn=Pl.aaM from funext Pl.arV,show(pE:List (anP)->Bool)=akI from funext aAb]at h;exact h
def NA:Te ((List (anP))) Empty:=.q (akI [[105,109,97,103,101],[99,111,109,109,97,110,100],[101,110,118,105,114,111,110,109,101,110,116],[108,97,98,101,108,115],[112,111,114,116,115],[118,111,108,117,109,101,115],[110,101,116,119,111,114,107,115],[112,114,111,102,105,108,101,115],[100,101,112,101,110,100,115,95,111,110],[101,120,116,101,110,100,115],[104,101,97,108,116,104,99,104,101,99,107],[114,101,115,116,97,114,116],[115,99,97,108,101],[99,112,117,115],[109,101,109,95,108,105,109,105,116]]) (.k (Pl.aaM [[105,109,97,103,101],[99,111,109,109,97,110,100],[101,110,118,105,114,111,110,109,101,110,116],[108,97,98,101,108,115],[112,111,114,116,115],[118,111,108,117,109,101,115],[110,101,116,119,111,114,107,115],[112,114,111,102,105,108,101,115],[100,101,112,101,110,100,115,95,111,110],[101,120,116,101,110,100,115],[104,101,97,108,116,104,99,104,101,99,107],[114,101,115,116,97,114,116],[115,99,97,108,101],[99,112,117,115],[109,101,109,95,108,105,109,105,116]]))
def NC:=(NA).o
def ab1:=(SB.W 26 ab0 amn).f0 11 [] [.dw] (fun _=>NA) Tryz.func11
def aoj:Te (Bool) Empty:=.c (oQ ⟨3,[],[[111,100,100]],[⟨0,[],[],[]⟩]⟩) fun y1=>.l (aab (y1.2.1==[111,100,100]) (y1.2.2==10)) fun z1=>.c (iB ⟨0,[],[],[]⟩) fun y2=>.l (aab (aab z1 (y2.2.2==0)) ((y2.1).kind==3)) fun z2=>.q ((NC.isSome) || !z2) (.k (aab z2 (aC (gv NC)==15)))
def Xl:=(aoj).o
def aAc:=ab1.f0 6 [] [.bool] (fun _=>aoj) Tryz.func6
theorem aww:Xl=some true:=by kernel_rfl
end
section
def aAd:jq E:=Ng (E:=E) [] [.bool] fun _=>Xl
theorem awx:bE E 6 aAd:=aAc.top (by kernel_rfl)
def Qi:jq E:=Ng (E:=E) [.ah] [.iE] fun a=>mH a
theorem OM:bE E 13 Qi:=PX.top (by kernel_rfl)
def agh:jq E:=Ng (E:=E) [.ah] [.ah,.str,.aY] fun a=>iB a
theorem adT:bE E 12 agh:=SB.top (by kernel_rfl)
def awy(zS zO:Node->Node->Bool)(zT:Node->Node)(zW:Node->Bool)(zM zK:Node->Int->Bool)(zF:Node->Option (Node×(anP)×Int))(zR:Node->Option jr)(zA:Option Bool)(x0:Node):Te (Bool) Empty:=.l (aj x0) fun z1=>.q (zK z1 300) (.b (!(zM z1 300)) (.c zA fun y1=>.k y1) (.c (zF z1) fun y2=>.l (aj (y2.1)) fun z2=>.c (zR z1) fun y3=>.q (zO z2 (aj (y3.n))) (.b (aN (aN (!(zS z2 (aj (y3.n)))) (!(y2.2.1==y3.path))) (y2.2.2 != y3.e)) (.k false) (.b (y2.2.2 != 0) (.c zA fun y4=>.k y4) (.c (zF z2) fun y5=>.l (aab (y5.2.2==0) (y5.2.1==[])) fun z4=>.l (aab z4 (zS z2 (aj (y5.1)))) fun z3=>.l (aab z3 (zS (zT z2) z2)) fun z5=>.q (zO z2 (aj (y5.1)) || !z4) (.q (zW z2 || !z3) (.q (zO (zT z2) z2 || !z3) (.q ((zA.isSome) || !z5) (.k (aab z5 (gv zA)))))))))))
def aCP(zS zO:Node->Node->Bool)(zT:Node->Node)(zW:Node->Bool)(zM zK:Node->Int->Bool)(zF:Node->Option (Node×(anP)×Int))(zR:Node->Option jr)(zA:Option Bool):aI E:=jX [(6,Ng (E:=E) [] [.bool] fun _=>zA),(9,FY (E:=E) .ah .ah .bool zO zS),(5,FY (E:=E) .ah .int .bool zK zM),(14,EM (E:=E) .ah .ah zW zT),(13,Ng (E:=E) [.ah] [.iE] fun a=>zR a),(12,Ng (E:=E) [.ah] [.ah,.str,.aY] fun a=>zF a)]
theorem aF5(zS zO:Node->Node->Bool)(zT:Node->Node)(zW:Node->Bool)(zM zK:Node->Int->Bool)(zF:Node->Option (Node×(anP)×Int))(zR:Node->Option jr)(zA:Option Bool)(a:Node)(G:Nat->av E->Option (List (TV E))):jK (aCP zS zO zT zW zM zK zF zR zA) {} G Tryz.f4 (kD (E:=E) [.ah] a)=(awy zS zO zT zW zM zK zF zR zA a).run (Option (List (TV E))) (fun r=>some (kD (E:=E) [.bool] r)) (fun e=>nomatch e) none:=by kernel_rfl
def ax5:Node->Te (Bool) Empty:=awy (same 15) (Ni 15) (aK 15) (wg 10000 15) Gv adj iB mH Xl
theorem aCQ:aL E (aCP (same 15) (Ni 15) (aK 15) (wg 10000 15) Gv adj iB mH Xl):=gu (.cons awx (.cons (asE 15) (.cons avL (.cons (CZ 15) (.cons OM (.cons adT .nil)))))) .nil .nil .nil
def aqW(x0:Node):Option Bool:=(ax5 x0).o
def ax6:jq E:=Ng (E:=E) [.ah] [.bool] fun a=>aqW a
theorem aCR:bE E 4 ax6:=ahZ (IC Tryz.func4 (by kernel_rfl)) fun a _ h=>KD aCQ mix Tryz.func4 ((aF5 _ _ _ _ _ _ _ _ _ a _).trans (Te.agC h))
end
section
theorem ab2{d:Nat}{n:Node}(h:wr (d+2) n)(i:Nat):wr (d+1) (n.kids.getD i (Df.d:Node)):=by
 rw[List.getD];cases e:n.kids[i]? with
 | none=>exact⟨aas _,aas _,(fun _=>rfl),aas _,(fun k hk=>by cases hk),(fun y hy=>by cases hy)⟩
 | some x=>exact h.2.2.2.2.2 x (ae7 e)
theorem awz{d:Nat}{n:Node}(h:wr (d+1) n):n.keys.length<=300/\(n.kind=3->n.keys.length=n.kids.length)/\TL n.keys:=⟨h.1,fun e=>h.2.2.1 (.inr e),by unfold TL;exact h.2.2.2.2.1⟩
theorem ax7{d:Nat}(hd:d<=491){n:Node}(h:wr d n):W1 n:=by unfold W1 W;have:=ac1 (491-d) h;rwa[show d+(491-d)=491 by omega]at this
theorem aD8{d:Nat}(hd:d<=400){n:Node}(h:wr (d+2) n):H1 n:=by unfold H1;exact⟨awz h,fun i=>ax7 (by omega) (ab2 h i)⟩
theorem aD9{d:Nat}(hd:d<=399){n:Node}(h:wr (d+3) n):H2 n:=by unfold H2;exact⟨awz h,fun i=>aD8 (d:=d) (by omega) (ab2 h i)⟩
theorem aEa{d:Nat}(hd:d<=398){n:Node}(h:wr (d+4) n):H3 n:=by unfold H3;exact⟨awz h,fun i=>⟨ax7 (by omega) (ab2 h i),aD9 (d:=d) (by omega) (ab2 h i)⟩⟩
theorem aCS{α:Type}[Df α]{o:Option α}{Q:α->Prop}(h:Z o Q):∃r,o=some r/\Q r:=by obtain⟨h1,h2⟩:=h;obtain⟨r,rfl⟩:=Option.isSome_iff_exists.1 h1;exact⟨r,rfl,h2⟩
theorem ab3{f:Node->Node->Bool}:∀(l:List Node),(∀x∈l,f x x=true)->Nh f l l=true
 | [],_=>rfl
 | a::t,h=>by unfold Nh;rw[h a aa1,ab3 t fun x hx=>h x (aa6 _ hx)];rfl
theorem afn:∀(n:Nat) (x:Node),dp n x=true->same n x x=true
 | 0,_,h=>by cases h
 | n+1,x,h=>by unfold same;rw[ab3 x.kids fun y hy=>afn n y ((Lm.1 h).2 y hy)];simp
theorem aun{d:Nat}(hd:d<=15){x:Node}(h:wg 10000 d x=true):Ni 15 x x=true/\same 15 x x=true:=by have:=agE (by decide) (Af hd h);exact⟨by simp only[Ni,this,abW],afn 15 x this⟩
theorem afo{d:Nat}(hd:d<=398){n:Node}(h:sn (d+4) n):(iB n).isSome=true:=by obtain⟨r,hr,_⟩:=aCS (afY n (aEa hd (axV h)));rw[hr];rfl
theorem aEb(n:Node):aqW n=some true:=by
 refine dB rfl ?_;simp only[aM,bg,ax5,awy,aV,aww,aG];rw[show adj n (300:Int)=true from rfl,ak];cases h : !(Gv n (300:Int))with
 | true=>rw[cond_true];trivial
 | false =>
  have hsm:Gv n 300=true:=by simpa using h
  have hsi:=awu (by decide) hsm;have hp:=aum hsi (afo (d:=8) (by decide) (Ed hsi));have hl:=(akH (e:=5) hsi (by decide)).2.1;have hz:=aCK (e:=5) hsi (by decide);rw[cond_false,hp,awv hsi];simp only[aG];generalize ru n=s at hl hz ⊢;by_cases he:s.e=0
  ·have sl:=hl he;obtain⟨s1,s2⟩:=aun (d:=9) (by decide) (vV sl.qD);rw[s1,ak,s2,aqV sl (afo (d:=5) (by decide) sl.qD)];simp only[beq_self_eq_true,bne_self_eq_false,abI,cond_false,aG,s1,s2];rw[kg he,cond_false,sl.srt,s1,s2,Af (by decide) (vV sl.qD)];rfl
  ·have e:=hz he;rw[e];have s1:Ni 15 zn zn=true:=rfl;have s2:same 15 zn zn=true:=rfl;rw[s1,ak,s2];simp only[beq_self_eq_true,bne_self_eq_false,abI,cond_false];rw[iI he,cond_true];trivial
def aCT:jq E:=Ng (E:=E) [.ah] [.bool] fun _=>some true
theorem aAe:bE E 4 aCT:=by
 have h:=aCR;unfold ax6 at h;have e:(fun a:Args E [.ah]=>(aqW a:Option (Args E [.bool])))=fun _=>some true:=funext fun a=>aEb a
 rw[e]at h;exact h
end
end Go.Proofs.YtclnniijooeajaaGreatDoor.Rf
namespace Go.Proofs.YtclnniijooeajaaGreatDoor.bA
open Go Go.RowKit Go.Deep
section
def below(w:World):Nat->Nat->Prop:=fun k _=>k<w.heap.size
section
variable {P:Program} {E:Env P}
def Opens(E:Env P)(T:TypeId)(R:List (bP E.Den)->Prop):Prop :=
 ∀{H:Type} (enc:TypeId×Value->H) (w:World) (base:Nat) (spare:Nat->Bool) (held:Bool) (fuel:Nat) (cs:List Value) (x:DataW H×List MemPlace),DataW.trod enc P w base spare held fuel T cs=some x ->
  ∃ds,R ds/\cs.length=ds.length/\∀(j:Nat) v d,cs[j]? = some v->ds[j]? = some d->dU E w (below w) v d
def Qj(E:Env P)(t:E.Ty):Prop:=Opens E (E.tid t) fun ds=>∃x,ds=E.cells t x
theorem one_cell{w:World}{v:Value}{d:bP E.Den}(h:dU E w (below w) v d):∀(j:Nat) u e,[v][j]? = some u->[d][j]? = some e->dU E w (below w) u e:=by
 intro j u e hu he;cases j with
 | zero=>simp at hu he;subst hu;subst he;exact h
 | succ j=>simp at hu
theorem auo{T:TypeId}{k:IntKind}(hT:P.underlying T=some (.int k)):Opens E T fun ds=>∃n,ds=[.int k n]:=by intro H enc w base spare held fuel cs x h;obtain⟨n,rfl,_,_⟩:=DataW.trod_int hT h;exact⟨[.int k n],⟨n,rfl⟩,rfl,one_cell (.int k n)⟩
theorem aup{T:TypeId}(hT:P.underlying T=some .string):Opens E T fun ds=>∃s:anP,ds=[.str s]/\s.length<=maxLen:=by intro H enc w base spare held fuel cs x h;obtain⟨s,rfl,_,hs⟩:=DataW.trod_string hT h;refine⟨[.str s.data.toList],⟨_,rfl,by rw[afd];exact hs⟩,rfl,one_cell ?_⟩;have:=dU.str (E:=E) (w:=w) (ro:=below w) s.data.toList;simpa using this
theorem aol{w:World}{a:Addr}{u:Value}(h:w.cell? a=some u):a.block<w.heap.size:=by
 rcases ahg a.block w.heap.size with hl | hl
 ·exact hl
 ·unfold World.cell? at h;rw[Array.getElem?_eq_none hl]at h;cases h
theorem amo{T:TypeId}{t:E.Ty}(hT:P.underlying T=some (.slice (E.tid t)))(ht:Qj E t)(hC:P.cellsOf (E.tid t)=E.size t):Opens E T fun ds=>∃l,ds=[.slice t l]:=by
 intro H enc w base spare held fuel cs x h;rcases open_slice hT h with⟨rfl,_⟩ | ⟨a,len,cap,m,n,D,Pl,rfl,hb,hl,hm,hmm,hx,hi⟩
 ·exact⟨[.slice t []],⟨[],rfl⟩,rfl,one_cell (.nil t none 0)⟩
 ·have hle:len<=m:=by rw[hmm];split<;>omega
  have hpos:=E.size_pos t;have key:∀i,i<len->∃x:E.Den t, ∀(j:Nat) c,(E.cells t x)[j]? = some c->∃u,w.cell? (a.add (i*E.size t+j))=some u/\dU E w (below w) u c:=by
   intro i hil;obtain⟨cs',hc,htr⟩:=hi i (by omega);rw[hC]at hc;obtain⟨ds,⟨y,rfl⟩,hlen,hd⟩:=ht enc w base spare held n cs' _ htr;obtain⟨_,hcl,hat⟩:=World.cells?_some hc;refine⟨y,fun j c hj=>?_⟩;have hjl:j<E.size t:=by rw[<- E.ji t y];exact(List.getElem?_eq_some_iff.1 hj).1
   have hcj:=hat j hjl;have hv:cs'[j]? = some (cs'[j]'(by omega)):=aac (by omega);refine⟨_,?_,hd j _ c hv hj⟩;rw[<- Go.Deep.add_add,hcj,hv]
  let pick:Nat->E.Den t:=fun i=>if hil:i<len then Classical.choose (key i hil)else E.dflt t
  have hpick:∀i,i<len->∀(j:Nat) c,(E.cells t (pick i))[j]? = some c->∃u,w.cell? (a.add (i*E.size t+j))=some u/\dU E w (below w) u c:=by intro i hil;have:=Classical.choose_spec (key i hil);simpa only [pick,dif_pos hil]using this
  refine⟨[.slice t ((List.range len).map pick)],⟨_,rfl⟩,rfl,one_cell ?_⟩;by_cases h0:len=0
  ·subst h0;exact .nil t _ _
  ·obtain⟨g,off,spot⟩:=a;have hsp:spot=none:=by
    have hc0:0<(E.cells t (pick 0)).length:=by rw[E.ji];exact hpos
    obtain⟨u,hu,_⟩:=hpick 0 (by omega) 0 _ (aac hc0);have:=World.cell?_spot hu;unfold Addr.add at this;split at this
    ·simpa using this
    ·rename_i hne;exact absurd (by simp) hne
   subst hsp;have hlen:((List.range len).map pick).length=len:=by simp
   have at_:∀i x j c,((List.range len).map pick)[i]? = some x->(E.cells t x)[j]? = some c->∃u,w.cell? ⟨g,off+i*E.size t+j,none⟩=some u/\dU E w (below w) u c:=by
    intro i x j c hix hj;have hil:i<len:=by have:=(List.getElem?_eq_some_iff.1 hix).1;simpa using this
    have hx':x=pick i:=by simp[hil]at hix;exact hix.symm
    subst hx';obtain⟨u,hu,hd⟩:=hpick i hil j c hj;rw[show(⟨g,off,none⟩:Addr).add (i*E.size t+j)=⟨g,off+(i*E.size t+j),none⟩from by unfold Addr.add;split<;>simp_all]at hu;rw[<- ajS]at hu;exact⟨u,hu,hd⟩
   have:=dU.slice (E:=E) (w:=w) (ro:=below w) t ((List.range len).map pick) g off cap (fun i j=>(w.cell? ⟨g,off+i*E.size t+j,none⟩).getD undef) (by rw[hlen];exact hl)
    (fun i x j c hix hj=>by obtain⟨u,hu,_⟩:=at_ i x j c hix hj;exact⟨aol hu,by rw[hu];rfl⟩)
    (fun i x j c hix hj=>by obtain⟨u,hu,hd⟩:=at_ i x j c hix hj;simp only[hu,am0];exact hd)
   rw[hlen]at this;exact this
def RAll:List (List (bP E.Den)->Prop)->List (bP E.Den)->Prop
 | [],ds=>ds=[]
 | R::Rs,ds=>∃a b,R a/\ds=a++b/\RAll Rs b
theorem Opens.mono{T:TypeId}{R R':List (bP E.Den)->Prop}(h:Opens E T R)(hR:∀ds,R ds->R' ds):Opens E T R':=by intro H enc w base spare held fuel cs x hx;obtain⟨ds,h1,h2⟩:=h enc w base spare held fuel cs x hx;exact⟨ds,hR ds h1,h2⟩
theorem aAf{H:Type}{enc:TypeId×Value->H}{w:World}{base:Nat}{spare:Nat->Bool}{held:Bool}{t:E.Ty}(ho:Qj E t){v:Value}{d:DataW H}{p:List MemPlace}(hsh:(E.agg t=true/\∃vs,v = .agg vs)\/(E.agg t=false/\v.cells = #[v]))
  (h:DataW.Trod enc P w base spare held (E.tid t) v d p):∃x,uU E w (below w) v t x:=by
 obtain⟨fuel,h⟩:=h;obtain⟨ds,⟨x,rfl⟩,hl,hd⟩:=ho enc w base spare held fuel _ _ h;refine⟨x,?_⟩;rcases hsh with⟨ha,vs,rfl⟩ | ⟨ha,hv⟩
 ·exact .inl ⟨ha,vs,rfl,by simpa[Value.cells]using hl,fun j u e hu he=>hd j u e (by simpa[Value.cells]using hu) he⟩
 ·rw[hv]at hl hd;obtain⟨c,hc⟩:=Sg ((E.ji t x).trans (E.one t ha));refine .inr ⟨ha,c,hc,hd 0 v c rfl (by rw[hc];rfl)⟩
end
end
end Go.Proofs.YtclnniijooeajaaGreatDoor.bA
namespace Go.Proofs.YtclnniijooeajaaGreatDoor.bA
open Go Go.RowKit Go.Deep
section
section
variable {P:Program} {E:Env P}
def za(E:Env P)(b:Nat)(T:TypeId)(R:List (bP E.Den)->Prop):Prop :=
 ∀{H:Type} (enc:TypeId×Value->H) (w:World) (base:Nat) (spare:Nat->Bool) (held:Bool) (fuel:Nat) (cs:List Value) (x:DataW H×List MemPlace),fuel<b->DataW.trod enc P w base spare held fuel T cs=some x ->
  ∃ds,R ds/\cs.length=ds.length/\∀(j:Nat) v d,cs[j]? = some v->ds[j]? = some d->dU E w (below w) v d
theorem aqX{T:TypeId}{R:List (bP E.Den)->Prop}(h:∀b,za E b T R):Opens E T R:=fun enc w base spare held fuel cs x hx=>h (fuel+1) enc w base spare held fuel cs x (Nat.lt_succ_self _) hx
theorem V6{b:Nat}{T:TypeId}{R:List (bP E.Den)->Prop}(h:Opens E T R):za E b T R:=fun enc w base spare held fuel cs x _ hx=>h enc w base spare held fuel cs x hx
theorem amq{T:TypeId}{R:List (bP E.Den)->Prop}:za E 0 T R:=fun _ _ _ _ _ _ _ _ hx _=>absurd hx (Nat.not_lt_zero _)
theorem za.mono{b:Nat}{T:TypeId}{R R':List (bP E.Den)->Prop}(h:za E b T R)(hR:∀ds,R ds->R' ds):za E b T R':=fun enc w base spare held fuel cs x hfb hx=>by obtain⟨ds,h1,h2⟩:=h enc w base spare held fuel cs x hfb hx;exact⟨ds,hR ds h1,h2⟩
theorem akJ{b:Nat}{T:TypeId}{t:E.Ty}(hT:P.underlying T=some (.slice (E.tid t)))(ht:za E b (E.tid t) fun ds=>∃x,ds=E.cells t x)(hC:P.cellsOf (E.tid t)=E.size t):za E b T fun ds=>∃l,ds=[.slice t l]:=by
 intro H enc w base spare held fuel cs x hfb h;rcases DataW.trod_slice hT h with⟨rfl,_⟩ | ⟨a,len,cap,elems,rest,n,hfu,rfl,hx,hb,hl,hm,aG0,hel,_,_⟩
 ·exact⟨[.slice t []],⟨[],rfl⟩,rfl,one_cell (.nil t none 0)⟩
 ·have hpos:=E.size_pos t;have key:∀i,i<len->∃x:E.Den t, ∀(j:Nat) c,(E.cells t x)[j]? = some c->∃u,w.cell? (a.add (i*E.size t+j))=some u/\dU E w (below w) u c:=by
   intro i hil;have hei:=hel i hil;rw[aac (show i<elems.length by omega)]at hei;obtain⟨cs',hc,htr⟩:=Option.bind_eq_some_iff.1 hei;rw[hC]at hc;obtain⟨ds,⟨y,rfl⟩,hlen,hd⟩:=ht enc w base spare held n cs' _ (by omega) htr;obtain⟨_,hcl,hat⟩:=World.cells?_some hc;refine⟨y,fun j c hj=>?_⟩;have hjl:j<E.size t:=by rw[<- E.ji t y];exact(List.getElem?_eq_some_iff.1 hj).1
   have hcj:=hat j hjl;have hv:cs'[j]? = some (cs'[j]'(by omega)):=aac (by omega);refine⟨_,?_,hd j _ c hv hj⟩;rw[<- Go.Deep.add_add,hcj,hv]
  let pick:Nat->E.Den t:=fun i=>if hil:i<len then Classical.choose (key i hil)else E.dflt t
  have hpick:∀i,i<len->∀(j:Nat) c,(E.cells t (pick i))[j]? = some c->∃u,w.cell? (a.add (i*E.size t+j))=some u/\dU E w (below w) u c:=by intro i hil;have:=Classical.choose_spec (key i hil);simpa only [pick,dif_pos hil]using this
  refine⟨[.slice t ((List.range len).map pick)],⟨_,rfl⟩,rfl,one_cell ?_⟩;by_cases h0:len=0
  ·subst h0;exact .nil t _ _
  ·obtain⟨g,off,spot⟩:=a;have hsp:spot=none:=by
    have hc0:0<(E.cells t (pick 0)).length:=by rw[E.ji];exact hpos
    obtain⟨u,hu,_⟩:=hpick 0 (by omega) 0 _ (aac hc0);have:=World.cell?_spot hu;unfold Addr.add at this;split at this
    ·simpa using this
    ·rename_i hne;exact absurd (by simp) hne
   subst hsp;have hlen:((List.range len).map pick).length=len:=by simp
   have at_:∀i x j c,((List.range len).map pick)[i]? = some x->(E.cells t x)[j]? = some c->∃u,w.cell? ⟨g,off+i*E.size t+j,none⟩=some u/\dU E w (below w) u c:=by
    intro i x j c hix hj;have hil:i<len:=by have:=(List.getElem?_eq_some_iff.1 hix).1;simpa using this
    have hx':x=pick i:=by simp[hil]at hix;exact hix.symm
    subst hx';obtain⟨u,hu,hd⟩:=hpick i hil j c hj;rw[show(⟨g,off,none⟩:Addr).add (i*E.size t+j)=⟨g,off+(i*E.size t+j),none⟩from by unfold Addr.add;split<;>simp_all]at hu;rw[<- ajS]at hu;exact⟨u,hu,hd⟩
   have:=dU.slice (E:=E) (w:=w) (ro:=below w) t ((List.range len).map pick) g off cap (fun i j=>(w.cell? ⟨g,off+i*E.size t+j,none⟩).getD undef) (by rw[hlen];exact hl)
    (fun i x j c hix hj=>by obtain⟨u,hu,_⟩:=at_ i x j c hix hj;exact⟨aol hu,by rw[hu];rfl⟩)
    (fun i x j c hix hj=>by obtain⟨u,hu,hd⟩:=at_ i x j c hix hj;simp only[hu,am0];exact hd)
   rw[hlen]at this;exact this
def adU(E:Env P)(b n:Nat):Nat->List Field->List (List (bP E.Den)->Prop)->Prop
 | off,[],[]=>off=n
 | off,f::fs,R::Rs=>f.offset=off/\za E b f.type R/\adU E b n (off+P.cellsOf f.type) fs Rs
 | _,_,_=>False
theorem Tk{H:Type}{enc:TypeId×Value->H}{w:World}{base:Nat}{spare:Nat->Bool}{held:Bool}{b n fuel:Nat}{cs:List Value}(hfb:fuel<b)(hn:cs.length=n):∀(fl:List Field) (Rs:List (List (bP E.Den)->Prop)) (off:Nat),adU E b n off fl Rs ->
  (∀f∈fl, ∃y,DataW.trod enc P w base spare held fuel f.type ((cs.drop f.offset).take (P.cellsOf f.type))=some y) ->
  ∃ds,RAll Rs ds/\(cs.drop off).length=ds.length/\∀(j:Nat) v d,(cs.drop off)[j]? = some v->ds[j]? = some d->dU E w (below w) v d
 | [],[],off,h,_=>by have h:off=n:=h;subst h;exact⟨[],rfl,by simp[hn],fun j v d _ hd=>by simp at hd⟩
 | f::fl,R::Rs,off,h,hf=>by
  obtain⟨ho,hR,hrest⟩:=h;subst ho;obtain⟨y,hy⟩:=hf f aa1;obtain⟨d1,hR1,hl1,hd1⟩:=hR enc w base spare held fuel _ _ hfb hy;obtain⟨d2,hR2,hl2,hd2⟩:=Tk hfb hn fl Rs _ hrest fun g hg=>hf g (aa6 _ hg)
  rw[<- akr]at hl2 hd2;generalize hA:(cs.drop f.offset).take (P.cellsOf f.type)=A at *;generalize hB:(cs.drop f.offset).drop (P.cellsOf f.type)=B at *;have hsplit:cs.drop f.offset=A++B:=by rw[<- hA,<- hB,ahb]
  refine⟨d1++d2,⟨d1,d2,hR1,rfl,hR2⟩,by rw[hsplit,List.length_append,List.length_append,hl1,hl2],fun j v d hv hd=>?_⟩;rw[hsplit]at hv;rcases ahg j d1.length with hj | hj
  ·rw[aeN (by omega)]at hv;rw[aeN hj]at hd;exact hd1 j v d hv hd
  ·rw[aeD (by omega),hl1]at hv;rw[aeD hj]at hd;exact hd2 _ v d hv hd
 | [],_::_,_,h,_=>h.elim
 | _::_,[],_,h,_=>h.elim
theorem agi{b:Nat}{T:TypeId}{fs:Array Field}{Rs:List (List (bP E.Den)->Prop)}(hT:P.underlying T=some (.struct fs))(hF:adU E b (P.cellsOf T) 0 fs.toList Rs):za E (b+1) T (RAll Rs):=by
 intro H enc w base spare held fuel cs x hfb h;obtain⟨xs,n,rfl,rfl,hl,hlen,hf⟩:=DataW.trod_struct hT h;obtain⟨ds,h1,h2,h3⟩:=Tk (enc:=enc) (w:=w) (base:=base) (spare:=spare) (held:=held) (fuel:=n) (by omega) hl fs.toList Rs 0 hF (fun f hf'=>by
  obtain⟨i,hi⟩:=List.getElem?_of_mem hf';have hi':fs[i]? = some f:=by simpa using hi
  have hlt:i<xs.length:=by rw[hlen];exact(Array.getElem?_eq_some_iff.1 hi').1
  exact⟨xs[i],by rw[hf i f hi',aac hlt]⟩)
 exact⟨ds,h1,by simpa using h2,by simpa using h3⟩
end
end
end Go.Proofs.YtclnniijooeajaaGreatDoor.bA
namespace Go.Proofs.YtclnniijooeajaaGreatDoor.Rf
open Go Go.ChangeShapes Go.WideShapes Go.ChangeAt Go.RowKit Go.Proofs.YtclnniijooeajaaGreatDoor.bA
theorem aAg:Qj E .int:=Opens.mono (E:=E) (auo (T:=3) (k:=.i64) (by kernel_rfl)) fun _ ⟨n,h⟩=>⟨n,h⟩
theorem aon:Qj E .str:=Opens.mono (E:=E) (aup (T:=9) (by kernel_rfl)) fun _ ⟨n,h,_⟩=>⟨n,h⟩
theorem auq:Qj E .dw:=Opens.mono (E:=E) (amo (E:=E) (T:=22) (t:=.str) (by kernel_rfl) aon (by kernel_rfl)) fun _ ⟨l,h⟩=>⟨l,h⟩
set_option maxRecDepth 100000 in
theorem akK:Qj E .ah:=aqX fun b=>by
 induction b with
 | zero=>exact amq
 | succ b ih=>exact za.mono (E:=E) (agi (E:=E) (Rs:=[(fun ds=>∃x,ds=E.cells .int x),(fun ds=>∃x,ds=E.cells .str x),(fun ds=>∃x,ds=E.cells .dw x),(fun ds=>∃x,ds=E.cells .nA x)]) Tryz.underlying25 ⟨by kernel_rfl,V6 aAg,by kernel_rfl,V6 aon,by kernel_rfl,V6 auq,by kernel_rfl,za.mono (akJ (E:=E) (T:=23) (t:=.ah) (by kernel_rfl) ih (by kernel_rfl)) fun _ ⟨l,h⟩=>⟨l,h⟩,(by kernel_rfl:0+Tryz.prog.cellsOf 3+Tryz.prog.cellsOf 9+Tryz.prog.cellsOf 22+Tryz.prog.cellsOf 23=Tryz.prog.cellsOf 25)⟩) fun _ ⟨_,_,⟨x0,h0⟩,g0,_,_,⟨x1,h1⟩,g1,_,_,⟨x2,h2⟩,g2,_,_,⟨x3,h3⟩,g3,g4⟩=>⟨(⟨x0,x1,x2,x3⟩:Node),by rw[g0,h0,g1,h1,g2,h2,g3,h3,g4];rfl⟩
theorem own:ownKnob Tryz.prog.godebug=none:=by kernel_rfl
theorem laidOut:laidOutB Tryz.prog=true:=by kernel_rfl
theorem awC{w:World}{ro:Nat->Nat->Prop}{v:Value}{b:Bool}(h:qj E w ro v [⟨.bool,b⟩]):v = .bool b:=by
 rcases h with⟨ha,_⟩ | ⟨_,c,hc,hd⟩
 ·cases ha
 ·have e:c = .bool b:=by
   have:([.bool b]:List (bP E.Den))=[c]:=hc;simpa using this.symm
  subst e;cases hd;rfl
set_option maxRecDepth 100000 in
theorem lifted(os:Os)(started:os.Started)(H:Type)(enc:TypeId×Value->H) :
  ReturnsInHanded {} Tryz.checked os 4 .any (fun w args=>(Rows.schemaFilesSpec.pre enc Tryz.prog Tryz.f4 Rows.schemaFilesRow.domain false w args/\laidMetH Tryz.prog Rows.schemaFilesRow.laid w)/\sizedMet enc Tryz.prog Tryz.f4 (OpenSpec.ofChange Rows.schemaFilesSpec) false w args) (Rows.schemaFilesSpec.post enc Tryz.prog Tryz.f4 false true false false):=by
 refine returnsInHanded_of_change_and (C:=Tryz.checked) (X:=fun w _=>laidMetH Tryz.prog Rows.schemaFilesRow.laid w) (fun _ _ _ hh h=>h.of_heap hh) own started (by kernel_rfl) Tryz.func4
  (ChangeSpec.witness_shaped (enc:=enc) (C:=Tryz.checked) (os:=os) (X:=fun w _=>laidMetH Tryz.prog Rows.schemaFilesRow.laid w) false (World.laidAll Tryz.prog os Rows.schemaFilesRow.laid) #[.agg #[.int .i64 0,.string ⟨#[]⟩,.slice none 0 0,.slice none 0 0]] 8 (World.laidAll_os _ _ _)
   (World.shaped_of_ZipB (by kernel_rfl) (by kernel_rfl)) (by kernel_rfl) (by kernel_rfl) (by kernel_rfl)
   (by rw[MakeChecks.laidMetH_plain _ _ _ (by kernel_rfl)];exact laidMet_laidAll _ (by kernel_rfl) (by kernel_rfl))) ?_
 intro W base args ds gs before hval0 hW _ _ hL _;have hval:∀(j:Nat) t v,Tryz.f4.params[j]? = some t->args[j]? = some v->Value.okWide Tryz.prog W .any base t v:=hval0;have hW':=hW;obtain⟨p,q,hA0,hV,rfl,hfz,hnd⟩:=hW;have hA:DataW.TrodAll enc Tryz.prog W 0 (fun _=>true) true Tryz.f4.params.toList args.toList ds p:=hA0;rw[Tryz.params4]at hA hval;obtain⟨v0,vs0,d0,ds0,p0,q0,hargs,rfl,rfl,h0,r0⟩:=trodAll_cons hA;obtain⟨rfl,rfl,rfl⟩:=trodAll_nil r0;obtain rfl:args = #[v0]:=by cases args;simp_all
 obtain⟨rfl,rfl⟩:=trodVars_none hV;obtain⟨cs0,rfl,_⟩:=okWide_struct Tryz.underlying25 (hval 0 25 v0 rfl rfl);have lt0:∀x∈p0,x.block<W.heap.size:=by obtain⟨m,hm⟩:=h0;exact DataW.trod_lt m _ _ _ hm
 obtain⟨x0,t0⟩:=aAf (E:=E) (t:=.ah) akK (.inl ⟨rfl,_,rfl⟩) h0;clear hA0 hval0;refine(aAe.2 [⟨.ah,x0⟩] [⟨.bool,true⟩] rfl W (below W) [_] ⟨t0,trivial⟩ (fun _ _ h=>h)).mono fun e W' ⟨v,he,bel,hret⟩=>?_
 have hv:=awC hret;subst hv;subst he;exact⟨_,rfl,_,_,_,[],_,[],hW',trodAll_mk1 (shut_bool Tryz.underlying4 _),
  (trodAll_cons_mk (Below.trod laidOut (by kernel_rfl) (of_decide_eq_true (by kernel_rfl)) h0 bel lt0) trodAll_mk0),rfl,bel.frame _,fun h=>by cases h⟩
theorem over:Rows.schemaFilesRow.holds Tryz.pinned (OpenSpec.ofChange Rows.schemaFilesSpec) :=
 OpenClaim.holds_of_wide 4 Tryz.f4 rfl rfl rfl rfl rfl rfl rfl ⟨rfl,rfl,rfl,rfl,rfl⟩ rfl rfl rfl rfl rfl (by kernel_rfl) Tryz.func4 (by kernel_rfl)
  (of_decide_eq_true (by kernel_rfl)) (by unfold Func.isWrapper;first | (rw[if_pos (by decide +kernel)];kernel_rfl) | (rw[if_neg (by decide +kernel)];exact⟨rfl,rfl⟩))
  (fun os started H enc _=>lifted os started H enc)
theorem schemaFiles_proved:Rows.SchemaFilesCardSaid :=
 Claim7.holds_tied_plain_at .later [] [.data,.pinned] true (true, "5eaabc0b90d9a0f78aab311b87f583091d4f8c9d2356998a9423c47df71a69f5") false over (fun _ h=>by cases h) (by kernel_rfl) (fun _ h=>by cases h) schemaFiles_row_tie rfl ⟨rfl,rfl⟩ (by kernel_rfl) rfl
  (fun f fn hf hfn=>by
   obtain rfl:f=4:=Option.some.inj ((show Tryz.prog.funcNamed "longshore/longshorelaw19.SchemaFiles" = some 4 by kernel_rfl).symm.trans hf) |>.symm
   obtain rfl:fn=Tryz.f4:=(Option.some.inj (Tryz.func4.symm.trans hfn)).symm;exact⟨by kernel_rfl,fun j t ht=>by
    rw[Tryz.params4]at ht;have hm:t∈[25]:=by simpa using Array.mem_of_getElem? ht
    have hall:([25].all fun u=>!Tryz.prog.wantsStandIn u)=true:=by kernel_rfl
    exact(show Tryz.prog.wantsStandIn t=false by simpa using afe.1 hall t hm)⟩)
  (by kernel_rfl)
#print axioms schemaFiles_proved
end Go.Proofs.YtclnniijooeajaaGreatDoor.Rf
