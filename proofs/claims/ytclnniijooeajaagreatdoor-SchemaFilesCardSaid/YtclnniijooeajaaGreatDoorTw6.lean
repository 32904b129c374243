/- Part 6 of a proof: the texts P2 X6 X7 X8 D1 X9 M3, one behind the other. -/
import Derived.Test.YtclnniijooeajaaGreatDoorTw1
import Derived.Test.YtclnniijooeajaaGreatDoorTw4
import Derived.Sort.Walk0
import Derived.Test.YtclnniijooeajaaGreatDoorTw5
noncomputable section
namespace Go.Proofs.YtclnniijooeajaaGreatDoor.Rf
open Go Go.RowKit Go.Sort Go.Proofs.YtclnniijooeajaaGreatDoor.bA
def iU(c:Int):Int:=bif(bif decide (97<=c)then decide (c<=122)else false)then 1 else bif(bif decide (65<=c)then decide (c<=90)else false)then 2 else bif(bif decide (48<=c)then decide (c<=57)else false)then 3 else bif c==95 then 4 else bif c==45 then 5 else bif c==46 then 6 else 0
noncomputable def KW:jq E:=EM (E:=E) .byte .int (fun _=>true) iU
def ai0:FuncId:=79
noncomputable def am4:aI E:=jX [] [] [] []
noncomputable def ay7:Hint E:={}
noncomputable def ac8(_G:Nat->av E->Option (List (TV E)))(x0:Int):Option (List (TV E)) :=
 bif(bif(decide ((97:Int)<=x0))then(decide (x0<=(122:Int)))else false)then some [⟨.int,(1:Int)⟩]else(bif(bif(decide ((65:Int)<=x0))then(decide (x0<=(90:Int)))else false)then some [⟨.int,(2:Int)⟩]else(bif(bif(decide ((48:Int)<=x0))then(decide (x0<=(57:Int)))else false)then some [⟨.int,(3:Int)⟩]else(bif(x0==(95:Int))then some [⟨.int,(4:Int)⟩]else(bif(x0==(45:Int))then some [⟨.int,(5:Int)⟩]else(bif(x0==(46:Int))then some [⟨.int,(6:Int)⟩]else some [⟨.int,(0:Int)⟩])))))
theorem ay8(G:Nat->av E->Option (List (TV E)))(x0:Int):jK am4 ay7 G Tryz.f79 [⟨.byte,x0⟩]=ac8 G x0:=by kernel_rfl
theorem ay9:Tryz.prog.funcs[79]? = some Tryz.f79:=by kernel_rfl
theorem aza:(Tryz.f79.name == "runtime.NumGoroutine")=false:=by kernel_rfl
theorem azb:Tryz.f79.body.isNone=false:=by kernel_rfl
theorem avC:aL E am4:=gu .nil .nil .nil .nil
theorem alB(h:∀(x0:Int),ac8 (Gr E Tryz.f79 [⟨.int,iU x0⟩]) x0=some [⟨.int,iU x0⟩]):bE E ai0 KW:=Al avC mix ay9 aza azb (fun x0 _=>(ay8 _ x0).trans (h x0))
theorem Ro:bE E ai0 KW:=alB fun c=>by simp only[ac8,iU];cases(bif decide (97<=c)then decide (c<=122)else false)<;>cases(bif decide (65<=c)then decide (c<=90)else false)<;>cases(bif decide (48<=c)then decide (c<=57)else false)<;>cases c==95<;>cases c==45<;>cases c==46<;>rfl
def Np(f:UInt8->Bool->Bool):anP->Bool->Bool
 | [],_=>true
 | c::t,b=>bif f c b then false else Np f t false
def kc(c:UInt8):Int:=iU ((c.toNat:Int))
def fK(c:UInt8)(b:Bool):Bool:=bif kc c==0 then true else(bif b then decide (3<kc c)else false)
def Cw(c:UInt8)(b:Bool):Bool:=bif(bif(bif kc c==0 then true else kc c==2)then true else kc c==6)then true else(bif b then decide (3<kc c)else false)
def bO(f:UInt8->Bool->Bool)(s:anP):Bool:=bif(bif decide ((s.length:Int)<1)then true else decide ((24:Int)<(s.length:Int)))then false else Np f s true
noncomputable def Rp:jq E:=EM (E:=E) .str .bool (fun _=>true) (bO fK)
def X7:FuncId:=78
noncomputable def Rq:aI E:=jX [(79,KW)] [] [] []
noncomputable def abl:Hint E:={ live:=[(0,[0,3])] }
noncomputable def CV(v0:anP)(v1:Int):av E:=av.mk 33 [(0,.d (.str v0)),(3,.d (.int .i64 v1))] [] 0
noncomputable def Rt(G:Nat->av E->Option (List (TV E)))(x0:anP):Option (List (TV E)) :=
 bif(bif(decide ((x0.length:Int)<(1:Int)))then true else(decide ((24:Int)<(x0.length:Int))))then some [⟨.bool,false⟩]else G 0 (CV x0 0)
theorem apV(G:Nat->av E->Option (List (TV E)))(x0:anP):jK Rq abl G Tryz.f78 [⟨.str,x0⟩]=Rt G x0:=by kernel_rfl
noncomputable def Ja(G:Nat->av E->Option (List (TV E)))(v0:anP)(v1:Int):Option (List (TV E)) :=
 bif(decide (v1<(v0.length:Int)))then(bif(decide ((0:Int)<=v1)&&decide (v1<(v0.length:Int)))then(bif(bif((iU (((List.getD v0 (Int.toNat v1) 0).toNat:Nat):Int))==(0:Int))then true else(bif(v1==(0:Int))then(decide ((3:Int)<(iU (((List.getD v0 (Int.toNat v1) 0).toNat:Nat):Int))))else false))then some [⟨.bool,false⟩]else G 0 (CV v0 (au (v1+(1:Int)))))else none)else some [⟨.bool,true⟩]
theorem alC(G:Nat->av E->Option (List (TV E)))(v0:anP)(v1:Int):uV Rq abl G Tryz.f78 0 (CV v0 v1)=Ja G v0 v1:=by kernel_rfl
theorem apW:Tryz.prog.funcs[78]? = some Tryz.f78:=by kernel_rfl
theorem apX:(Tryz.f78.name == "runtime.NumGoroutine")=false:=by kernel_rfl
theorem apY:Tryz.f78.body.isNone=false:=by kernel_rfl
theorem X8:aL E Rq:=gu (.cons Ro .nil) .nil .nil .nil
theorem X9{res:List (TV E)}{v0:anP}{v1:Int}(h:Ja (Gr E Tryz.f78 res) v0 v1=some res):Ev E Tryz.f78 res 0 (CV v0 v1):=Ev.step X8 mix ((alC _ v0 v1).trans h)
theorem ac9(h:∀(x0:anP),Rt (Gr E Tryz.f78 [⟨.bool,(bO fK) x0⟩]) x0=some [⟨.bool,(bO fK) x0⟩]):bE E X7 Rp:=Al X8 mix apW apX apY (fun x0 _=>(apV _ x0).trans (h x0))
theorem afZ(s:anP)(hs:s.length<=24):∀(m i:Nat),s.length-i=m->i<=s.length ->
  Ev E Tryz.f78 [⟨.bool,Np fK (s.drop i) ((i:Int)==0)⟩] 0 (CV s i):=by
 intro m
 induction m with
 | zero =>intro i h1 h2;refine X9 ?_;simp only[Ja,Jt (show s.length<=i by omega),cond_false,aa7 (show s.length<=i by omega)];rfl
 | succ m ih =>
  intro i h1 h2;have hi:i<s.length:=by omega
  have e3:au ((i:Int)+1)=((i+1:Nat):Int):=by rw[aU (by omega) (by omega)];omega
  refine X9 ?_;simp only[Ja,zQ hi,d0,gd s _ i hi,abW,cond_true,e3];rw[<- aa8 hi];simp only[Np];change (bif fK s[i] ((i:Int)==0)then _ else _)=_;cases fK s[i] ((i:Int)==0)with
  | true=>rfl
  | false =>have:=gK (ih (i+1) (by omega) (by omega));rw[dP (show((i+1:Nat):Int)≠0 by omega)]at this;exact this
theorem alD:bE E X7 Rp:=ac9 fun s=>by
 simp only[Rt,bO];cases hg:(bif decide ((s.length:Int)<1)then true else decide ((24:Int)<(s.length:Int)))with
 | true=>rfl
 | false =>
  have hs:s.length<=24:=by
   by_cases a:(s.length:Int)<1
   ·omega
   ·rw[dF a,cond_false]at hg;have:¬ (24:Int)<(s.length:Int):=by simpa using hg
    omega
  have:=gK (afZ s hs s.length 0 (by omega) (by omega));rw[aeh]at this;exact this
noncomputable def Ru:jq E:=EM (E:=E) .str .bool (fun _=>true) (bO Cw)
def Ya:FuncId:=33
noncomputable def Rv:aI E:=jX [(79,KW)] [] [] []
noncomputable def abm:Hint E:={ live:=[(0,[0,3])] }
noncomputable def CW(v0:anP)(v1:Int):av E:=av.mk 41 [(0,.d (.str v0)),(3,.d (.int .i64 v1))] [] 0
noncomputable def Rw(G:Nat->av E->Option (List (TV E)))(x0:anP):Option (List (TV E)) :=
 bif(bif(decide ((x0.length:Int)<(1:Int)))then true else(decide ((24:Int)<(x0.length:Int))))then some [⟨.bool,false⟩]else G 0 (CW x0 0)
theorem apZ(G:Nat->av E->Option (List (TV E)))(x0:anP):jK Rv abm G Tryz.f33 [⟨.str,x0⟩]=Rw G x0:=by kernel_rfl
noncomputable def Jb(G:Nat->av E->Option (List (TV E)))(v0:anP)(v1:Int):Option (List (TV E)) :=
 bif(decide (v1<(v0.length:Int)))then(bif(decide ((0:Int)<=v1)&&decide (v1<(v0.length:Int)))then(bif(bif(bif(bif((iU (((List.getD v0 (Int.toNat v1) 0).toNat:Nat):Int))==(0:Int))then true else((iU (((List.getD v0 (Int.toNat v1) 0).toNat:Nat):Int))==(2:Int)))then true else((iU (((List.getD v0 (Int.toNat v1) 0).toNat:Nat):Int))==(6:Int)))then true else(bif(v1==(0:Int))then(decide ((3:Int)<(iU (((List.getD v0 (Int.toNat v1) 0).toNat:Nat):Int))))else false))then some [⟨.bool,false⟩]else G 0 (CW v0 (au (v1+(1:Int)))))else none)else some [⟨.bool,true⟩]
theorem alE(G:Nat->av E->Option (List (TV E)))(v0:anP)(v1:Int):uV Rv abm G Tryz.f33 0 (CW v0 v1)=Jb G v0 v1:=by kernel_rfl
theorem ap0:Tryz.prog.funcs[33]? = some Tryz.f33:=by kernel_rfl
theorem ap1:(Tryz.f33.name == "runtime.NumGoroutine")=false:=by kernel_rfl
theorem ap2:Tryz.f33.body.isNone=false:=by kernel_rfl
theorem Yb:aL E Rv:=gu (.cons Ro .nil) .nil .nil .nil
theorem Yc{res:List (TV E)}{v0:anP}{v1:Int}(h:Jb (Gr E Tryz.f33 res) v0 v1=some res):Ev E Tryz.f33 res 0 (CW v0 v1):=Ev.step Yb mix ((alE _ v0 v1).trans h)
theorem ada(h:∀(x0:anP),Rw (Gr E Tryz.f33 [⟨.bool,(bO Cw) x0⟩]) x0=some [⟨.bool,(bO Cw) x0⟩]):bE E Ya Ru:=Al Yb mix ap0 ap1 ap2 (fun x0 _=>(apZ _ x0).trans (h x0))
theorem af0(s:anP)(hs:s.length<=24):∀(m i:Nat),s.length-i=m->i<=s.length ->
  Ev E Tryz.f33 [⟨.bool,Np Cw (s.drop i) ((i:Int)==0)⟩] 0 (CW s i):=by
 intro m
 induction m with
 | zero =>intro i h1 h2;refine Yc ?_;simp only[Jb,Jt (show s.length<=i by omega),cond_false,aa7 (show s.length<=i by omega)];rfl
 | succ m ih =>
  intro i h1 h2;have hi:i<s.length:=by omega
  have e3:au ((i:Int)+1)=((i+1:Nat):Int):=by rw[aU (by omega) (by omega)];omega
  refine Yc ?_;simp only[Jb,zQ hi,d0,gd s _ i hi,abW,cond_true,e3];rw[<- aa8 hi];simp only[Np];change (bif Cw s[i] ((i:Int)==0)then _ else _)=_;cases Cw s[i] ((i:Int)==0)with
  | true=>rfl
  | false =>have:=gK (ih (i+1) (by omega) (by omega));rw[dP (show((i+1:Nat):Int)≠0 by omega)]at this;exact this
theorem alF:bE E Ya Ru:=ada fun s=>by
 simp only[Rw,bO];cases hg:(bif decide ((s.length:Int)<1)then true else decide ((24:Int)<(s.length:Int)))with
 | true=>rfl
 | false =>
  have hs:s.length<=24:=by
   by_cases a:(s.length:Int)<1
   ·omega
   ·rw[dF a,cond_false]at hg;have:¬ (24:Int)<(s.length:Int):=by simpa using hg
    omega
  have:=gK (af0 s hs s.length 0 (by omega) (by omega));rw[aeh]at this;exact this
def LP(c:UInt8)(b:Bool):Bool:=bif(bif kc c==0 then true else decide (4<kc c))then true else(bif b then kc c==3 else false)
noncomputable def NU:jq E:=EM (E:=E) .str .bool (fun _=>true) (bO LP)
def U8:FuncId:=170
noncomputable def NV:aI E:=jX [(79,KW)] [] [] []
noncomputable def Yd:Hint E:={ live:=[(0,[0,3])] }
noncomputable def AU(v0:anP)(v1:Int):av E:=av.mk 37 [(0,.d (.str v0)),(3,.d (.int .i64 v1))] [] 0
noncomputable def NW(G:Nat->av E->Option (List (TV E)))(x0:anP):Option (List (TV E)) :=
 bif(bif(decide ((x0.length:Int)<(1:Int)))then true else(decide ((24:Int)<(x0.length:Int))))then some [⟨.bool,false⟩]else G 0 (AU x0 0)
theorem alG(G:Nat->av E->Option (List (TV E)))(x0:anP):jK NV Yd G Tryz.f170 [⟨.str,x0⟩]=NW G x0:=by kernel_rfl
noncomputable def Gt(G:Nat->av E->Option (List (TV E)))(v0:anP)(v1:Int):Option (List (TV E)) :=
 bif(decide (v1<(v0.length:Int)))then(bif(decide ((0:Int)<=v1)&&decide (v1<(v0.length:Int)))then(bif(bif(bif((iU (((List.getD v0 (Int.toNat v1) 0).toNat:Nat):Int))==(0:Int))then true else(decide ((4:Int)<(iU (((List.getD v0 (Int.toNat v1) 0).toNat:Nat):Int)))))then true else(bif(v1==(0:Int))then((iU (((List.getD v0 (Int.toNat v1) 0).toNat:Nat):Int))==(3:Int))else false))then some [⟨.bool,false⟩]else G 0 (AU v0 (au (v1+(1:Int)))))else none)else some [⟨.bool,true⟩]
theorem ai1(G:Nat->av E->Option (List (TV E)))(v0:anP)(v1:Int):uV NV Yd G Tryz.f170 0 (AU v0 v1)=Gt G v0 v1:=by kernel_rfl
theorem alH:Tryz.prog.funcs[170]? = some Tryz.f170:=by kernel_rfl
theorem alI:(Tryz.f170.name == "runtime.NumGoroutine")=false:=by kernel_rfl
theorem alJ:Tryz.f170.body.isNone=false:=by kernel_rfl
theorem U9:aL E NV:=gu (.cons Ro .nil) .nil .nil .nil
theorem Va{res:List (TV E)}{v0:anP}{v1:Int}(h:Gt (Gr E Tryz.f170 res) v0 v1=some res):Ev E Tryz.f170 res 0 (AU v0 v1):=Ev.step U9 mix ((ai1 _ v0 v1).trans h)
theorem abn(h:∀(x0:anP),NW (Gr E Tryz.f170 [⟨.bool,(bO LP) x0⟩]) x0=some [⟨.bool,(bO LP) x0⟩]):bE E U8 NU:=Al U9 mix alH alI alJ (fun x0 _=>(alG _ x0).trans (h x0))
theorem alK(s:anP)(hs:s.length<=24):∀(m i:Nat),s.length-i=m->i<=s.length ->
  Ev E Tryz.f170 [⟨.bool,Np LP (s.drop i) ((i:Int)==0)⟩] 0 (AU s i):=by
 intro m
 induction m with
 | zero =>intro i h1 h2;refine Va ?_;simp only[Gt,Jt (show s.length<=i by omega),cond_false,aa7 (show s.length<=i by omega)];rfl
 | succ m ih2 =>
  intro i h1 h2;have hi:i<s.length:=by omega
  have e3:au ((i:Int)+1)=((i+1:Nat):Int):=by rw[aU (by omega) (by omega)];omega
  refine Va ?_;simp only[Gt,zQ hi,d0,gd s _ i hi,e3,abW,cond_true];rw[<- aa8 hi];simp only[Np];change (bif LP s[i] ((i:Int)==0)then _ else _)=_;cases LP s[i] ((i:Int)==0)with
  | true=>rfl
  | false =>have:=gK (ih2 (i+1) (by omega) (by omega));rw[dP (show((i+1:Nat):Int)≠0 by omega)]at this;exact this
theorem ai2:bE E U8 NU:=abn fun s=>by
 simp only[NW,bO];cases hg:(bif decide ((s.length:Int)<1)then true else decide ((24:Int)<(s.length:Int)))with
 | true=>rfl
 | false =>
  have hs:s.length<=24:=by
   by_cases a:(s.length:Int)<1
   ·omega
   ·rw[dF a,cond_false]at hg;have:¬ (24:Int)<(s.length:Int):=by simpa using hg
    omega
  have:=gK (alK s hs s.length 0 (by omega) (by omega));rw[aeh]at this;exact this
theorem Vb{f:UInt8->Bool->Bool}{s:anP}(h:bO f s=true):1<=s.length/\s.length<=24:=by
 unfold bO at h;by_cases a:(s.length:Int)<1
 ·rw[dT a]at h;cases h
 ·by_cases b:(24:Int)<(s.length:Int)
  ·rw[dF a,dT b]at h;cases h
  ·omega
def fA(l:List (anP))(s:anP):Bool:=l.any (· == s)
noncomputable def ap3:jq E:=FY (E:=E) .dw .str .bool (fun l _=>pE l) fA
def asn:FuncId:=10
noncomputable def ap4:aI E:=jX [] [] [] []
noncomputable def aw3:Hint E:={ live:=[(0,[0,1,5])] }
noncomputable def Vd(v0:List (anP))(v1:anP)(v2:Int):av E:=av.mk 18 [(0,.d (.slice .str v0)),(1,.d (.str v1)),(5,.d (.int .i64 v2))] [] 0
noncomputable def aw4(G:Nat->av E->Option (List (TV E)))(x0:List (anP))(x1:anP):Option (List (TV E)) :=
 G 0 (Vd x0 x1 0)
theorem aDq(G:Nat->av E->Option (List (TV E)))(x0:List (anP))(x1:anP):jK ap4 aw3 G Tryz.f10 [⟨.dw,x0⟩,⟨.str,x1⟩]=aw4 G x0 x1:=by kernel_rfl
noncomputable def abo(G:Nat->av E->Option (List (TV E)))(v0:List (anP))(v1:anP)(v2:Int):Option (List (TV E)) :=
 bif(decide (v2<(v0.length:Int)))then(bif(decide ((0:Int)<=v2)&&decide (v2<(v0.length:Int)))then(bif((List.getD v0 (Int.toNat v2) (dflt .str))==v1)then some [⟨.bool,true⟩]else G 0 (Vd v0 v1 (au (v2+(1:Int)))))else none)else some [⟨.bool,false⟩]
theorem aBz(G:Nat->av E->Option (List (TV E)))(v0:List (anP))(v1:anP)(v2:Int):uV ap4 aw3 G Tryz.f10 0 (Vd v0 v1 v2)=abo G v0 v1 v2:=by kernel_rfl
theorem aDr:Tryz.prog.funcs[10]? = some Tryz.f10:=by kernel_rfl
theorem aDs:(Tryz.f10.name == "runtime.NumGoroutine")=false:=by kernel_rfl
theorem aDt:Tryz.f10.body.isNone=false:=by kernel_rfl
theorem aso:aL E ap4:=gu .nil .nil .nil .nil
theorem asq{res:List (TV E)}{v0:List (anP)}{v1:anP}{v2:Int}(h:abo (Gr E Tryz.f10 res) v0 v1 v2=some res):Ev E Tryz.f10 res 0 (Vd v0 v1 v2):=Ev.step aso mix ((aBz _ v0 v1 v2).trans h)
theorem asr(h:∀(x0:List (anP)) (x1:anP),(fun l _=>pE l) x0 x1=true->aw4 (Gr E Tryz.f10 [⟨.bool,fA x0 x1⟩]) x0 x1=some [⟨.bool,fA x0 x1⟩]):bE E asn ap3:=Jr aso mix aDr aDs aDt (fun x0 x1 hk=>(aDq _ x0 x1).trans (h x0 x1 hk))
theorem aDu(l:List (anP))(s:anP)(hs:l.length<=1000000):∀(m i:Nat),l.length-i=m->i<=l.length ->
  Ev E Tryz.f10 [⟨.bool,(l.drop i).any (· == s)⟩] 0 (Vd l s i):=by
 intro m
 induction m with
 | zero =>intro i h1 h2;refine asq ?_;simp only[abo,Jt (show l.length<=i by omega),cond_false,aa7 (show l.length<=i by omega)];rfl
 | succ m ih2 =>
  intro i h1 h2;have hi:i<l.length:=by omega
  have e3:au ((i:Int)+1)=((i+1:Nat):Int):=by rw[aU (by omega) (by omega)];omega
  refine asq ?_;simp only[abo,zQ hi,d0,gd l _ i hi,e3,abW,cond_true];rw[<- aa8 hi];rw[aj3];cases l[i]==s with
  | true=>rfl
  | false=>exact gK (ih2 (i+1) (by omega) (by omega))
theorem aBA:bE E asn ap3:=asr fun l s hk=>by have:=gK (aDu l s (wm.1 hk) l.length 0 (by omega) (by omega));rw[aeh]at this;exact this
def Ve(out:List (anP))(x:anP):Bool:=match out.getLast? with
 | none=>true
 | some z=>decide (z<x)
theorem last_at(out:List (anP))(z:anP)(hl:out.length<=1000000):List.getD (out++[z]) (Int.toNat (au ((((out++[z]).length:Nat):Int)-1))) (dflt .str)=z:=by rw[List.length_append,aay,aU (by omega) (by omega),show(((out.length+1:Nat):Int)-1)=(out.length:Int)from by omega,gd _ _ out.length (by simp)];simp
theorem cExpr(out:List (anP))(x:anP)(hl:out.length<=1000000) :
  (bif(((out.length:Nat):Int)==(0:Int))then true else(!(Op.bytesLess x (List.getD out (Int.toNat (au (((out.length:Nat):Int)-1))) (dflt .str))||x==(List.getD out (Int.toNat (au (((out.length:Nat):Int)-1))) (dflt .str)))))=Ve out x:=by
 rcases List.eq_nil_or_concat out with rfl | ⟨o,z,rfl⟩
 ·rfl
 ·rw[List.concat_eq_append]at hl ⊢;rw[last_at o z (by simp at hl;omega),dP (by simp;omega),cond_false,Go.Proofs.bytesLess_eq];unfold Ve;rw[List.getLast?_concat];simp only;rcases Pl.awU z x with h | h | h
  ·have h1:¬ x<z:=Pl.O9 h;have h2:x≠z:=fun e=>by subst e;exact Pl.xW _ h
   simp[h,h1,h2]
  ·subst h;simp[Pl.xW]
  ·have h1:¬ z<x:=Pl.O9 h;simp[h,h1]
theorem aBB(out:List (anP))(hl:out.length<=1000000):((decide ((0:Int)<=(au (((out.length:Nat):Int)-1)))&&decide ((au (((out.length:Nat):Int)-1))<(out.length:Nat))) || !(!(((out.length:Nat):Int)==(0:Int))))=true:=by
 by_cases h:out.length=0
 ·rw[h];rfl
 ·rw[aU (by omega) (by omega),dT (by omega),dT (by omega)];rfl
structure Pre (l out:List (anP)):Prop where
 ss:Pl.SS out
 sub:∀x∈out,x∈l
 low:∀y∈l,y∉out->∀x∈out,x<y
theorem Pre.last{l out:List (anP)}(h:Pre l out){x:anP}(hx:x∈l):Ve out x=true↔x∉out:=by
 unfold Ve;rcases List.eq_nil_or_concat out with rfl | ⟨o,z,rfl⟩
 ·simp
 ·rw[List.concat_eq_append]at h ⊢;rw[List.getLast?_concat];simp only[abK];constructor
  ·intro hz hm;have hs:=h.ss;unfold Pl.SS at hs;rw[List.pairwise_append]at hs;rcases List.mem_append.1 hm with hm | hm
   ·exact Pl.O9 hz (hs.2.2 x hm z (by simp))
   ·have:x=z:=by simpa using hm
    subst this;exact Pl.xW _ hz
  ·exact fun hn=>h.low x hx hn z (by simp)
def lack(l out:List (anP)):Nat:=l.countP fun x=>!decide (x∈out)
theorem aeS(out:List (anP))(z:anP)(hz:z∉out):∀(l:List (anP)),lack l (out++[z])<=lack l out/\(z∈l->lack l (out++[z])+1<=lack l out)
 | []=>⟨abH _,fun h=>by cases h⟩
 | a::t=>by
  obtain⟨h1,h2⟩:=aeS out z hz t;unfold lack at *;simp only[List.countP_cons];by_cases e:a=z
  ·subst e;have k1:(!decide (a∈out++[a]))=false:=by simp
   have k2:(!decide (a∈out))=true:=by simpa using hz
   rw[k1,k2];simp only[Bool.false_eq_true,if_false,if_true];exact⟨by omega,fun _=>by omega⟩
  ·have k:(!decide (a∈out++[z]))=(!decide (a∈out)):=by simp[e]
   rw[k];refine⟨by omega,fun hm=>?_⟩;have:=h2 ((amG.1 hm).resolve_left (fun h=>e h.symm));omega
def Best(l out:List (anP))(i:Nat)(b:Int):Prop :=
 (b = -1/\∀(k:Nat) x,k<i->l[k]? = some x->x∈out)\/∃(j:Nat) (z:anP),j<i/\b=(j:Int)/\l[j]? = some z/\z∉out/\∀(k:Nat) x,k<i->l[k]? = some x->x∉out->z<=x
noncomputable def Nq:jq E:=EM (E:=E) .dw .dw pE Pl.bn
def abp:FuncId:=36
noncomputable def Nr:aI E:=jX [] [] [] []
noncomputable def Vf:Hint E:={ live:=[(0,[0,3]),(1,[0,3,4,5])] }
noncomputable def BN(v0:List (anP))(v1:Nat)(v2:List (anP)):av E:=av.mk 55 [(0,.d (.slice .str v0)),(3,.row .str v1 0)] [(0,.row .str v2)] 1
noncomputable def BO(v0:List (anP))(v1:Nat)(v2 v3:Int)(v4:List (anP)):av E:=av.mk 55 [(0,.d (.slice .str v0)),(3,.row .str v1 0),(4,.d (.int .i64 v2)),(5,.d (.int .i64 v3))] [(0,.row .str v4)] 1
noncomputable def aeT(G:Nat->av E->Option (List (TV E)))(x0:List (anP)):Option (List (TV E)) :=
 G 0 (BN x0 0 [])
theorem asu(G:Nat->av E->Option (List (TV E)))(x0:List (anP)):jK Nr Vf G Tryz.f36 [⟨.dw,x0⟩]=aeT G x0:=by kernel_rfl
noncomputable def Rx(G:Nat->av E->Option (List (TV E)))(v0:List (anP))(v1:Nat)(v2:List (anP)):Option (List (TV E)) :=
 G 1 (BO v0 v1 (-1) 0 v2)
theorem ap5(G:Nat->av E->Option (List (TV E)))(v0:List (anP))(v1:Nat)(v2:List (anP)):uV Nr Vf G Tryz.f36 0 (BN v0 v1 v2)=Rx G v0 v1 v2:=by kernel_rfl
noncomputable def KL(G:Nat->av E->Option (List (TV E)))(v0:List (anP))(v1:Nat)(v2 v3:Int)(v4:List (anP)):Option (List (TV E)) :=
 bif(decide (v3<(v0.length:Int)))then(bif((decide ((0:Int)<=v3)&&decide (v3<(v0.length:Int))) || !(!(((v1:Nat):Int)==(0:Int))))then(bif((decide ((0:Int)<=(au (((v1:Nat):Int)-(1:Int))))&&decide ((au (((v1:Nat):Int)-(1:Int)))<(v1:Nat))) || !(!(((v1:Nat):Int)==(0:Int))))then(bif((decide ((0:Int)<=v3)&&decide (v3<(v0.length:Int))) || !((bif(((v1:Nat):Int)==(0:Int))then true else(!(Op.bytesLess (List.getD v0 (Int.toNat v3) (dflt .str)) (List.getD v4 (Int.toNat (au (((v1:Nat):Int)-(1:Int)))) (dflt .str))||(List.getD v0 (Int.toNat v3) (dflt .str))==(List.getD v4 (Int.toNat (au (((v1:Nat):Int)-(1:Int)))) (dflt .str)))))&&(!(decide (v2<(0:Int))))))then(bif((decide ((0:Int)<=v2)&&decide (v2<(v0.length:Int))) || !((bif(((v1:Nat):Int)==(0:Int))then true else(!(Op.bytesLess (List.getD v0 (Int.toNat v3) (dflt .str)) (List.getD v4 (Int.toNat (au (((v1:Nat):Int)-(1:Int)))) (dflt .str))||(List.getD v0 (Int.toNat v3) (dflt .str))==(List.getD v4 (Int.toNat (au (((v1:Nat):Int)-(1:Int)))) (dflt .str)))))&&(!(decide (v2<(0:Int))))))then(bif(bif(bif(((v1:Nat):Int)==(0:Int))then true else(!(Op.bytesLess (List.getD v0 (Int.toNat v3) (dflt .str)) (List.getD v4 (Int.toNat (au (((v1:Nat):Int)-(1:Int)))) (dflt .str))||(List.getD v0 (Int.toNat v3) (dflt .str))==(List.getD v4 (Int.toNat (au (((v1:Nat):Int)-(1:Int)))) (dflt .str)))))then(bif(decide (v2<(0:Int)))then true else(Op.bytesLess (List.getD v0 (Int.toNat v3) (dflt .str)) (List.getD v0 (Int.toNat v2) (dflt .str))))else false)then G 1 (BO v0 v1 v3 (au (v3+(1:Int))) v4)else G 1 (BO v0 v1 v2 (au (v3+(1:Int))) v4))else none)else none)else none)else none)else(bif(decide (v2<(0:Int)))then some [⟨.dw,v4⟩]else(bif(decide ((0:Int)<=v2)&&decide (v2<(v0.length:Int)))then(bif(decide ((v4.length+([(List.getD v0 (Int.toNat v2) (dflt .str))]:List (anP)).length)*16<=aB))then G 0 (BN v0 (v4.length+([(List.getD v0 (Int.toNat v2) (dflt .str))]:List (anP)).length) (v4++([(List.getD v0 (Int.toNat v2) (dflt .str))]:List (anP))))else none)else none))
theorem ap6(G:Nat->av E->Option (List (TV E)))(v0:List (anP))(v1:Nat)(v2 v3:Int)(v4:List (anP)):uV Nr Vf G Tryz.f36 1 (BO v0 v1 v2 v3 v4)=KL G v0 v1 v2 v3 v4:=by kernel_rfl
theorem asv:Tryz.prog.funcs[36]? = some Tryz.f36:=by kernel_rfl
theorem asw:(Tryz.f36.name == "runtime.NumGoroutine")=false:=by kernel_rfl
theorem asx:Tryz.f36.body.isNone=false:=by kernel_rfl
theorem Ry:aL E Nr:=gu .nil .nil .nil .nil
theorem ap7{res:List (TV E)}{v0:List (anP)}{v1:Nat}{v2:List (anP)}(h:Rx (Gr E Tryz.f36 res) v0 v1 v2=some res):Ev E Tryz.f36 res 0 (BN v0 v1 v2):=Ev.step Ry mix ((ap5 _ v0 v1 v2).trans h)
theorem abq{res:List (TV E)}{v0:List (anP)}{v1:Nat}{v2 v3:Int}{v4:List (anP)}(h:KL (Gr E Tryz.f36 res) v0 v1 v2 v3 v4=some res):Ev E Tryz.f36 res 1 (BO v0 v1 v2 v3 v4):=Ev.step Ry mix ((ap6 _ v0 v1 v2 v3 v4).trans h)
theorem af2(h:∀(x0:List (anP)),pE x0=true->aeT (Gr E Tryz.f36 [⟨.dw,Pl.bn x0⟩]) x0=some [⟨.dw,Pl.bn x0⟩]):bE E abp Nq:=Al Ry mix asv asw asx (fun x0 hk=>(asu _ x0).trans (h x0 hk))
theorem asy(l out:List (anP))(hl:l.length<=1000000)(hp:Pre l out)(hn:out.length+lack l out<=l.length)
  (ih:∀z,Pre l (out++[z])->(out++[z]).length+lack l (out++[z])<=l.length->lack l (out++[z])<lack l out->Ev E Tryz.f36 [⟨.dw,Pl.bn l⟩] 0 (BN l (out++[z]).length (out++[z]))) :
  ∀(m i:Nat) (b:Int),l.length-i=m->i<=l.length->Best l out i b->Ev E Tryz.f36 [⟨.dw,Pl.bn l⟩] 1 (BO l out.length b i out):=by
 have ho:out.length<=1000000:=by omega
 intro m
 induction m with
 | zero =>
  intro i b h1 h2 hb;have e:i=l.length:=by omega
  subst e;refine abq ?_;simp only[KL,Jt (abH l.length),cond_false];rcases hb with⟨rfl,hb⟩ | ⟨j,z,hj,rfl,hz,hzo,hmin⟩
  ·rw[dT (by decide),cond_true,Pl.xX hp.ss fun x=>⟨hp.sub x,fun hx=>?_⟩];obtain⟨k,hk,rfl⟩:=List.mem_iff_getElem.1 hx;exact hb k _ hk (aac hk)
  ·have hzl:l[j]=z:=by rw[aac hj]at hz;exact Option.some.inj hz
   rw[dF (by omega),cond_false,d0,zQ hj,gd l _ j hj,hzl];simp only[abW,cond_true];rw[dT (show(out.length+[z].length)*16<=aB by rw[mb,aay];omega),cond_true];have hmem:z∈l:=by rw[<- hzl];exact aeC hj
   have hlk:=(aeS out z hzo l).2 hmem;have hpre:Pre l (out++[z]):={
    ss:=by
     unfold Pl.SS;rw[List.pairwise_append];exact⟨hp.ss,List.pairwise_singleton _ _,fun x hx y hy=>by
      have:y=z:=by simpa using hy
      subst this;exact hp.low y hmem hzo x hx⟩
    sub:=fun x hx=>by
     rcases List.mem_append.1 hx with hx | hx
     ·exact hp.sub x hx
     ·have:x=z:=by simpa using hx
      subst this;exact hmem
    low:=fun y hy hyo x hx=>by
     have aBC:y∉out:=fun h=>hyo (List.mem_append_left _ h)
     have hyz:y≠z:=fun h=>hyo (by rw[h];simp)
     rcases List.mem_append.1 hx with hx | hx
     ·exact hp.low y hy aBC x hx
     ·have:x=z:=by simpa using hx
      subst this;obtain⟨k,hk,rfl⟩:=List.mem_iff_getElem.1 hy;exact Pl.Sk (hmin k _ hk (aac hk) aBC) (fun h=>hyz h.symm) }
   have:=gK (ih z hpre (by rw[List.length_append,aay];omega) (by omega));rw[List.length_append]at this;exact this
 | succ m ihm =>
  intro i b h1 h2 hb;have hi:i<l.length:=by omega
  have hgi:=aac hi;refine abq ?_;have hlast:=hp.last (aeC hi);have e3:au ((i:Int)+1)=((i+1:Nat):Int):=by rw[aU (by omega) (by omega)];omega
  simp only[KL,zQ hi,d0,gd l _ i hi,cExpr out _ ho,aBB out ho,e3,abW,abZ,cond_true];cases hc:Ve out l[i]with
  | false =>
   have hin:l[i]∈out:=Decidable.byContradiction fun h=>by rw[hlast.2 h]at hc;cases hc
   simp only[ajJ,aem,ahV,cond_true,cond_false];refine gK (ihm (i+1) b (by omega) (by omega) ?_);rcases hb with⟨rfl,hb⟩ | ⟨j,z,hj,rfl,hz,hzo,hmin⟩
   ·refine .inl ⟨rfl,fun k x hk hx=>?_⟩;by_cases hki:k=i
    ·subst hki;rw[hgi]at hx;cases hx;exact hin
    ·exact hb k x (by omega) hx
   ·refine .inr ⟨j,z,by omega,rfl,hz,hzo,fun k x hk hx hxo=>?_⟩;by_cases hki:k=i
    ·subst hki;rw[hgi]at hx;cases hx;exact absurd hin hxo
    ·exact hmin k x (by omega) hx hxo
  | true =>
   have hno:l[i]∉out:=hlast.1 hc;rcases hb with⟨rfl,hb⟩ | ⟨j,z,hj,rfl,hz,hzo,hmin⟩
   ·have hd:decide ((-1:Int)<0)=true:=by decide
    simp only[hd,abI,ajC,aem,ahV,cond_true];refine gK (ihm (i+1) (i:Int) (by omega) (by omega) (.inr ⟨i,l[i],by omega,rfl,hgi,hno,fun k x hk hx hxo=>?_⟩));by_cases hki:k=i
    ·subst hki;rw[hgi]at hx;cases hx;exact Pl.QV.2 (Pl.xW _)
    ·exact absurd (hb k x (by omega) hx) hxo
   ·have hjl:j<l.length:=by omega
    have hzl:l[j]=z:=by rw[aac hjl]at hz;exact Option.some.inj hz
    have hd:decide ((j:Int)<0)=false:=dF (by omega);simp only[hd,d0,zQ hjl,gd l _ j hjl,hzl,aem,abW,abZ,cond_true,cond_false,Go.Proofs.bytesLess_eq];by_cases hlt:l[i]<z
    ·rw[dT hlt,cond_true];refine gK (ihm (i+1) (i:Int) (by omega) (by omega) (.inr ⟨i,l[i],by omega,rfl,hgi,hno,fun k x hk hx hxo=>?_⟩));by_cases hki:k=i
     ·subst hki;rw[hgi]at hx;cases hx;exact Pl.QV.2 (Pl.xW _)
     ·exact Pl.QW (Pl.QV.2 (Pl.O9 hlt)) (hmin k x (by omega) hx hxo)
    ·rw[dF hlt,cond_false];refine gK (ihm (i+1) (j:Int) (by omega) (by omega) (.inr ⟨j,z,by omega,rfl,hz,hzo,fun k x hk hx hxo=>?_⟩));by_cases hki:k=i
     ·subst hki;rw[hgi]at hx;cases hx;exact Pl.QV.2 hlt
     ·exact hmin k x (by omega) hx hxo
theorem asz(l:List (anP))(hl:l.length<=1000000):∀(m:Nat) (out:List (anP)),lack l out=m->Pre l out->out.length+lack l out<=l.length->Ev E Tryz.f36 [⟨.dw,Pl.bn l⟩] 0 (BN l out.length out):=by
 intro m
 induction m using Nat.strongRecOn with
 | ind m ih =>intro out hm hp hn;refine ap7 ?_;simp only[Rx];exact gK (asy l out hl hp hn (fun z h1 h2 h3=>ih (lack l (out++[z])) (by omega) (out++[z]) rfl h1 h2) l.length 0 (-1) (by omega) (by omega) (.inl ⟨rfl,fun k x hk=>by omega⟩))
theorem abr:bE E abp Nq:=af2 fun l hk=>by have hl:=wm.1 hk;have aGZ:lack l []<=l.length:=List.countP_le_length;exact gK (asz l hl _ [] rfl ⟨List.Pairwise.nil,fun x h=>(by cases h),fun y _ _ x h=>(by cases h)⟩ (by rw[List.length_nil];omega))
noncomputable def adb:jq E:=FY (E:=E) .dw .dw .bool (fun a _=>pE a) equal
def ai3:FuncId:=25
noncomputable def ade:aI E:=jX [] [] [] []
noncomputable def am6:Hint E:={ live:=[(0,[0,1,5])] }
noncomputable def LQ(v0 v1:List (anP))(v2:Int):av E:=av.mk 26 [(0,.d (.slice .str v0)),(1,.d (.slice .str v1)),(5,.d (.int .i64 v2))] [] 0
noncomputable def adf(G:Nat->av E->Option (List (TV E)))(x0 x1:List (anP)):Option (List (TV E)) :=
 bif((x0.length:Int)!=(x1.length:Int))then some [⟨.bool,false⟩]else G 0 (LQ x0 x1 0)
theorem azc(G:Nat->av E->Option (List (TV E)))(x0 x1:List (anP)):jK ade am6 G Tryz.f25 [⟨.dw,x0⟩,⟨.dw,x1⟩]=adf G x0 x1:=by kernel_rfl
noncomputable def RA(G:Nat->av E->Option (List (TV E)))(v0 v1:List (anP))(v2:Int):Option (List (TV E)) :=
 bif(decide (v2<(v0.length:Int)))then(bif(decide ((0:Int)<=v2)&&decide (v2<(v0.length:Int)))then(bif(decide ((0:Int)<=v2)&&decide (v2<(v1.length:Int)))then(bif(!((List.getD v0 (Int.toNat v2) (dflt .str))==(List.getD v1 (Int.toNat v2) (dflt .str))))then some [⟨.bool,false⟩]else G 0 (LQ v0 v1 (au (v2+(1:Int)))))else none)else none)else some [⟨.bool,true⟩]
theorem avD(G:Nat->av E->Option (List (TV E)))(v0 v1:List (anP))(v2:Int):uV ade am6 G Tryz.f25 0 (LQ v0 v1 v2)=RA G v0 v1 v2:=by kernel_rfl
theorem azd:Tryz.prog.funcs[25]? = some Tryz.f25:=by kernel_rfl
theorem aze:(Tryz.f25.name == "runtime.NumGoroutine")=false:=by kernel_rfl
theorem azf:Tryz.f25.body.isNone=false:=by kernel_rfl
theorem ai4:aL E ade:=gu .nil .nil .nil .nil
theorem ai5{res:List (TV E)}{v0 v1:List (anP)}{v2:Int}(h:RA (Gr E Tryz.f25 res) v0 v1 v2=some res):Ev E Tryz.f25 res 0 (LQ v0 v1 v2):=Ev.step ai4 mix ((avD _ v0 v1 v2).trans h)
theorem alL(h:∀(x0:List (anP)) (x1:List (anP)),(fun a _=>pE a) x0 x1=true->adf (Gr E Tryz.f25 [⟨.bool,equal x0 x1⟩]) x0 x1=some [⟨.bool,equal x0 x1⟩]):bE E ai3 adb:=Jr ai4 mix azd aze azf (fun x0 x1 hk=>(azc _ x0 x1).trans (h x0 x1 hk))
theorem ap8(a b:List (anP))(ha:a.length<=1000000)(hab:a.length=b.length):∀(m i:Nat),a.length-i=m->i<=a.length->Ev E Tryz.f25 [⟨.bool,a.drop i==b.drop i⟩] 0 (LQ a b i):=by
 intro m
 induction m with
 | zero =>intro i h1 h2;refine ai5 ?_;simp only[RA,Jt (show a.length<=i by omega),cond_false,aa7 (show a.length<=i by omega),aa7 (show b.length<=i by omega)];rfl
 | succ m ih =>
  intro i h1 h2;have hi:i<a.length:=by omega
  have hj:i<b.length:=by omega
  refine ai5 ?_;simp only[RA,zQ hi,zQ hj,d0,gd a _ i hi,gd b _ i hj,abW,cond_true];rw[<- aa8 hi,<- aa8 hj,aU (by omega) (by omega)];by_cases hs:a[i]=b[i]
  ·have e:(a[i]::a.drop (i+1)==b[i]::b.drop (i+1))=(a.drop (i+1)==b.drop (i+1)):=by rw[List.cons_beq_cons];simp[hs]
   rw[e,show(a[i]==b[i])=true from by simpa using hs];exact gK (ih (i+1) (by omega) (by omega))
  ·have e:(a[i]::a.drop (i+1)==b[i]::b.drop (i+1))=false:=by rw[List.cons_beq_cons];simp[hs]
   rw[e,show(a[i]==b[i])=false from by simpa using hs];rfl
theorem avE:bE E ai3 adb:=alL fun a b hk=>by
 simp only[adf];by_cases h:a.length=b.length
 ·rw[kg (by omega),cond_false];have:=ap8 a b (wm.1 hk) h a.length 0 (by omega) (by omega);rw[aeh,aeh]at this;exact gK this
 ·rw[iI (by omega),cond_true];have:equal a b=false:=by simp only[equal,afb];exact fun e=>h (by rw[e])
  rw[this]
noncomputable def abt:jq E:=ape (E:=E) .ah .str .ah .bool (fun n _=>fit n) aJ aD
def am7:FuncId:=37
noncomputable def ai6:aI E:=jX [] [] [] []
noncomputable def asA:Hint E:={ live:=[(0,[1,2,4,6])] }
noncomputable def Pn(v0:anP)(v1 v2:Int)(v3:anP)(v4:List (anP))(v5:List Node)(v6:Int)(v7:anP):av E:=av.mk 30 [(1,.d (.str v0)),(2,.ptr 0 0),(4,.ptr 1 0),(6,.d (.int .i64 v1))] [(0,.box [.d (.int .i64 v2),.d (.str v3),.d (.slice .str v4),.d (.slice .ah v5)]),(1,.box [.d (.int .i64 v6),.d (.str v7),.d (.raw (.slice none 0 0)),.d (.raw (.slice none 0 0))])] 2
noncomputable def abu(G:Nat->av E->Option (List (TV E)))(x0:Node)(x1:anP):Option (List (TV E)) :=
 bif(x0.kind==(3:Int))then G 0 (Pn x1 0 x0.kind x0.text x0.keys x0.kids 0 [])else some [⟨.ah,(⟨0,[],[],[]⟩:Node)⟩,⟨.bool,false⟩]
theorem aBD(G:Nat->av E->Option (List (TV E)))(x0:Node)(x1:anP):jK ai6 asA G Tryz.f37 [⟨.ah,x0⟩,⟨.str,x1⟩]=abu G x0 x1:=by kernel_rfl
noncomputable def WU(G:Nat->av E->Option (List (TV E)))(v0:anP)(v1 v2:Int)(v3:anP)(v4:List (anP))(v5:List Node)(v6:Int)(v7:anP):Option (List (TV E)) :=
 bif(decide (v1<(v4.length:Int)))then(bif(decide ((0:Int)<=v1)&&decide (v1<(v4.length:Int)))then(bif((List.getD v4 (Int.toNat v1) (dflt .str))==v0)then(bif(decide ((0:Int)<=v1)&&decide (v1<(v5.length:Int)))then some [⟨.ah,(⟨(List.getD v5 (Int.toNat v1) (dflt .ah)).kind,(List.getD v5 (Int.toNat v1) (dflt .ah)).text,(List.getD v5 (Int.toNat v1) (dflt .ah)).keys,(List.getD v5 (Int.toNat v1) (dflt .ah)).kids⟩:Node)⟩,⟨.bool,true⟩]else none)else G 0 (Pn v0 (au (v1+(1:Int))) v2 v3 v4 v5 v6 v7))else none)else some [⟨.ah,(⟨0,[],[],[]⟩:Node)⟩,⟨.bool,false⟩]
theorem azg(G:Nat->av E->Option (List (TV E)))(v0:anP)(v1 v2:Int)(v3:anP)(v4:List (anP))(v5:List Node)(v6:Int)(v7:anP):uV ai6 asA G Tryz.f37 0 (Pn v0 v1 v2 v3 v4 v5 v6 v7)=WU G v0 v1 v2 v3 v4 v5 v6 v7:=by kernel_rfl
theorem aBE:Tryz.prog.funcs[37]? = some Tryz.f37:=by kernel_rfl
theorem aBF:(Tryz.f37.name == "runtime.NumGoroutine")=false:=by kernel_rfl
theorem aBG:Tryz.f37.body.isNone=false:=by kernel_rfl
theorem am8:aL E ai6:=gu .nil .nil .nil .nil
theorem am9{res:List (TV E)}{v0:anP}{v1 v2:Int}{v3:anP}{v4:List (anP)}{v5:List Node}{v6:Int}{v7:anP}(h:WU (Gr E Tryz.f37 res) v0 v1 v2 v3 v4 v5 v6 v7=some res):Ev E Tryz.f37 res 0 (Pn v0 v1 v2 v3 v4 v5 v6 v7):=Ev.step am8 mix ((azg _ v0 v1 v2 v3 v4 v5 v6 v7).trans h)
theorem ap9(h:∀(x0:Node) (x1:anP),(fun n _=>fit n) x0 x1=true->abu (Gr E Tryz.f37 [⟨.ah,aJ x0 x1⟩,⟨.bool,aD x0 x1⟩]) x0 x1=some [⟨.ah,aJ x0 x1⟩,⟨.bool,aD x0 x1⟩]):bE E am7 abt:=amC am8 mix aBE aBF aBG (fun x0 x1 hk=>(aBD _ x0 x1).trans (h x0 x1 hk))
theorem azh(keys:List (anP))(kids:List Node)(k:anP)(hl:keys.length=kids.length)(i:Nat)(hi:i<keys.length):lk (keys.drop i) (kids.drop i) k=if k=keys[i]then some (kids[i]'(by omega))else lk (keys.drop (i+1)) (kids.drop (i+1)) k:=by rw[<- aa8 hi,<- aa8 (show i<kids.length by omega)];rfl
theorem asB(n:Node)(k:anP)(hl:n.keys.length=n.kids.length)(hb:n.keys.length<=1000000)(u0:Int)(u1:anP):∀(m i:Nat),n.keys.length-i=m->i<=n.keys.length ->
  Ev E Tryz.f37 [⟨.ah,(lk (n.keys.drop i) (n.kids.drop i) k).getD zn⟩,⟨.bool,(lk (n.keys.drop i) (n.kids.drop i) k).isSome⟩] 0 (Pn k i n.kind n.text n.keys n.kids u0 u1):=by
 intro m
 induction m with
 | zero =>intro i h1 h2;refine am9 ?_;simp only[WU,Jt (show n.keys.length<=i by omega),cond_false,aa7 (show n.keys.length<=i by omega)];rfl
 | succ m ih =>
  intro i h1 h2;have hi:i<n.keys.length:=by omega
  have hj:i<n.kids.length:=by omega
  refine am9 ?_;simp only[WU,zQ hi,zQ hj,d0,gd n.keys _ i hi,gd n.kids _ i hj,abW,cond_true,fO];rw[azh n.keys n.kids k hl i hi];by_cases e:k=n.keys[i]
  ·rw[if_pos e,show(n.keys[i]==k)=true from by simp[e]];rfl
  ·rw[if_neg e,show(n.keys[i]==k)=false from by simpa using fun h=>e h.symm,cond_false,aU (by omega) (by omega)];exact gK (ih (i+1) (by omega) (by omega))
theorem ana:bE E am7 abt:=ap9 fun n k hk=>by
 have hf:=rV.1 hk;unfold aJ aD get;by_cases h:n.kind=3
 ·simp only[abu,iX h,cond_true,if_pos h];have:=gK (asB n k (hf.2 h) hf.1.1 0 [] n.keys.length 0 (by omega) (by omega));rw[aeh,aeh]at this;exact this
 ·simp only[abu,dP h,cond_false,if_neg h];rfl
noncomputable def Ey(n:Nat):jq E:=FY (E:=E) .ah .ah .bool (Ni n) (same n)
def EP:FuncId:=9
noncomputable def Zl(n:Nat):aI E:=jX [(25,adb),(9,Ey n)] [] [] []
noncomputable def ai7:Hint E:={ live:=[(0,[2,3,5])] }
noncomputable def JA(v0 v1:Int)(v2:anP)(v3:List (anP))(v4:List Node)(v5:Int)(v6:anP)(v7:List (anP))(v8:List Node):av E:=av.mk 54 [(2,.ptr 0 0),(3,.ptr 1 0),(5,.d (.int .i64 v0))] [(0,.box [.d (.int .i64 v1),.d (.str v2),.d (.slice .str v3),.d (.slice .ah v4)]),(1,.box [.d (.int .i64 v5),.d (.str v6),.d (.slice .str v7),.d (.slice .ah v8)])] 2
noncomputable def Zm(_n:Nat)(G:Nat->av E->Option (List (TV E)))(x0 x1:Node):Option (List (TV E)) :=
 bif(((fun a _=>pE a) x0.keys x1.keys) || !(!(bif(x0.kind != x1.kind)then true else(!(x0.text==x1.text)))))then(bif(bif(bif(bif(x0.kind != x1.kind)then true else(!(x0.text==x1.text)))then true else(!(equal x0.keys x1.keys)))then true else((x0.kids.length:Int)!=(x1.kids.length:Int)))then some [⟨.bool,false⟩]else G 0 (JA 0 x0.kind x0.text x0.keys x0.kids x1.kind x1.text x1.keys x1.kids))else none
theorem avF(n:Nat)(G:Nat->av E->Option (List (TV E)))(x0 x1:Node):jK (Zl n) ai7 G Tryz.f9 [⟨.ah,x0⟩,⟨.ah,x1⟩]=Zm n G x0 x1:=by kernel_rfl
noncomputable def Ns(n:Nat)(G:Nat->av E->Option (List (TV E)))(v0 v1:Int)(v2:anP)(v3:List (anP))(v4:List Node)(v5:Int)(v6:anP)(v7:List (anP))(v8:List Node):Option (List (TV E)) :=
 bif(decide (v0<(v4.length:Int)))then(bif(decide ((0:Int)<=v0)&&decide (v0<(v4.length:Int)))then(bif(decide ((0:Int)<=v0)&&decide (v0<(v8.length:Int)))then(bif((Ni n) (⟨(List.getD v4 (Int.toNat v0) (dflt .ah)).kind,(List.getD v4 (Int.toNat v0) (dflt .ah)).text,(List.getD v4 (Int.toNat v0) (dflt .ah)).keys,(List.getD v4 (Int.toNat v0) (dflt .ah)).kids⟩:Node) (⟨(List.getD v8 (Int.toNat v0) (dflt .ah)).kind,(List.getD v8 (Int.toNat v0) (dflt .ah)).text,(List.getD v8 (Int.toNat v0) (dflt .ah)).keys,(List.getD v8 (Int.toNat v0) (dflt .ah)).kids⟩:Node))then(bif(!((same n) (⟨(List.getD v4 (Int.toNat v0) (dflt .ah)).kind,(List.getD v4 (Int.toNat v0) (dflt .ah)).text,(List.getD v4 (Int.toNat v0) (dflt .ah)).keys,(List.getD v4 (Int.toNat v0) (dflt .ah)).kids⟩:Node) (⟨(List.getD v8 (Int.toNat v0) (dflt .ah)).kind,(List.getD v8 (Int.toNat v0) (dflt .ah)).text,(List.getD v8 (Int.toNat v0) (dflt .ah)).keys,(List.getD v8 (Int.toNat v0) (dflt .ah)).kids⟩:Node)))then some [⟨.bool,false⟩]else G 0 (JA (au (v0+(1:Int))) v1 v2 v3 v4 v5 v6 v7 v8))else none)else none)else none)else some [⟨.bool,true⟩]
theorem asC(n:Nat)(G:Nat->av E->Option (List (TV E)))(v0 v1:Int)(v2:anP)(v3:List (anP))(v4:List Node)(v5:Int)(v6:anP)(v7:List (anP))(v8:List Node):uV (Zl n) ai7 G Tryz.f9 0 (JA v0 v1 v2 v3 v4 v5 v6 v7 v8)=Ns n G v0 v1 v2 v3 v4 v5 v6 v7 v8:=by kernel_rfl
theorem ai8:Tryz.prog.funcs[9]? = some Tryz.f9:=by kernel_rfl
theorem ai9:(Tryz.f9.name == "runtime.NumGoroutine")=false:=by kernel_rfl
theorem aja:Tryz.f9.body.isNone=false:=by kernel_rfl
theorem asD:∃fn,Tryz.prog.funcs[9]? = some fn/\(fn.name == "runtime.NumGoroutine")=false/\fn.body.isNone=false:=⟨Tryz.f9,ai8,ai9,aja⟩
theorem aeU(n:Nat)(ih:bE E EP (Ey n)):aL E (Zl n):=gu (.cons avE (.cons ih .nil)) .nil .nil .nil
theorem aeV(n:Nat)(ih:bE E EP (Ey n)){res:List (TV E)}{v0 v1:Int}{v2:anP}{v3:List (anP)}{v4:List Node}{v5:Int}{v6:anP}{v7:List (anP)}{v8:List Node}(h:Ns n (Gr E Tryz.f9 res) v0 v1 v2 v3 v4 v5 v6 v7 v8=some res):Ev E Tryz.f9 res 0 (JA v0 v1 v2 v3 v4 v5 v6 v7 v8):=Ev.step (aeU n ih) mix ((asC n _ v0 v1 v2 v3 v4 v5 v6 v7 v8).trans h)
theorem ajb(n:Nat)(ih:bE E EP (Ey n))(h:∀(x0:Node) (x1:Node),(Ni (n+1)) x0 x1=true->Zm n (Gr E Tryz.f9 [⟨.bool,(same (n+1)) x0 x1⟩]) x0 x1=some [⟨.bool,(same (n+1)) x0 x1⟩]):bE E EP (Ey (n+1)):=Jr (aeU n ih) mix ai8 ai9 aja (fun x0 x1 hk=>(avF n _ x0 x1).trans (h x0 x1 hk))
theorem alM(n:Nat)(ih:bE E EP (Ey n))(x y:Node)(ha:x.kids.length<=1000000)(hab:x.kids.length=y.kids.length)(hda:∀z∈x.kids,dp n z=true)(hdb:∀z∈y.kids,dp n z=true):∀(m i:Nat),x.kids.length-i=m->i<=x.kids.length ->
  Ev E Tryz.f9 [⟨.bool,Nh (same n) (x.kids.drop i) (y.kids.drop i)⟩] 0 (JA i x.kind x.text x.keys x.kids y.kind y.text y.keys y.kids):=by
 intro m
 induction m with
 | zero =>intro i h1 h2;refine aeV n ih ?_;simp only[Ns,Jt (show x.kids.length<=i by omega),cond_false,aa7 (show x.kids.length<=i by omega),aa7 (show y.kids.length<=i by omega)];rfl
 | succ m ih2 =>
  intro i h1 h2;have hi:i<x.kids.length:=by omega
  have hj:i<y.kids.length:=by omega
  have hok:Ni n x.kids[i] y.kids[i]=true:=by simp only[Ni,hda _ (aeC hi),hdb _ (aeC hj),abW]
  refine aeV n ih ?_;simp only[Ns,zQ hi,zQ hj,d0,gd x.kids _ i hi,gd y.kids _ i hj,abW,cond_true,fO,hok];rw[<- aa8 hi,<- aa8 hj,aU (by omega) (by omega)];simp only[Nh];cases same n x.kids[i] y.kids[i]with
  | false=>rfl
  | true =>simp only[abI,cond_false,aeP];exact gK (ih2 (i+1) (by omega) (by omega))
theorem asE(n:Nat):bE E EP (Ey n):=by
 induction n with
 | zero=>exact ayo asD fun x y=>rfl
 | succ n ih =>
  refine ajb n ih fun a b hk=>?_
  simp only[Ni,abG]at hk;obtain⟨ha,ha2⟩:=Lm.1 hk.1;obtain⟨hb,hb2⟩:=Lm.1 hk.2;have hl:pE a.keys=true:=wm.2 ha.1;simp only[Zm,hl,abZ,cond_true,same,equal];by_cases h1:a.kind=b.kind
  ·rw[kg h1,iX h1];cases a.text==b.text with
   | false=>rfl
   | true =>
    cases a.keys==b.keys with
    | false=>rfl
    | true =>
     simp only[abI,cond_false,aeP];by_cases hlen:a.kids.length=b.kids.length
     ·rw[kg (by omega),cond_false];have:=gK (alM n ih a b ha.2 hlen ha2 hb2 a.kids.length 0 (by omega) (by omega));rw[aeh,aeh]at this;exact this
     ·rw[iI (by omega),cond_true,aeB hlen]
  ·rw[iI h1,dP h1];rfl
def aK:Nat->Node->Node
 | 0,x=>x
 | n+1,x=>bif x.kind==3 then⟨x.kind,x.text,Pl.bn x.keys,(Pl.bn x.keys).map fun k=>aK n (aJ x k)⟩else⟨x.kind,x.text,[],x.kids.map (aK n)⟩
noncomputable def kT(n:Nat):jq E:=EM (E:=E) .ah .ah (wg 10000 n) (aK n)
def rT:FuncId:=14
noncomputable def KM(n:Nat):aI E:=jX [(36,Nq),(37,abt),(14,kT n)] [] [] []
noncomputable def RD:Hint E:={ live:=[(0,[1,2,3,4,5]),(1,[1,2,3,8])],oO:=[(0,[(3,some 2,true,.str),(3,some 3,true,.ah)]),(1,[(3,some 3,true,.ah)])] }
noncomputable def CX(v0:List (anP))(v1 v2:Int)(v3:anP)(v4:List (anP))(v5:List Node)(v6:Int)(v7:anP)(v8:Int)(v9:anP)(v10:List (anP))(v11:List Node):av E:=av.mk 71 [(1,.ptr 0 0),(2,.ptr 1 0),(3,.ptr 2 0),(4,.d (.slice .str v0)),(5,.d (.int .i64 v1))] [(0,.box [.d (.int .i64 v2),.d (.str v3),.d (.slice .str v4),.d (.slice .ah v5)]),(1,.box [.d (.int .i64 v6),.d (.str v7),.d (.raw (.slice none 0 0)),.d (.raw (.slice none 0 0))]),(2,.box [.d (.int .i64 v8),.d (.str v9),.grow .str v10 3,.grow .ah v11 4]),(3,.tail true),(4,.tail true)] 5
noncomputable def CY(v0 v1:Int)(v2:anP)(v3:List (anP))(v4:List Node)(v5:Int)(v6:anP)(v7:Int)(v8:anP)(v9:List Node):av E:=av.mk 71 [(1,.ptr 0 0),(2,.ptr 1 0),(3,.ptr 2 0),(8,.d (.int .i64 v0))] [(0,.box [.d (.int .i64 v1),.d (.str v2),.d (.slice .str v3),.d (.slice .ah v4)]),(1,.box [.d (.int .i64 v5),.d (.str v6),.d (.raw (.slice none 0 0)),.d (.raw (.slice none 0 0))]),(2,.box [.d (.int .i64 v7),.d (.str v8),.d (.raw (.slice none 0 0)),.grow .ah v9 3]),(3,.tail true)] 4
noncomputable def RF(_n:Nat)(G:Nat->av E->Option (List (TV E)))(x0:Node):Option (List (TV E)) :=
 bif(x0.kind==(3:Int))then(bif(pE x0.keys)then G 0 (CX (Pl.bn x0.keys) 0 x0.kind x0.text x0.keys x0.kids 0 [] x0.kind x0.text [] [])else none)else G 1 (CY 0 x0.kind x0.text x0.keys x0.kids 0 [] x0.kind x0.text [])
theorem aqa(n:Nat)(G:Nat->av E->Option (List (TV E)))(x0:Node):jK (KM n) RD G Tryz.f14 [⟨.ah,x0⟩]=RF n G x0:=by kernel_rfl
noncomputable def Jc(n:Nat)(G:Nat->av E->Option (List (TV E)))(v0:List (anP))(v1 v2:Int)(v3:anP)(v4:List (anP))(v5:List Node)(v6:Int)(v7:anP)(v8:Int)(v9:anP)(v10:List (anP))(v11:List Node):Option (List (TV E)) :=
 bif(decide (v1<(v0.length:Int)))then(bif(decide ((0:Int)<=v1)&&decide (v1<(v0.length:Int)))then(bif((fun n _=>fit n) (⟨v2,v3,v4,v5⟩:Node) (List.getD v0 (Int.toNat v1) (dflt .str)))then(bif(decide ((0:Int)<=v1)&&decide (v1<(v0.length:Int)))then(bif(decide ((v10.length+([(List.getD v0 (Int.toNat v1) (dflt .str))]:List (anP)).length)*16<=aB))then(bif((wg 10000 n) (⟨(aJ ⟨v2,v3,v4,v5⟩ (List.getD v0 (Int.toNat v1) (dflt .str))).kind,(aJ ⟨v2,v3,v4,v5⟩ (List.getD v0 (Int.toNat v1) (dflt .str))).text,(aJ ⟨v2,v3,v4,v5⟩ (List.getD v0 (Int.toNat v1) (dflt .str))).keys,(aJ ⟨v2,v3,v4,v5⟩ (List.getD v0 (Int.toNat v1) (dflt .str))).kids⟩:Node))then(bif(decide ((v11.length+([((aK n) (⟨(aJ ⟨v2,v3,v4,v5⟩ (List.getD v0 (Int.toNat v1) (dflt .str))).kind,(aJ ⟨v2,v3,v4,v5⟩ (List.getD v0 (Int.toNat v1) (dflt .str))).text,(aJ ⟨v2,v3,v4,v5⟩ (List.getD v0 (Int.toNat v1) (dflt .str))).keys,(aJ ⟨v2,v3,v4,v5⟩ (List.getD v0 (Int.toNat v1) (dflt .str))).kids⟩:Node))]:List Node).length)*72<=aB))then G 0 (CX v0 (au (v1+(1:Int))) v2 v3 v4 v5 v6 v7 v8 v9 (v10++([(List.getD v0 (Int.toNat v1) (dflt .str))]:List (anP))) (v11++([((aK n) (⟨(aJ ⟨v2,v3,v4,v5⟩ (List.getD v0 (Int.toNat v1) (dflt .str))).kind,(aJ ⟨v2,v3,v4,v5⟩ (List.getD v0 (Int.toNat v1) (dflt .str))).text,(aJ ⟨v2,v3,v4,v5⟩ (List.getD v0 (Int.toNat v1) (dflt .str))).keys,(aJ ⟨v2,v3,v4,v5⟩ (List.getD v0 (Int.toNat v1) (dflt .str))).kids⟩:Node))]:List Node)))else none)else none)else none)else none)else none)else none)else some [⟨.ah,(⟨v8,v9,v10,v11⟩:Node)⟩]
theorem alN(n:Nat)(G:Nat->av E->Option (List (TV E)))(v0:List (anP))(v1 v2:Int)(v3:anP)(v4:List (anP))(v5:List Node)(v6:Int)(v7:anP)(v8:Int)(v9:anP)(v10:List (anP))(v11:List Node):uV (KM n) RD G Tryz.f14 0 (CX v0 v1 v2 v3 v4 v5 v6 v7 v8 v9 v10 v11)=Jc n G v0 v1 v2 v3 v4 v5 v6 v7 v8 v9 v10 v11:=by kernel_rfl
noncomputable def Jd(n:Nat)(G:Nat->av E->Option (List (TV E)))(v0 v1:Int)(v2:anP)(v3:List (anP))(v4:List Node)(v5:Int)(v6:anP)(v7:Int)(v8:anP)(v9:List Node):Option (List (TV E)) :=
 bif(decide (v0<(v4.length:Int)))then(bif(decide ((0:Int)<=v0)&&decide (v0<(v4.length:Int)))then(bif((wg 10000 n) (⟨(List.getD v4 (Int.toNat v0) (dflt .ah)).kind,(List.getD v4 (Int.toNat v0) (dflt .ah)).text,(List.getD v4 (Int.toNat v0) (dflt .ah)).keys,(List.getD v4 (Int.toNat v0) (dflt .ah)).kids⟩:Node))then(bif(decide ((v9.length+([((aK n) (⟨(List.getD v4 (Int.toNat v0) (dflt .ah)).kind,(List.getD v4 (Int.toNat v0) (dflt .ah)).text,(List.getD v4 (Int.toNat v0) (dflt .ah)).keys,(List.getD v4 (Int.toNat v0) (dflt .ah)).kids⟩:Node))]:List Node).length)*72<=aB))then G 1 (CY (au (v0+(1:Int))) v1 v2 v3 v4 v5 v6 v7 v8 (v9++([((aK n) (⟨(List.getD v4 (Int.toNat v0) (dflt .ah)).kind,(List.getD v4 (Int.toNat v0) (dflt .ah)).text,(List.getD v4 (Int.toNat v0) (dflt .ah)).keys,(List.getD v4 (Int.toNat v0) (dflt .ah)).kids⟩:Node))]:List Node)))else none)else none)else none)else some [⟨.ah,(⟨v7,v8,[],v9⟩:Node)⟩]
theorem alO(n:Nat)(G:Nat->av E->Option (List (TV E)))(v0 v1:Int)(v2:anP)(v3:List (anP))(v4:List Node)(v5:Int)(v6:anP)(v7:Int)(v8:anP)(v9:List Node):uV (KM n) RD G Tryz.f14 1 (CY v0 v1 v2 v3 v4 v5 v6 v7 v8 v9)=Jd n G v0 v1 v2 v3 v4 v5 v6 v7 v8 v9:=by kernel_rfl
theorem abv:Tryz.prog.funcs[14]? = some Tryz.f14:=by kernel_rfl
theorem abw:(Tryz.f14.name == "runtime.NumGoroutine")=false:=by kernel_rfl
theorem abx:Tryz.f14.body.isNone=false:=by kernel_rfl
theorem alP:∃fn,Tryz.prog.funcs[14]? = some fn/\(fn.name == "runtime.NumGoroutine")=false/\fn.body.isNone=false:=⟨Tryz.f14,abv,abw,abx⟩
theorem NY(n:Nat)(ih:bE E rT (kT n)):aL E (KM n):=gu (.cons abr (.cons ana (.cons ih .nil))) .nil .nil .nil
theorem Ye(n:Nat)(ih:bE E rT (kT n)){res:List (TV E)}{v0:List (anP)}{v1 v2:Int}{v3:anP}{v4:List (anP)}{v5:List Node}{v6:Int}{v7:anP}{v8:Int}{v9:anP}{v10:List (anP)}{v11:List Node}(h:Jc n (Gr E Tryz.f14 res) v0 v1 v2 v3 v4 v5 v6 v7 v8 v9 v10 v11=some res):Ev E Tryz.f14 res 0 (CX v0 v1 v2 v3 v4 v5 v6 v7 v8 v9 v10 v11):=Ev.step (NY n ih) mix ((alN n _ v0 v1 v2 v3 v4 v5 v6 v7 v8 v9 v10 v11).trans h)
theorem Yf(n:Nat)(ih:bE E rT (kT n)){res:List (TV E)}{v0 v1:Int}{v2:anP}{v3:List (anP)}{v4:List Node}{v5:Int}{v6:anP}{v7:Int}{v8:anP}{v9:List Node}(h:Jd n (Gr E Tryz.f14 res) v0 v1 v2 v3 v4 v5 v6 v7 v8 v9=some res):Ev E Tryz.f14 res 1 (CY v0 v1 v2 v3 v4 v5 v6 v7 v8 v9):=Ev.step (NY n ih) mix ((alO n _ v0 v1 v2 v3 v4 v5 v6 v7 v8 v9).trans h)
theorem adg(n:Nat)(ih:bE E rT (kT n))(h:∀(x0:Node),(wg 10000 (n+1)) x0=true->RF n (Gr E Tryz.f14 [⟨.ah,(aK (n+1)) x0⟩]) x0=some [⟨.ah,(aK (n+1)) x0⟩]):bE E rT (kT (n+1)):=Al (NY n ih) mix abv abw abx (fun x0 hk=>(aqa n _ x0).trans (h x0 hk))
theorem aqb(n:Nat)(ih:bE E rT (kT n))(x:Node)(hx:wg 10000 (n+1) x=true)(h3:x.kind=3)(ks:List (anP))(hks:ks.length<=10000)(hm:∀k∈ks,k∈x.keys)(u0:Int)(u1:anP)(v0:Int)(v1:anP) :
  ∀(m i:Nat) (ok:List (anP)) (ov:List Node),ks.length-i=m->i<=ks.length->ok.length=i->ov.length=i ->
   Ev E Tryz.f14 [⟨.ah,(⟨v0,v1,ok++ks.drop i,ov++(ks.drop i).map fun k=>aK n (aJ x k)⟩:Node)⟩] 0 (CX ks i x.kind x.text x.keys x.kids u0 u1 v0 v1 ok ov):=by
 have fx:=Pf hx (by decide);intro m
 induction m with
 | zero =>intro i ok ov h1 h2 h3 h4;refine Ye n ih ?_;simp only[Jc,Jt (show ks.length<=i by omega),cond_false,aa7 (show ks.length<=i by omega),abR,aha]
 | succ m ih2 =>
  intro i ok ov h1 h2 h3' h4;have hi:i<ks.length:=by omega
  have e1:decide ((ok.length+[ks[i]].length)*16<=aB)=true:=dT (by rw[mb,aay];omega);have e2:∀v:Node,decide ((ov.length+[v].length)*72<=aB)=true:=fun v=>dT (by rw[mb,aay];omega)
  have hw:wg 10000 n (aJ x ks[i])=true:=Uy hx (Ux hx h3 (hm _ (aeC hi)));refine Ye n ih ?_;simp only[Jc,zQ hi,d0,gd ks _ i hi,abW,cond_true,fO,fx,e1,e2,hw];rw[<- aa8 hi,aU (by omega) (by omega)];have:=gK (ih2 (i+1) (ok++[ks[i]]) (ov++[aK n (aJ x ks[i])]) (by omega) (by omega) (by simp[h3']) (by simp[h4]));rw[abJ,abJ]at this;exact this
theorem aqc(n:Nat)(ih:bE E rT (kT n))(x:Node)(hx:wg 10000 (n+1) x=true)(u0:Int)(u1:anP)(v0:Int)(v1:anP) :
  ∀(m i:Nat) (ov:List Node),x.kids.length-i=m->i<=x.kids.length->ov.length=i ->
   Ev E Tryz.f14 [⟨.ah,(⟨v0,v1,[],ov++(x.kids.drop i).map (aK n)⟩:Node)⟩] 1 (CY i x.kind x.text x.keys x.kids u0 u1 v0 v1 ov):=by
 have hw:=eZ.1 hx;intro m
 induction m with
 | zero =>intro i ov h1 h2 h3;refine Yf n ih ?_;simp only[Jd,Jt (show x.kids.length<=i by omega),cond_false,aa7 (show x.kids.length<=i by omega),abR,aha]
 | succ m ih2 =>
  intro i ov h1 h2 h3;have hi:i<x.kids.length:=by omega
  have e2:∀v:Node,decide ((ov.length+[v].length)*72<=aB)=true:=fun v=>dT (by rw[mb,aay];omega)
  have hk:wg 10000 n x.kids[i]=true:=hw.2.2.2 _ (aeC hi);refine Yf n ih ?_;simp only[Jd,zQ hi,d0,gd x.kids _ i hi,abW,cond_true,fO,e2,hk];rw[<- aa8 hi,aU (by omega) (by omega)];have:=gK (ih2 (i+1) (ov++[aK n x.kids[i]]) (by omega) (by omega) (by simp[h3]));rw[abJ]at this;exact this
theorem CZ(n:Nat):bE E rT (kT n):=by
 induction n with
 | zero=>exact acz alP fun x=>rfl
 | succ n ih =>
  refine adg n ih fun x hk=>?_
  have hw:=eZ.1 hk;simp only[RF,aK];by_cases h3:x.kind=3
  ·have hl:pE x.keys=true:=wm.2 (by omega);have hs:=Pl.uK x.keys;rw[iX h3,cond_true,hl,cond_true,cond_true];have:=gK (aqb n ih x hk h3 (Pl.bn x.keys) (by omega) (fun k hk=>Pl.kE.1 hk) 0 [] x.kind x.text _ 0 [] [] rfl (aas _) rfl rfl);rw[aeh,aeK,aeK]at this;exact this
  ·rw[dP h3,cond_false,cond_false];have:=gK (aqc n ih x hk 0 [] x.kind x.text _ 0 [] rfl (aas _) rfl);rw[aeh,aeK]at this;exact this
def uO(g:Node->Int->Int):List Node->Int->Int
 | [],l=>l
 | k::t,l=>bif decide (g k l<0)then -1 else uO g t (g k l)
def Cx(x:Node)(deep l:Int):Bool:=bif(bif(bif decide (l<0)then true else decide (12<deep))then true else decide (x.kind<0))then true else decide (3<x.kind)
def H9(x:Node):Bool:=bif(bif(bif x.kind != 1 then decide ((0:Int)<(x.text.length:Int))else false)then true else(bif x.kind != 3 then decide ((0:Int)<(x.keys.length:Int))else false))then true else(bif decide (x.kind<2)then decide ((0:Int)<(x.kids.length:Int))else false)
def Ia(x:Node)(l:Int):Bool:=bif x.kind==3 then(bif(bif(x.keys.length:Int)!=(x.kids.length:Int)then true else decide (l<(x.kids.length:Int)))then true else((Pl.bn x.keys).length:Int)!=(x.keys.length:Int))else false
def leftV:Nat->Node->Int->Int->Int
 | 0,_,_,_=>-1
 | n+1,x,deep,left=>bif Cx x deep (left-1)then -1 else bif H9 x then -1 else bif Ia x (left-1)then -1 else uO (fun k l=>leftV n k (deep+1) l) x.kids (left-1)
theorem RG{g:Node->Int->Int}(hg:∀k l,0<=g k l->g k l+1<=l):∀(ks:List Node) (l:Int),0<=uO g ks l->uO g ks l+ks.length<=l/\∀k∈ks, ∃l',0<=g k l'/\l'<=l
 | [],l,_=>⟨by simp[uO],fun k hk=>by cases hk⟩
 | k::t,l,h=>by
  unfold uO at h ⊢;by_cases hk:g k l<0
  ·rw[dT hk,cond_true]at h;omega
  ·rw[dF hk,cond_false]at h ⊢;obtain⟨h1,h2⟩:=RG hg t (g k l) h;have h3:=hg k l (by omega);refine⟨by rw[List.length_cons];omega,fun y hy=>?_⟩;rcases amG.1 hy with rfl | hy
   ·exact⟨l,by omega,amw _⟩
   ·obtain⟨l',h4,h5⟩:=h2 y hy;exact⟨l',h4,by omega⟩
theorem LU:∀(n:Nat) (x:Node) (d l:Int),0<=leftV n x d l->leftV n x d l+1<=l
 | 0,_,_,_,h=>by simp[leftV]at h
 | n+1,x,d,l,h=>by
  unfold leftV at h ⊢;cases h1:Cx x d (l-1)with
  | true=>rw[h1,cond_true]at h;omega
  | false =>
   cases h2:H9 x with
   | true=>rw[h1,h2,cond_false,cond_true]at h;omega
   | false =>
    cases h3:Ia x (l-1)with
    | true=>rw[h1,h2,h3,cond_false,cond_false,cond_true]at h;omega
    | false =>rw[h1,h2,h3,cond_false,cond_false,cond_false]at h;simp only[cond_false];have:=(RG (fun k l h=>LU n k (d+1) l h) x.kids (l-1) h).1;omega
def Vg(n:Nat)(_:Node)(deep left:Int):Bool:=decide (1<=n)&&decide (n<=13)&&decide (deep+n=14)&&decide (-10<=left)&&decide (left<=100000)
theorem WV{n:Nat}{x:Node}{d l:Int}:Vg n x d l=true↔(((1<=n/\n<=13)/\d+n=14) /\ -10<=l)/\l<=100000:=by simp[Vg]
noncomputable def Gu(n:Nat):jq E:=fn3 (E:=E) .ah .int .int .int (Vg n) (leftV n)
def left_id:FuncId:=15
noncomputable def ajc(n:Nat):aI E:=jX [(36,Nq),(15,Gu n)] [] [] []
noncomputable def asF:Hint E:={ live:=[(0,[1,2,3,7])] }
noncomputable def Po(v0 v1 v2 v3:Int)(v4:anP)(v5:List (anP))(v6:List Node):av E:=av.mk 105 [(1,.d (.int .i64 v0)),(2,.d (.int .i64 v1)),(3,.ptr 0 0),(7,.d (.int .i64 v2))] [(0,.box [.d (.int .i64 v3),.d (.str v4),.d (.slice .str v5),.d (.slice .ah v6)])] 1
noncomputable def ajd(_n:Nat)(G:Nat->av E->Option (List (TV E)))(x0:Node)(x1 x2:Int):Option (List (TV E)) :=
 bif(bif(bif(bif(decide ((au (x2-(1:Int)))<(0:Int)))then true else(decide ((12:Int)<x1)))then true else(decide (x0.kind<(0:Int))))then true else(decide ((3:Int)<x0.kind)))then some [⟨.int,(-1:Int)⟩]else(bif(bif(bif(bif(x0.kind != (1:Int))then(decide ((0:Int)<(x0.text.length:Int)))else false)then true else(bif(x0.kind != (3:Int))then(decide ((0:Int)<(x0.keys.length:Int)))else false))then true else(bif(decide (x0.kind<(2:Int)))then(decide ((0:Int)<(x0.kids.length:Int)))else false))then some [⟨.int,(-1:Int)⟩]else(bif((pE x0.keys) || !((x0.kind==(3:Int))&&(!(bif((x0.keys.length:Int)!=(x0.kids.length:Int))then true else(decide ((au (x2-(1:Int)))<(x0.kids.length:Int)))))))then(bif(bif(x0.kind==(3:Int))then(bif(bif((x0.keys.length:Int)!=(x0.kids.length:Int))then true else(decide ((au (x2-(1:Int)))<(x0.kids.length:Int))))then true else(((Pl.bn x0.keys).length:Int)!=(x0.keys.length:Int)))else false)then some [⟨.int,(-1:Int)⟩]else G 0 (Po x1 (au (x2-(1:Int))) 0 x0.kind x0.text x0.keys x0.kids))else none))
theorem aBH(n:Nat)(G:Nat->av E->Option (List (TV E)))(x0:Node)(x1 x2:Int):jK (ajc n) asF G Tryz.f15 [⟨.ah,x0⟩,⟨.int,x1⟩,⟨.int,x2⟩]=ajd n G x0 x1 x2:=by kernel_rfl
noncomputable def WW(n:Nat)(G:Nat->av E->Option (List (TV E)))(v0 v1 v2 v3:Int)(v4:anP)(v5:List (anP))(v6:List Node):Option (List (TV E)) :=
 bif(decide (v2<(v6.length:Int)))then(bif(decide ((0:Int)<=v2)&&decide (v2<(v6.length:Int)))then(bif((Vg n) (⟨(List.getD v6 (Int.toNat v2) (dflt .ah)).kind,(List.getD v6 (Int.toNat v2) (dflt .ah)).text,(List.getD v6 (Int.toNat v2) (dflt .ah)).keys,(List.getD v6 (Int.toNat v2) (dflt .ah)).kids⟩:Node) (au (v0+(1:Int))) v1)then(bif(decide (((leftV n) (⟨(List.getD v6 (Int.toNat v2) (dflt .ah)).kind,(List.getD v6 (Int.toNat v2) (dflt .ah)).text,(List.getD v6 (Int.toNat v2) (dflt .ah)).keys,(List.getD v6 (Int.toNat v2) (dflt .ah)).kids⟩:Node) (au (v0+(1:Int))) v1)<(0:Int)))then some [⟨.int,(-1:Int)⟩]else G 0 (Po v0 ((leftV n) (⟨(List.getD v6 (Int.toNat v2) (dflt .ah)).kind,(List.getD v6 (Int.toNat v2) (dflt .ah)).text,(List.getD v6 (Int.toNat v2) (dflt .ah)).keys,(List.getD v6 (Int.toNat v2) (dflt .ah)).kids⟩:Node) (au (v0+(1:Int))) v1) (au (v2+(1:Int))) v3 v4 v5 v6))else none)else none)else some [⟨.int,v1⟩]
theorem azi(n:Nat)(G:Nat->av E->Option (List (TV E)))(v0 v1 v2 v3:Int)(v4:anP)(v5:List (anP))(v6:List Node):uV (ajc n) asF G Tryz.f15 0 (Po v0 v1 v2 v3 v4 v5 v6)=WW n G v0 v1 v2 v3 v4 v5 v6:=by kernel_rfl
theorem asG:Tryz.prog.funcs[15]? = some Tryz.f15:=by kernel_rfl
theorem asH:(Tryz.f15.name == "runtime.NumGoroutine")=false:=by kernel_rfl
theorem asI:Tryz.f15.body.isNone=false:=by kernel_rfl
theorem azj:∃fn,Tryz.prog.funcs[15]? = some fn/\(fn.name == "runtime.NumGoroutine")=false/\fn.body.isNone=false:=⟨Tryz.f15,asG,asH,asI⟩
theorem anb(n:Nat)(ih:bE E left_id (Gu n)):aL E (ajc n):=gu (.cons abr (.cons ih .nil)) .nil .nil .nil
theorem anc(n:Nat)(ih:bE E left_id (Gu n)){res:List (TV E)}{v0 v1 v2 v3:Int}{v4:anP}{v5:List (anP)}{v6:List Node}(h:WW n (Gr E Tryz.f15 res) v0 v1 v2 v3 v4 v5 v6=some res):Ev E Tryz.f15 res 0 (Po v0 v1 v2 v3 v4 v5 v6):=Ev.step (anb n ih) mix ((azi n _ v0 v1 v2 v3 v4 v5 v6).trans h)
theorem aqd(n:Nat)(ih:bE E left_id (Gu n))(h:∀(x0:Node) (x1:Int) (x2:Int),(Vg (n+1)) x0 x1 x2=true->ajd n (Gr E Tryz.f15 [⟨.int,(leftV (n+1)) x0 x1 x2⟩]) x0 x1 x2=some [⟨.int,(leftV (n+1)) x0 x1 x2⟩]):bE E left_id (Gu (n+1)):=aaz (anb n ih) mix asG asH asI (fun x0 x1 x2 hk=>(aBH n _ x0 x1 x2).trans (h x0 x1 x2 hk))
theorem asJ(n:Nat)(ih:bE E left_id (Gu n))(x:Node)(d:Int)(hn1:1<=n)(hn2:n<=12)(hd:d+1+n=14):∀(m i:Nat) (l:Int),x.kids.length-i=m->i<=x.kids.length->0<=l->l+i<=100000 ->
  Ev E Tryz.f15 [⟨.int,uO (fun k l=>leftV n k (d+1) l) (x.kids.drop i) l⟩] 0 (Po d l i x.kind x.text x.keys x.kids):=by
 intro m
 induction m with
 | zero =>intro i l h1 h2 h3 h4;refine anc n ih ?_;simp only[WW,Jt (show x.kids.length<=i by omega),cond_false,aa7 (show x.kids.length<=i by omega)];rfl
 | succ m ih2 =>
  intro i l h1 h2 h3 h4;have hi:i<x.kids.length:=by omega
  have e1:au (d+1)=d+1:=aU (by omega) (by omega);have e2:Vg n x.kids[i] (d+1) l=true:=WV.2 ⟨⟨⟨⟨hn1,by omega⟩,by omega⟩,by omega⟩,by omega⟩;have hle:=LU n x.kids[i] (d+1) l;refine anc n ih ?_;simp only[WW,zQ hi,d0,gd x.kids _ i hi,abW,cond_true,fO,e1,e2];rw[<- aa8 hi];simp only[uO];by_cases hk:leftV n x.kids[i] (d+1) l<0
  ·rw[dT hk];rfl
  ·rw[dF hk,cond_false,cond_false,aU (by omega) (by omega)];exact gK (ih2 (i+1) _ (by omega) (by omega) (by omega) (by have:=hle (by omega);omega))
theorem ane(n:Nat):bE E left_id (Gu n):=by
 induction n with
 | zero=>exact ayp azj fun x y z=>by simp[Vg]
 | succ n ih =>
  refine aqd n ih fun x d l hk=>?_
  have hk:=WV.1 hk;have e1:au (l-1)=l-1:=aU (by omega) (by omega);simp only[ajd,e1,leftV];change (bif Cx x d (l-1)then _ else bif H9 x then _ else _)=_;cases h1:Cx x d (l-1)with
  | true=>rfl
  | false =>
   cases h2:H9 x with
   | true=>rfl
   | false =>
    simp only[cond_false];have hA:¬ l-1<0/\¬ 12<d:=by
     unfold Cx at h1;by_cases a1:l-1<0
     ·rw[dT a1]at h1;cases h1
     ·by_cases a2:12<d
      ·rw[dF a1,dT a2]at h1;cases h1
      ·exact⟨a1,a2⟩
    have hcond:(pE x.keys || !(x.kind==3 && !(bif(x.keys.length:Int)!=(x.kids.length:Int)then true else decide (l-1<(x.kids.length:Int)))))=true:=by
     by_cases a1:(x.keys.length:Int)=x.kids.length
     ·by_cases a2:l-1<(x.kids.length:Int)
      ·rw[kg a1,dT a2];simp
      ·rw[wm.2 (by omega)];rfl
     ·rw[iI a1];simp
    rw[hcond,cond_true];change (bif Ia x (l-1)then _ else _)=_;cases h3:Ia x (l-1)with
    | true=>rfl
    | false =>simp only[cond_false];have:=gK (asJ n ih x d (by omega) (by omega) (by omega) x.kids.length 0 (l-1) (by omega) (by omega) (by omega) (by omega));rw[aeh]at this;exact this
def rC:Nat->Node->Bool
 | 0,_=>false
 | n+1,x=>decide (x.text.length<=200)&&(x.keys.all (fun k=>decide (k.length<=200))&&x.kids.all (rC n))
noncomputable def zx(n:Nat):jq E:=EM (E:=E) .ah .bool (dp n) (rC n)
def AX:FuncId:=16
noncomputable def WX(n:Nat):aI E:=jX [(16,zx n)] [] [] []
noncomputable def adh:Hint E:={ live:=[(0,[1,3]),(1,[1,4])] }
noncomputable def LV(v0 v1:Int)(v2:anP)(v3:List (anP))(v4:List Node):av E:=av.mk 37 [(1,.ptr 0 0),(3,.d (.int .i64 v0))] [(0,.box [.d (.int .i64 v1),.d (.str v2),.d (.slice .str v3),.d (.slice .ah v4)])] 1
noncomputable def LW(v0 v1:Int)(v2:anP)(v3:List (anP))(v4:List Node):av E:=av.mk 37 [(1,.ptr 0 0),(4,.d (.int .i64 v0))] [(0,.box [.d (.int .i64 v1),.d (.str v2),.d (.slice .str v3),.d (.slice .ah v4)])] 1
noncomputable def adi(_n:Nat)(G:Nat->av E->Option (List (TV E)))(x0:Node):Option (List (TV E)) :=
 bif(decide ((200:Int)<(x0.text.length:Int)))then some [⟨.bool,false⟩]else G 0 (LV 0 x0.kind x0.text x0.keys x0.kids)
theorem azk(n:Nat)(G:Nat->av E->Option (List (TV E)))(x0:Node):jK (WX n) adh G Tryz.f16 [⟨.ah,x0⟩]=adi n G x0:=by kernel_rfl
noncomputable def RH(_n:Nat)(G:Nat->av E->Option (List (TV E)))(v0 v1:Int)(v2:anP)(v3:List (anP))(v4:List Node):Option (List (TV E)) :=
 bif(decide (v0<(v3.length:Int)))then(bif(decide ((0:Int)<=v0)&&decide (v0<(v3.length:Int)))then(bif(decide ((200:Int)<((List.getD v3 (Int.toNat v0) (dflt .str)).length:Int)))then some [⟨.bool,false⟩]else G 0 (LV (au (v0+(1:Int))) v1 v2 v3 v4))else none)else G 1 (LW 0 v1 v2 v3 v4)
theorem avG(n:Nat)(G:Nat->av E->Option (List (TV E)))(v0 v1:Int)(v2:anP)(v3:List (anP))(v4:List Node):uV (WX n) adh G Tryz.f16 0 (LV v0 v1 v2 v3 v4)=RH n G v0 v1 v2 v3 v4:=by kernel_rfl
noncomputable def RI(n:Nat)(G:Nat->av E->Option (List (TV E)))(v0 v1:Int)(v2:anP)(v3:List (anP))(v4:List Node):Option (List (TV E)) :=
 bif(decide (v0<(v4.length:Int)))then(bif(decide ((0:Int)<=v0)&&decide (v0<(v4.length:Int)))then(bif((dp n) (⟨(List.getD v4 (Int.toNat v0) (dflt .ah)).kind,(List.getD v4 (Int.toNat v0) (dflt .ah)).text,(List.getD v4 (Int.toNat v0) (dflt .ah)).keys,(List.getD v4 (Int.toNat v0) (dflt .ah)).kids⟩:Node))then(bif(!((rC n) (⟨(List.getD v4 (Int.toNat v0) (dflt .ah)).kind,(List.getD v4 (Int.toNat v0) (dflt .ah)).text,(List.getD v4 (Int.toNat v0) (dflt .ah)).keys,(List.getD v4 (Int.toNat v0) (dflt .ah)).kids⟩:Node)))then some [⟨.bool,false⟩]else G 1 (LW (au (v0+(1:Int))) v1 v2 v3 v4))else none)else none)else some [⟨.bool,true⟩]
theorem avH(n:Nat)(G:Nat->av E->Option (List (TV E)))(v0 v1:Int)(v2:anP)(v3:List (anP))(v4:List Node):uV (WX n) adh G Tryz.f16 1 (LW v0 v1 v2 v3 v4)=RI n G v0 v1 v2 v3 v4:=by kernel_rfl
theorem anf:Tryz.prog.funcs[16]? = some Tryz.f16:=by kernel_rfl
theorem ang:(Tryz.f16.name == "runtime.NumGoroutine")=false:=by kernel_rfl
theorem anh:Tryz.f16.body.isNone=false:=by kernel_rfl
theorem avI:∃fn,Tryz.prog.funcs[16]? = some fn/\(fn.name == "runtime.NumGoroutine")=false/\fn.body.isNone=false:=⟨Tryz.f16,anf,ang,anh⟩
theorem Zn(n:Nat)(ih:bE E AX (zx n)):aL E (WX n):=gu (.cons ih .nil) .nil .nil .nil
theorem aje(n:Nat)(ih:bE E AX (zx n)){res:List (TV E)}{v0 v1:Int}{v2:anP}{v3:List (anP)}{v4:List Node}(h:RH n (Gr E Tryz.f16 res) v0 v1 v2 v3 v4=some res):Ev E Tryz.f16 res 0 (LV v0 v1 v2 v3 v4):=Ev.step (Zn n ih) mix ((avG n _ v0 v1 v2 v3 v4).trans h)
theorem ajf(n:Nat)(ih:bE E AX (zx n)){res:List (TV E)}{v0 v1:Int}{v2:anP}{v3:List (anP)}{v4:List Node}(h:RI n (Gr E Tryz.f16 res) v0 v1 v2 v3 v4=some res):Ev E Tryz.f16 res 1 (LW v0 v1 v2 v3 v4):=Ev.step (Zn n ih) mix ((avH n _ v0 v1 v2 v3 v4).trans h)
theorem alQ(n:Nat)(ih:bE E AX (zx n))(h:∀(x0:Node),(dp (n+1)) x0=true->adi n (Gr E Tryz.f16 [⟨.bool,(rC (n+1)) x0⟩]) x0=some [⟨.bool,(rC (n+1)) x0⟩]):bE E AX (zx (n+1)):=Al (Zn n ih) mix anf ang anh (fun x0 hk=>(azk n _ x0).trans (h x0 hk))
theorem aBI{n:Nat}(h:n<=200):decide ((200:Int)<(n:Int))=false:=dF (by omega)
theorem aw6{n:Nat}(h:¬ n<=200):decide ((200:Int)<(n:Int))=true:=dT (by omega)
theorem azl(n:Nat)(ih:bE E AX (zx n))(x:Node)(hl:x.kids.length<=1000000)(hd:∀y∈x.kids,dp n y=true):∀(m i:Nat),x.kids.length-i=m->i<=x.kids.length ->
  Ev E Tryz.f16 [⟨.bool,(x.kids.drop i).all (rC n)⟩] 1 (LW i x.kind x.text x.keys x.kids):=by
 intro m
 induction m with
 | zero =>intro i h1 h2;refine ajf n ih ?_;simp only[RI,Jt (show x.kids.length<=i by omega),cond_false,aa7 (show x.kids.length<=i by omega)];rfl
 | succ m ih2 =>
  intro i h1 h2;have hi:i<x.kids.length:=by omega
  refine ajf n ih ?_;simp only[RI,zQ hi,d0,gd x.kids _ i hi,abW,cond_true,fO,hd _ (aeC hi)];rw[<- aa8 hi,aU (by omega) (by omega),aeQ];cases rC n x.kids[i]with
  | false=>rfl
  | true =>simp only[abI,cond_false,aeP];exact gK (ih2 (i+1) (by omega) (by omega))
theorem azm(n:Nat)(ih:bE E AX (zx n))(x:Node)(hk:x.keys.length<=1000000)(hl:x.kids.length<=1000000)(hd:∀y∈x.kids,dp n y=true):∀(m i:Nat),x.keys.length-i=m->i<=x.keys.length ->
  Ev E Tryz.f16 [⟨.bool,(x.keys.drop i).all (fun k=>decide (k.length<=200))&&x.kids.all (rC n)⟩] 0 (LV i x.kind x.text x.keys x.kids):=by
 intro m
 induction m with
 | zero =>intro i h1 h2;refine aje n ih ?_;simp only[RH,Jt (show x.keys.length<=i by omega),cond_false,aa7 (show x.keys.length<=i by omega)];have:=gK (azl n ih x hl hd x.kids.length 0 (by omega) (by omega));rw[aeh]at this;exact this
 | succ m ih2 =>
  intro i h1 h2;have hi:i<x.keys.length:=by omega
  refine aje n ih ?_;simp only[RH,zQ hi,d0,gd x.keys _ i hi,abW,cond_true];rw[<- aa8 hi,aU (by omega) (by omega),aeQ];by_cases h:x.keys[i].length<=200
  ·rw[aBI h,cond_false,dT h,aeP];exact gK (ih2 (i+1) (by omega) (by omega))
  ·rw[aw6 h,cond_true,dF h];rfl
theorem avJ(n:Nat):bE E AX (zx n):=by
 induction n with
 | zero=>exact acz avI fun x=>rfl
 | succ n ih =>
  refine alQ n ih fun x hk=>?_
  have hk:=Lm.1 hk;simp only[adi,rC];by_cases h:x.text.length<=200
  ·rw[aBI h,cond_false,dT h,aeP];have:=gK (azm n ih x hk.1.1 hk.1.2 hk.2 x.keys.length 0 (by omega) (by omega));rw[aeh]at this;exact this
  ·rw[aw6 h,cond_true,dF h];rfl
theorem ajg{B:Nat}(hB:B<=1000000):∀(n:Nat) (x:Node) (d l:Int),d+(n+1:Nat)=14->l<=(B:Int)+1->0<=leftV (n+1) x d l->dp n x=true/\(rC n x=true->wf B n x=true)
 | n,x,d,l,hd,hl,h=>by
  unfold leftV at h;cases h1:Cx x d (l-1)with
  | true=>rw[h1,cond_true]at h;omega
  | false =>
   cases h2:H9 x with
   | true=>rw[h1,h2,cond_false,cond_true]at h;omega
   | false =>
    cases h3:Ia x (l-1)with
    | true=>rw[h1,h2,h3,cond_false,cond_false,cond_true]at h;omega
    | false =>
     rw[h1,h2,h3,cond_false,cond_false,cond_false]at h;have hA:¬ 12<d:=by intro a2;unfold Cx at h1;rw[dT a2]at h1;cases hx:decide (l-1<0)<;>rw[hx]at h1<;>cases h1
     obtain⟨m,rfl⟩:∃m,n=m+1:=⟨n-1,by omega⟩
     obtain⟨q1,q2⟩:=RG (fun k l h=>LU (m+1) k (d+1) l h) x.kids (l-1) h;have hrec:∀y∈x.kids,dp m y=true/\(rC m y=true->wf B m y=true):=fun y hy=>by obtain⟨l',h4,h5⟩:=q2 y hy;exact ajg hB m y (d+1) l' (by omega) (by omega) h4
     have hkeys:(x.kind=3->x.keys.length=x.kids.length)/\(x.kind≠3->x.keys.length=0):=by
      constructor
      ·intro e;unfold Ia at h3;rw[iX e,cond_true]at h3;by_cases a1:(x.keys.length:Int)=x.kids.length
       ·omega
       ·rw[iI a1]at h3;cases h3
      ·intro e;unfold H9 at h2;rw[iI e,cond_true]at h2;by_cases a1:(0:Int)<(x.keys.length:Int)
       ·rw[dT a1]at h2;cases hx:(bif x.kind != 1 then decide ((0:Int)<(x.text.length:Int))else false)<;>rw[hx]at h2<;>cases h2
       ·omega
     have hk:x.keys.length<=B:=by
      by_cases e:x.kind=3
      ·have:=hkeys.1 e;omega
      ·have:=hkeys.2 e;omega
     refine⟨Lm.2 ⟨⟨by omega,by omega⟩,fun y hy=>(hrec y hy).1⟩,fun hs=>?_⟩;simp only[rC,abG,abK,afe]at hs;exact Uw.2 ⟨hk,by omega,hkeys.1,hs.1,hs.2.1,fun y hy=>(hrec y hy).2 (hs.2.2 y hy)⟩
 termination_by n=>n
def adj(_:Node)(m:Int):Bool:=decide (0<=m)&&decide (m<=300)
def Gv(x:Node)(m:Int):Bool:=bif decide (0<=leftV 13 x 1 m)then rC 12 x else false
noncomputable def ani:jq E:=FY (E:=E) .ah .int .bool adj Gv
def ajh:FuncId:=5
noncomputable def anj:aI E:=jX [(15,Gu 13),(16,zx 12)] [] [] []
noncomputable def azn:Hint E:={}
noncomputable def adk(_G:Nat->av E->Option (List (TV E)))(x0:Node)(x1:Int):Option (List (TV E)) :=
 bif((Vg 13) (⟨x0.kind,x0.text,x0.keys,x0.kids⟩:Node) (1:Int) x1)then(bif(((dp 12) (⟨x0.kind,x0.text,x0.keys,x0.kids⟩:Node)) || !(decide ((0:Int)<=((leftV 13) (⟨x0.kind,x0.text,x0.keys,x0.kids⟩:Node) (1:Int) x1))))then some [⟨.bool,(bif(decide ((0:Int)<=((leftV 13) (⟨x0.kind,x0.text,x0.keys,x0.kids⟩:Node) (1:Int) x1)))then((rC 12) (⟨x0.kind,x0.text,x0.keys,x0.kids⟩:Node))else false)⟩]else none)else none
theorem azo(G:Nat->av E->Option (List (TV E)))(x0:Node)(x1:Int):jK anj azn G Tryz.f5 [⟨.ah,x0⟩,⟨.int,x1⟩]=adk G x0 x1:=by kernel_rfl
theorem azp:Tryz.prog.funcs[5]? = some Tryz.f5:=by kernel_rfl
theorem azq:(Tryz.f5.name == "runtime.NumGoroutine")=false:=by kernel_rfl
theorem azr:Tryz.f5.body.isNone=false:=by kernel_rfl
theorem avK:aL E anj:=gu (.cons (ane 13) (.cons (avJ 12) .nil)) .nil .nil .nil
theorem alR(h:∀(x0:Node) (x1:Int),adj x0 x1=true->adk (Gr E Tryz.f5 [⟨.bool,Gv x0 x1⟩]) x0 x1=some [⟨.bool,Gv x0 x1⟩]):bE E ajh ani:=Jr avK mix azp azq azr (fun x0 x1 hk=>(azo _ x0 x1).trans (h x0 x1 hk))
theorem avL:bE E ajh ani:=alR fun x m hk=>by
 have hm:0<=m/\m<=300:=by simpa[adj]using hk
 have e1:Vg 13 x 1 m=true:=WV.2 ⟨⟨⟨by decide,by decide⟩,by omega⟩,by omega⟩;have e2:(dp 12 x || !(decide (0<=leftV 13 x 1 m)))=true:=by
  by_cases h:0<=leftV 13 x 1 m
  ·rw[(ajg (B:=300) (by decide) 12 x 1 m (by decide) (by omega) h).1];rfl
  ·rw[dF h];simp
 simp only[adk,fO,e1,e2,cond_true];rfl
def oD(k:anP)(v:Node):List (anP)->List Node->List Node
 | a::t,x::w=>(bif a==k then v else x)::oD k v t w
 | _,_=>[]
theorem Vh(k:anP)(v:Node):∀(ks:List (anP)) (vs:List Node),ks.length=vs.length->(oD k v ks vs).length=ks.length
 | [],[],_=>rfl
 | a::t,x::w,h=>by simp only[oD,List.length_cons];rw[Vh k v t w (by simpa using h)]
 | [],_::_,h=>by simp at h
 | _::_,[],h=>by simp at h
theorem aeW(k:anP)(v:Node):∀(ks:List (anP)) (vs:List Node) (y:Node),y∈oD k v ks vs->y=v\/y∈vs
 | [],vs,y,h=>by simp[oD]at h
 | _::_,[],y,h=>by simp[oD]at h
 | a::t,x::w,y,h=>by
  simp only[oD,amG]at h;rcases h with h | h
  ·cases hb:a==k with
   | true=>rw[hb]at h;exact .inl h
   | false=>rw[hb]at h;exact .inr (by rw[h];exact aa1)
  ·rcases aeW k v t w y h with h | h
   ·exact .inl h
   ·exact .inr (aa6 _ h)
def Cy(th:Bool)(k:anP):List (anP):=bif th then[]else[k]
def newV(th:Bool)(v:Node):List Node:=bif th then[]else[v]
def aZ(x:Node)(k:anP)(v:Node):Node:=bif(bif x.kind != 0 then x.kind != 3 else false)then x else⟨3,[],x.keys++Cy (fA x.keys k) k,oD k v x.keys x.kids++newV (fA x.keys k) v⟩
def ig(x:Node)(_:anP)(_:Node):Bool:=decide (x.keys.length<=100000)&&decide (x.keys.length=x.kids.length)
theorem aji{x:Node}{k:anP}{v:Node}:ig x k v=true↔x.keys.length<=100000/\x.keys.length=x.kids.length:=by simp[ig]
noncomputable def adl:jq E:=fn3 (E:=E) .ah .str .ah .ah ig aZ
def ajj:FuncId:=24
noncomputable def adn:aI E:=jX [] [] [] []
noncomputable def ank:Hint E:={ live:=[(0,[1,3,5,6,7,8,9])],oO:=[(0,[(7,some 2,true,.str),(7,some 3,true,.ah)])] }
noncomputable def Ib(v0:anP)(v1:Bool)(v2 v3:Int)(v4:anP)(v5:List (anP))(v6:List Node)(v7:Int)(v8:anP)(v9:List (anP))(v10:List Node)(v11:Int)(v12:anP)(v13:Int)(v14:anP)(v15:List (anP))(v16:List Node):av E:=av.mk 75 [(1,.d (.str v0)),(3,.ptr 0 0),(5,.ptr 1 0),(6,.ptr 2 0),(7,.ptr 3 0),(8,.d (.bool v1)),(9,.d (.int .i64 v2))] [(0,.box [.d (.int .i64 v3),.d (.str v4),.d (.slice .str v5),.d (.slice .ah v6)]),(1,.box [.d (.int .i64 v7),.d (.str v8),.d (.slice .str v9),.d (.slice .ah v10)]),(2,.box [.d (.int .i64 v11),.d (.str v12),.d (.raw (.slice none 0 0)),.d (.raw (.slice none 0 0))]),(3,.box [.d (.int .i64 v13),.d (.str v14),.grow .str v15 4,.grow .ah v16 5]),(4,.tail true),(5,.tail true)] 6
noncomputable def ado(G:Nat->av E->Option (List (TV E)))(x0:Node)(x1:anP)(x2:Node):Option (List (TV E)) :=
 bif(bif(x0.kind != (0:Int))then(x0.kind != (3:Int))else false)then some [⟨.ah,(⟨x0.kind,x0.text,x0.keys,x0.kids⟩:Node)⟩]else G 0 (Ib x1 false 0 x0.kind x0.text x0.keys x0.kids x2.kind x2.text x2.keys x2.kids 0 [] 3 [] [] [])
theorem azs(G:Nat->av E->Option (List (TV E)))(x0:Node)(x1:anP)(x2:Node):jK adn ank G Tryz.f24 [⟨.ah,x0⟩,⟨.str,x1⟩,⟨.ah,x2⟩]=ado G x0 x1 x2:=by kernel_rfl
noncomputable def RJ(G:Nat->av E->Option (List (TV E)))(v0:anP)(v1:Bool)(v2 v3:Int)(v4:anP)(v5:List (anP))(v6:List Node)(v7:Int)(v8:anP)(v9:List (anP))(v10:List Node)(v11:Int)(v12:anP)(v13:Int)(v14:anP)(v15:List (anP))(v16:List Node):Option (List (TV E)) :=
 bif(decide (v2<(v5.length:Int)))then(bif(decide ((0:Int)<=v2)&&decide (v2<(v5.length:Int)))then(bif(decide ((v15.length+([(List.getD v5 (Int.toNat v2) (dflt .str))]:List (anP)).length)*16<=aB))then(bif(decide ((0:Int)<=v2)&&decide (v2<(v5.length:Int)))then(bif((List.getD v5 (Int.toNat v2) (dflt .str))==v0)then(bif(decide ((v16.length+([(⟨v7,v8,v9,v10⟩:Node)]:List Node).length)*72<=aB))then G 0 (Ib v0 true (au (v2+(1:Int))) v3 v4 v5 v6 v7 v8 v9 v10 v11 v12 v13 v14 (v15++([(List.getD v5 (Int.toNat v2) (dflt .str))]:List (anP))) (v16++([(⟨v7,v8,v9,v10⟩:Node)]:List Node)))else none)else(bif(decide ((0:Int)<=v2)&&decide (v2<(v6.length:Int)))then(bif(decide ((v16.length+([(⟨(List.getD v6 (Int.toNat v2) (dflt .ah)).kind,(List.getD v6 (Int.toNat v2) (dflt .ah)).text,(List.getD v6 (Int.toNat v2) (dflt .ah)).keys,(List.getD v6 (Int.toNat v2) (dflt .ah)).kids⟩:Node)]:List Node).length)*72<=aB))then G 0 (Ib v0 v1 (au (v2+(1:Int))) v3 v4 v5 v6 v7 v8 v9 v10 v11 v12 v13 v14 (v15++([(List.getD v5 (Int.toNat v2) (dflt .str))]:List (anP))) (v16++([(⟨(List.getD v6 (Int.toNat v2) (dflt .ah)).kind,(List.getD v6 (Int.toNat v2) (dflt .ah)).text,(List.getD v6 (Int.toNat v2) (dflt .ah)).keys,(List.getD v6 (Int.toNat v2) (dflt .ah)).kids⟩:Node)]:List Node)))else none)else none))else none)else none)else none)else(bif(!v1)then(bif(decide ((v15.length+([v0]:List (anP)).length)*16<=aB))then(bif(decide ((v16.length+([(⟨v7,v8,v9,v10⟩:Node)]:List Node).length)*72<=aB))then some [⟨.ah,(⟨v13,v14,(v15++([v0]:List (anP))),(v16++([(⟨v7,v8,v9,v10⟩:Node)]:List Node))⟩:Node)⟩]else none)else none)else some [⟨.ah,(⟨v13,v14,v15,v16⟩:Node)⟩])
theorem avM(G:Nat->av E->Option (List (TV E)))(v0:anP)(v1:Bool)(v2 v3:Int)(v4:anP)(v5:List (anP))(v6:List Node)(v7:Int)(v8:anP)(v9:List (anP))(v10:List Node)(v11:Int)(v12:anP)(v13:Int)(v14:anP)(v15:List (anP))(v16:List Node):uV adn ank G Tryz.f24 0 (Ib v0 v1 v2 v3 v4 v5 v6 v7 v8 v9 v10 v11 v12 v13 v14 v15 v16)=RJ G v0 v1 v2 v3 v4 v5 v6 v7 v8 v9 v10 v11 v12 v13 v14 v15 v16:=by kernel_rfl
theorem azt:Tryz.prog.funcs[24]? = some Tryz.f24:=by kernel_rfl
theorem azu:(Tryz.f24.name == "runtime.NumGoroutine")=false:=by kernel_rfl
theorem azv:Tryz.f24.body.isNone=false:=by kernel_rfl
theorem ajk:aL E adn:=gu .nil .nil .nil .nil
theorem ajl{res:List (TV E)}{v0:anP}{v1:Bool}{v2 v3:Int}{v4:anP}{v5:List (anP)}{v6:List Node}{v7:Int}{v8:anP}{v9:List (anP)}{v10:List Node}{v11:Int}{v12:anP}{v13:Int}{v14:anP}{v15:List (anP)}{v16:List Node}(h:RJ (Gr E Tryz.f24 res) v0 v1 v2 v3 v4 v5 v6 v7 v8 v9 v10 v11 v12 v13 v14 v15 v16=some res):Ev E Tryz.f24 res 0 (Ib v0 v1 v2 v3 v4 v5 v6 v7 v8 v9 v10 v11 v12 v13 v14 v15 v16):=Ev.step ajk mix ((avM _ v0 v1 v2 v3 v4 v5 v6 v7 v8 v9 v10 v11 v12 v13 v14 v15 v16).trans h)
theorem alS(h:∀(x0:Node) (x1:anP) (x2:Node),ig x0 x1 x2=true->ado (Gr E Tryz.f24 [⟨.ah,aZ x0 x1 x2⟩]) x0 x1 x2=some [⟨.ah,aZ x0 x1 x2⟩]):bE E ajj adl:=aaz ajk mix azt azu azv (fun x0 x1 x2 hk=>(azs _ x0 x1 x2).trans (h x0 x1 x2 hk))
theorem azw(keys:List (anP))(kids:List Node)(k:anP)(v:Node)(hs:keys.length<=100000)(hl:keys.length=kids.length)(a0:Int)(a1:anP)(u0:Int)(u1:anP)(u2:Int)(u3:anP):∀(m i:Nat) (th:Bool) (ok:List (anP)) (ov:List Node),keys.length-i=m->i<=keys.length->ok.length=i->ov.length=i ->
  Ev E Tryz.f24 [⟨.ah,(⟨u2,u3,ok++(keys.drop i++Cy (th||fA (keys.drop i) k) k),ov++(oD k v (keys.drop i) (kids.drop i)++newV (th||fA (keys.drop i) k) v)⟩:Node)⟩] 0 (Ib k th i a0 a1 keys kids v.kind v.text v.keys v.kids u0 u1 u2 u3 ok ov):=by
 intro m
 induction m with
 | zero =>
  intro i th ok ov h1 h2 h3 h4;refine ajl ?_;simp only[RJ,Jt (show keys.length<=i by omega),cond_false,aa7 (show keys.length<=i by omega)];cases th with
  | true=>simp[Cy,newV,oD]
  | false =>rw[aem,cond_true,dT (show(ok.length+[k].length)*16<=aB by rw[mb,aay];omega),cond_true,fO,dT (show(ov.length+[v].length)*72<=aB by rw[mb,aay];omega),cond_true];simp[Cy,newV,oD,fA]
 | succ m ih2 =>
  intro i th ok ov h1 h2 h3 h4;have hi:i<keys.length:=by omega
  have hj:i<kids.length:=by omega
  have e3:au ((i:Int)+1)=((i+1:Nat):Int):=by rw[aU (by omega) (by omega)];omega
  refine ajl ?_;simp only[RJ,zQ hi,d0,gd keys _ i hi,e3,abW,cond_true,fO,zQ hj,gd kids _ i hj];rw[<- aa8 hi];have e1:∀x:anP,decide ((ok.length+[x].length)*16<=aB)=true:=fun x=>dT (by rw[mb,aay];omega)
  have e2:∀x:Node,decide ((ov.length+[x].length)*72<=aB)=true:=fun x=>dT (by rw[mb,aay];omega)
  simp only[e1,e2,cond_true];rw[<- aa8 hj];simp only[oD,fA,aj3];cases hb:keys[i]==k with
  | true =>simp only[cond_true];have:=gK (ih2 (i+1) true (ok++[keys[i]]) (ov++[v]) (by omega) (by omega) (by simp[h3]) (by simp[h4]));simp only[fA,abZ,ahV,abJ,afa]at this ⊢;exact this
  | false =>simp only[cond_false];have:=gK (ih2 (i+1) th (ok++[keys[i]]) (ov++[kids[i]]) (by omega) (by omega) (by simp[h3]) (by simp[h4]));simp only[fA,ajB,abJ,afa]at this ⊢;exact this
theorem avN:bE E ajj adl:=alS fun x k v hk=>by
 obtain⟨h1,h2⟩:=aji.1 hk;unfold aZ;simp only[ado,fO];cases hc:(bif x.kind != 0 then x.kind != 3 else false)with
 | true=>simp only[cond_true]
 | false =>simp only[cond_false];have:=gK (azw x.keys x.kids k v h1 h2 x.kind x.text 0 [] 3 [] x.keys.length 0 false [] [] (by omega) (by omega) rfl rfl);rw[aeh,aeh,aeK,aeK,ajB]at this;exact this
theorem aDv(th:Bool)(k:anP)(v:Node):(Cy th k).length=(newV th v).length/\(Cy th k).length<=1:=by cases th<;>exact⟨rfl,by simp[Cy]⟩
theorem ER{x:Node}{k:anP}{v:Node}(hk:x.kind=0\/x.kind=3)(h:x.keys.length=x.kids.length) :
  (aZ x k v).kind=3/\(aZ x k v).keys.length=(aZ x k v).kids.length/\(aZ x k v).keys.length<=x.keys.length+1/\∀y∈(aZ x k v).kids,y=v\/y∈x.kids:=by
 have hc:(bif x.kind != 0 then x.kind != 3 else false)=false:=by rcases hk with e | e<;>rw[e]<;>rfl
 unfold aZ;rw[hc];have hw:=Vh k v x.keys x.kids h;have hn:=aDv (fA x.keys k) k v;refine⟨rfl,?_,?_,fun y hy=>?_⟩
 ·simp only[cond_false,List.length_append,hw,hn.1]
 ·simp only[cond_false,List.length_append];omega
 ·simp only[cond_false,List.mem_append]at hy;rcases hy with hy | hy
  ·exact aeW k v _ _ y hy
  ·left;unfold newV at hy;cases hi:fA x.keys k with
   | true=>rw[hi]at hy;cases hy
   | false=>rw[hi]at hy;simpa using hy
def kW(x:Node):Bool:=decide (0<=leftV 13 x 1 2000)
noncomputable def Zo:jq E:=EM (E:=E) .ah .bool (fun _=>true) kW
def aeX:FuncId:=35
noncomputable def ajm:aI E:=jX [(15,Gu 13)] [] [] []
noncomputable def avO:Hint E:={}
noncomputable def Zp(_G:Nat->av E->Option (List (TV E)))(x0:Node):Option (List (TV E)) :=
 bif((Vg 13) (⟨x0.kind,x0.text,x0.keys,x0.kids⟩:Node) (1:Int) (2000:Int))then some [⟨.bool,(decide ((0:Int)<=((leftV 13) (⟨x0.kind,x0.text,x0.keys,x0.kids⟩:Node) (1:Int) (2000:Int))))⟩]else none
theorem avP(G:Nat->av E->Option (List (TV E)))(x0:Node):jK ajm avO G Tryz.f35 [⟨.ah,x0⟩]=Zp G x0:=by kernel_rfl
theorem avQ:Tryz.prog.funcs[35]? = some Tryz.f35:=by kernel_rfl
theorem avR:(Tryz.f35.name == "runtime.NumGoroutine")=false:=by kernel_rfl
theorem avS:Tryz.f35.body.isNone=false:=by kernel_rfl
theorem asK:aL E ajm:=gu (.cons (ane 13) .nil) .nil .nil .nil
theorem ajn(h:∀(x0:Node),Zp (Gr E Tryz.f35 [⟨.bool,kW x0⟩]) x0=some [⟨.bool,kW x0⟩]):bE E aeX Zo:=Al asK mix avQ avR avS (fun x0 _=>(avP _ x0).trans (h x0))
theorem asL:bE E aeX Zo:=ajn fun x=>by have e1:Vg 13 x 1 2000=true:=WV.2 (by decide);simp only[Zp,fO,e1,cond_true];rfl
section
theorem aDw:∀(n m:Nat) (b:budget) (x:Node) (d:Int),d+(n+1:Nat)=14->1<=d->dp (n+1) x=true -> -10<=b.left->b.left<=100000->(fG m b x d).isSome=true->(gv (fG m b x d)).2=decide (0<=leftV (n+1) x d b.left)/\((gv (fG m b x d)).2=true->(gv (fG m b x d)).1.left=leftV (n+1) x d b.left):=by
 intro n
 induction n with
 | zero =>
  intro m b x d hd h1 hx hb hb2
  match m with
  | 0=>intro h;cases h
  | m+1 =>
   have e:leftV (0+1) x d b.left = -1:=by
    unfold leftV;have:Cx x d (b.left-1)=true:=by unfold Cx;rw[dT (show 12<d by omega)];cases decide (b.left-1<0)<;>rfl
    rw[this,cond_true]
   refine part (t:=fF (fG m)) (s:=.e b x d) rfl (fun r=>r.2=decide (0<=leftV (0+1) x d b.left)/\(r.2=true->r.1.left=leftV (0+1) x d b.left)) (fun s=>s = .e b x d) rfl ?_;rintro s rfl;rw[e];simp only[dQ,fF]
   (repeat' (first|intro _|apply And.intro))<;>grind
 | succ n ih =>
  intro m b x d hd h1 hx hb hb2
  match m with
  | 0=>intro h;cases h
  | m+1 =>
   have hx2:=Lm.1 hx;have hL:leftV (n+1+1) x d b.left=bif Cx x d (b.left-1)then -1 else bif H9 x then -1 else bif Ia x (b.left-1)then -1 else uO (fun k l=>leftV (n+1) k (d+1) l) x.kids (b.left-1):=rfl
   generalize leftV (n+1+1) x d b.left=L at hL ⊢;refine part (t:=fF (fG m)) (s:=.e b x d) rfl (fun r=>r.2=decide (0<=L)/\(r.2=true->r.1.left=L)) (fun | .e y0 y1 y2=>y0=b/\y1=x/\y2=d | .h0 v0 v1 v2 v3 v4=>v0=d/\v1=x.kids/\v2=(x.kids.length:Int)/\0<=v3/\v3<=v2/\0<=v4/\v4<=100000/\uO (fun k l=>leftV (n+1) k (d+1) l) (x.kids.drop v3.toNat) v4=L) ⟨rfl,rfl,rfl⟩ ?_;have w1:=@cO (b.left-1);have w2:=@cO ((x.keys.length:Int)+(x.kids.length:Int));rintro(⟨y0,y1,y2⟩ | ⟨v0,v1,v2,v3,v4⟩) hs
   ·obtain⟨rfl,rfl,rfl⟩:=hs;simp only[dQ,fF];rw[w1 (by omega),w2 (by omega)];have hk:y1.kids.length=0->y1.kids=[]:=fun h=>List.length_eq_zero_iff.1 h
    have ht:y1.text≠[]->0<y1.text.length:=fun h=>List.length_pos_iff.2 h
    have hn:∀l,uO (fun k l=>leftV (n+1) k (y2+1) l) [] l=l:=fun _=>rfl
    (repeat' (first|intro _|apply And.intro))<;>grind[Cx,H9,Ia,aeh]
   ·obtain⟨rfl,rfl,rfl,h2,h3,h4,h5,h6⟩:=hs;simp only[dQ,fF];have e1:=@cO (v3+1);have e2:=@cO (v0+1);by_cases hi:v3<(x.kids.length:Int)
    ·rw[fJ x.kids Df.d h2 hi,uO]at h6;have hy:dp (n+1) (x.kids.getD v3.toNat Df.d)=true:=by
      rw[show x.kids.getD v3.toNat Df.d=x.kids[v3.toNat]'(by omega) by simp[List.getD,show v3.toNat<x.kids.length by omega]];exact hx2.2 _ (aeC _)
     generalize x.kids.getD v3.toNat Df.d=y at h6 hy ⊢;have h7:=ih m ⟨v4⟩ y (v0+1) (by omega) (by omega) hy (by show -10<=v4;omega) (by show v4<=100000;omega);have h8:=LU (n+1) y (v0+1) v4;rw[e2 (by omega),e1 (by omega)];generalize fG m ⟨v4⟩ y (v0+1)=o at h7 ⊢;generalize leftV (n+1) y (v0+1) v4=q at h6 h7 h8 ⊢;generalize hK:uO (fun k l=>leftV (n+1) k (v0+1) l) (x.kids.drop (v3+1).toNat) q=K at h6;refine⟨fun _ _ _ ho=>?_,fun h=>absurd hi h⟩;obtain⟨h9,h10⟩:=h7 ho;clear ih h7 hL w1 w2 e1 e2 hx hx2 hy;by_cases hq:0<=q
     ·rw[decide_eq_true hq]at h9;rw[decide_eq_false (show ¬ q<0 by omega),cond_false]at h6;have h11:=h10 h9;have h12:q+1<=v4:=h8 hq
      (repeat' (first|intro _|apply And.intro))<;>grind
     ·rw[decide_eq_false hq]at h9;rw[decide_eq_true (show q<0 by omega),cond_true]at h6
      (repeat' (first|intro _|apply And.intro))<;>grind
    ·rw[iN x.kids (by omega),uO]at h6
     (repeat' (first|intro _|apply And.intro))<;>grind
theorem Vi(x:Node)(h:dp 13 x=true):(Aw x).isSome=true->gv (Aw x)=kW x:=by refine gQ rfl ?_;simp only[dQ,Gd];intro hi;exact(aDw 12 IB ⟨2000⟩ x 1 (by decide) (by decide) h (by decide) (by decide) hi).1
end
section
def Cc(b:Bool):anP:=bif b then[116,114,117,101]else[102,97,108,115,101]
def fH(b:Bool):Node:=⟨1,Cc b,[],[]⟩
def cK:anP:=[99,111,110,100,105,116,105,111,110]
def rK:anP:=[114,101,113,117,105,114,101,100]
def sK:anP:=[114,101,115,116,97,114,116]
def jZ:anP:=[116,114,117,101]
def oM:anP:=[102,97,108,115,101]
def mq:anP:=[115,101,114,118,105,99,101,95,115,116,97,114,116,101,100]
def Vj:anP:=[115,101,114,118,105,99,101,95,104,101,97,108,116,104,121]
def Vk:anP:=[115,101,114,118,105,99,101,95,99,111,109,112,108,101,116,101,100,95,115,117,99,99,101,115,115,102,117,108,108,121]
def aO(n:Node)(k or_:anP):anP:=bif !(aD n k)then or_ else(aJ n k).text
def bU(n:Node)(k _:anP):Bool:=bif !(aD n k)then true else(aJ n k).kind==1
def Pp(s:anP):Bool:=!(s==jZ) && !(s==oM)
def nco(s:anP):Bool:=(!(s==mq) && !(s==Vj)) && !(s==Vk)
def b2(b:Bool):Int:=bif b then 1 else 0
def em(n:Node):Node:=bif n.kind==0 then⟨3,[],[],[]⟩else n
def SH(n:Node):Node:=⟨3,[],[cK,rK,sK],[dz (aO (em n) cK mq),fH (aO (em n) rK jZ==jZ),fH (aO (em n) sK oM==jZ)]⟩
def bdV(m:Node):Bool:=((((((m.kind != 3) || !(bU m cK [])) || !(bU m sK []))||Pp (aO m sK oM)) || !(bU m rK []))||Pp (aO m rK jZ))||nco (aO m cK mq)
def lfV(m:Node):Int:=(((m.keys.length:Int)-b2 (aD m cK))-b2 (aD m sK))-b2 (aD m rK)
def Ke(n:Node):Bool:=!(bdV (em n))&&(lfV (em n)==0)
theorem Yg(b:Bool):lH b=some (fH b):=dB rfl (by cases b<;>rfl)
def l6(f:field)(k:anP):field:=⟨f.n,f.left-b2 (aD f.n k),f.bad || !(bU f.n k [])⟩
theorem gW(f:field)(k o:anP)(h : -1000000<=f.left/\f.left<=1000000):(aW f k o).isSome=true->gv (aW f k o)=(l6 f k,aO f.n k o):=by
 refine gQ rfl ?_;simp only[dQ,vS];have:=@cO (f.left-1);obtain⟨n,l,b⟩:=f
 (repeat' (first|intro _|apply And.intro))<;>grind[l6,b2,bU,aO]
theorem uP(f:field)(k:anP)(o:Bool)(h : -1000000<=f.left/\f.left<=1000000):(fq f k o).isSome=true->gv (fq f k o)=(⟨f.n,f.left-b2 (aD f.n k),(f.bad || !(bU f.n k []))||Pp (aO f.n k (Cc o))⟩,aO f.n k (Cc o)==jZ):=by
 refine gQ rfl ?_;simp only[dQ,uL];have h1:=fun l b o=>gW ⟨f.n,l,b⟩ k o
 obtain⟨n,l,b⟩:=f;have h2:Cc true=[116,114,117,101]:=rfl;have h3:Cc false=[102,97,108,115,101]:=rfl
 (repeat' (first|intro _|apply And.intro))<;>grind[l6,Pp,jZ,oM]
def yU(f:field)(k:anP):Bool:=bif(bif(f.bad || !(bU f.n k []))then true else(iQ (aO f.n k [48]) 65536).2 != 0)then true else(bif aD f.n k then(iQ (aO f.n k [48]) 65536).1==0 else false)
theorem AY(f:field)(k:anP)(h : -1000000<=f.left/\f.left<=1000000)(hl:(aO f.n k [48]).length<=1000000):(kG f k).isSome=true->gv (kG f k)=(⟨f.n,f.left-b2 (aD f.n k),yU f k⟩,(iQ (aO f.n k [48]) 65536).1):=by
 refine gQ rfl ?_;simp only[dQ,qo];have h1:=gW f k [48] h;have h2:=uw (aO f.n k [48]) 65536 (yx.2 ⟨⟨hl,by decide⟩,by decide⟩);obtain⟨n,l,b⟩:=f
 (repeat' (first|intro _|apply And.intro))<;>grind[l6,yU,dS]
theorem aDx:Pl.bn ([[99,111,110,100,105,116,105,111,110],[114,101,113,117,105,114,101,100],[114,101,115,116,97,114,116]]:List (anP))=[[99,111,110,100,105,116,105,111,110],[114,101,113,117,105,114,101,100],[114,101,115,116,97,114,116]]:=Pl.xX (by unfold Pl.SS;decide) fun _=>Iff.rfl
theorem RL(n:Nat)(s:anP)(d l:Int)(hl:1<=l)(hd:d<=12):leftV (n+1) (dz s) d l=l-1:=by unfold leftV Cx H9 Ia uO dz;simp only[decide_eq_false (show ¬ l-1<0 by omega),decide_eq_false (show ¬ 12<d by omega)];rfl
theorem aBJ(a b c:anP):kW ⟨3,[],[cK,rK,sK],[dz a,dz b,dz c]⟩=true:=by
 unfold kW leftV Cx H9 Ia;simp only[cK,rK,sK,aDx,uO];have l1:leftV 12 (dz a) (1+1) (2000-1)=1998:=by rw[RL 11 a _ _ (by decide) (by decide)];rfl
 have l2:leftV 12 (dz b) (1+1) 1998=1997:=by rw[RL 11 b _ _ (by decide) (by decide)];rfl
 have l3:leftV 12 (dz c) (1+1) 1997=1996:=by rw[RL 11 c _ _ (by decide) (by decide)];rfl
 simp only[l1,l2,l3];rfl
theorem aby(ks:List (anP))(l:List Node)(h:dp 13 ⟨3,[],ks,l⟩=true):(lX ks l).isSome=true->gv (lX ks l)=bif kW ⟨3,[],ks,l⟩then⟨3,[],ks,l⟩else zn:=by
 refine gQ rfl ?_;simp only[dQ,KF];have h1:=Vi ⟨3,[],ks,l⟩ h
 (repeat' (first|intro _|apply And.intro))<;>grind[rF]
set_option maxHeartbeats 1000000 in
theorem Yh(n:Node)(hl:n.keys.length<=100000)(h0:n.kind=0->n=zn):(CQ n).isSome=true->gv (CQ n)=(SH n,Ke n):=by
 refine gQ rfl ?_;simp only[aM,bg,IV,aV,Yg,aG];have hand:∀x y:Bool,(bif x then y else false)=(x&&y):=by decide
 have hor:∀x y:Bool,(bif x then true else y)=(x||y):=by decide
 have key:∀(m:Node),m=em n->m.keys.length<=100000->cl (aW ⟨m,(m.keys.length:Int),m.kind != 3⟩ cK mq) True fun y1=>cl (fq ⟨y1.1.n,y1.1.left,y1.1.bad⟩ sK false) True fun y2=>cl (fq ⟨y2.1.n,y2.1.left,y2.1.bad⟩ rK true) True fun y3=>cl (lX [cK,rK,sK] [dz y1.2,fH y3.2,fH y2.2]) True fun y6=>(y6,(bif(!(bif(y3.1).bad then true else(bif(bif(!(y1.2==mq))then(!(y1.2==Vj))else false)then(!(y1.2==Vk))else false)))then((y3.1).left==(0:Int))else false))=(SH n,Ke n):=by
  intro m hm hml;have b1:∀x:Bool,0<=b2 x/\b2 x<=1:=fun x=>by cases x<;>decide
  have e1:=gW ⟨m,(m.keys.length:Int),m.kind != 3⟩ cK mq ⟨by show -1000000<=(m.keys.length:Int);omega,by show(m.keys.length:Int)<=1000000;omega⟩;simp only[dQ];intro i1;rw[e1 i1];have c1:=b1 (aD m cK);have e2:=uP (l6 ⟨m,(m.keys.length:Int),m.kind != 3⟩ cK) sK false ⟨by show -1000000<=(m.keys.length:Int)-b2 (aD m cK);omega,by show(m.keys.length:Int)-b2 (aD m cK)<=1000000;omega⟩;intro i2;rw[show fq ⟨(l6 ⟨m,(m.keys.length:Int),m.kind != 3⟩ cK).n,(l6 ⟨m,(m.keys.length:Int),m.kind != 3⟩ cK).left,(l6 ⟨m,(m.keys.length:Int),m.kind != 3⟩ cK).bad⟩ sK false=fq (l6 ⟨m,(m.keys.length:Int),m.kind != 3⟩ cK) sK false from rfl]at i2 ⊢;rw[e2 i2];have c2:=b1 (aD m sK);dsimp only [l6];intro i3;rw[uP _ rK true ⟨by dsimp only;omega,by dsimp only;omega⟩ i3];intro i4;rw[aby _ _ (by simp[dp,dz,fH]) i4];have r3:=aBJ (aO m cK mq) (Cc (aO m rK (Cc true)==jZ)) (Cc (aO m sK (Cc false)==jZ));rw[show kW ⟨3,[],[cK,rK,sK],[dz (aO m cK mq),fH (aO m rK (Cc true)==jZ),fH (aO m sK (Cc false)==jZ)]⟩=true from r3,cond_true];unfold SH Ke bdV lfV nco;rw[<- hm];simp only[hand,hor];rfl
 cases hz:n.kind==0 with
 | true =>have hn:=h0 (by simpa using hz);rw[cond_true];subst hn;exact key ⟨3,[],[],[]⟩ rfl (by decide)
 | false =>rw[cond_false];exact key n (by unfold em;rw[hz];rfl) hl
end
section
def pd(f:anP->Bool):List (anP)->List Node->Node->Bool->Node×Bool
 | s::t,y::r,o,b=>pd f t r (bf o s (SH y)) (bif b then true else(bif !(Ke y)then true else !(f s)))
 | _,_,o,b=>(o,b)
def ES(n:Node):List (anP):=bif qY n 3 then n.keys else bH n
def Ce(n:Node)(l:List (anP)):List Node:=bif n.kind==3 then n.kids else l.map fun _=>zn
def dp0(n:Node):Bool:=bif qY n 3 then false else !(qx n)
def dpP(n:Node):Node×Bool:=pd (oh AO xL) (ES n) (Ce n (ES n)) zn (dp0 n)
def dpV(n:Node):Node:=EN (dpP n).1 (dpP n).2
def dpE(n:Node):Int:=EO (dpP n).1 (dpP n).2
theorem azx(l:List (anP))(i:Nat):(l.map fun _=>zn).getD i (Df.d:Node)=zn:=by
 rw[List.getD];cases e:(l.map fun _=>zn)[i]? with
 | none=>rfl
 | some x =>have:=ae7 e;obtain⟨_,_,h⟩:=List.mem_map.1 this;exact h.symm
theorem LX{P:Node->Prop}{l:List Node}(h:∀y∈l,P y){i:Int}(h0:0<=i)(hi:i<(l.length:Int)):P (l.getD i.toNat (Df.d:Node)):=by rw[show l.getD i.toNat (Df.d:Node)=l[i.toNat]'(by omega) by simp[List.getD,show i.toNat<l.length by omega]];exact h _ (aeC _)
set_option maxHeartbeats 1000000 in
theorem alT(n:Node)(hl:n.kids.length<=1000000)(hs:∀s∈ES n,s.length<=1000000)(hn:(ES n).length<=1000000)(hk:∀y∈n.kids,y.keys.length<=100000/\(y.kind=0->y=zn)):(zm n).isSome=true->gv (zm n)=(dpV n,dpE n):=by
 refine part rfl (fun r=>r=(dpV n,dpE n)) (fun | .e y0=>y0=n | .h0 v0 v1 v2 v3 _ _ v6=>v0=ES n/\v1=((ES n).length:Int)/\0<=v2/\v2<=v1/\v3=n/\pd (oh AO xL) ((ES n).drop v2.toNat) ((Ce n (ES n)).drop v2.toNat) v6.n v6.bad=dpP n) rfl ?_;rintro(y0 | ⟨v0,v1,v2,v3,v4,v5,⟨o,bad⟩⟩) hs'
 ·cases hs';simp only[aM,bg,zl,rZ,iG,aV,aG];simp only[dQ];have h1:=AP n hl;have h2:qY n 3=(bif n.kind==3 then decide ((n.kids.length:Int)<=32)else false):=rfl
  (repeat' (first|intro _|apply And.intro))<;>grind[ES,dp0,dpP,aeh,rF]
 ·obtain⟨rfl,rfl,h1,h2,rfl,h3⟩:=hs';simp only[aM,bg,zl,iG,aV,aG];simp only[dQ];have e1:=@cO (v2+1);by_cases hi:v2<((ES v3).length:Int)
  ·rw[fJ (ES v3) Df.d h1 hi]at h3;have h5:=qZ hs v2.toNat;generalize (ES v3).getD v2.toNat Df.d=s at h3 h5 ⊢;rw[oW s h5];have h8:=fun b v=>iC ⟨o,b⟩ s v
   cases hkd:v3.kind==3 with
   | true =>
    have hd:Ce v3 (ES v3)=v3.kids:=by unfold Ce;rw[hkd];rfl
    rw[hd]at h3;refine⟨fun _ _ _=>⟨fun _ _ hj=>?_,fun h=>?_⟩,fun h=>absurd hi h⟩
    ·rw[fJ v3.kids Df.d h1 hj,pd]at h3;have h6:=LX hk h1 hj;generalize v3.kids.getD v2.toNat Df.d=y at h3 h6 ⊢;have h7:=Yh y h6.1 h6.2
     (repeat' (first|intro _|apply And.intro))<;>grind[dS]
    ·cases h
   | false =>
    have hd:Ce v3 (ES v3)=(ES v3).map fun _=>zn:=by unfold Ce;rw[hkd];rfl
    rw[hd,fJ ((ES v3).map fun _=>zn) Df.d h1 (by rw[List.length_map];exact hi),azx,pd]at h3;have h7:=Yh zn (by decide) (fun _=>rfl);have h9:¬ v3.kind=3:=by simpa using hkd
    (repeat' (first|intro _|apply And.intro))<;>grind[dS,rF]
  ·rw[iN (ES v3) (by omega),pd]at h3;have h5:=iH ⟨o,bad⟩
   ·(repeat' (first|intro _|apply And.intro))<;>grind[dpV,dpE]
   ·intro a b c d e;cases e
def jf:anP:=[115,101,114,118,105,99,101]
def l7:anP:=[102,105,108,101]
def xS:anP:=[120]
def jg(n:Node):Node:=bif n.kind==1 then⟨3,[],[jf],[n]⟩else n
def aqe(m:Node):Bool:=((m.kind != 3) || !(bU m jf [])) || !(bU m l7 [])
def aqf(m:Node):Int:=((m.keys.length:Int)-b2 (aD m jf))-b2 (aD m l7)
def NZ(m:Node):Bool:=(((aqe m || !(aqf m==0)) || !(oh AO xL (aO m jf [])))||aO m l7 xS==[])||decide ((64:Int)<((aO m l7 xS).length:Int))
def exV(n:Node):Node:=bif NZ (jg n)then zn else dR 1000 (jg n)
def Yi(n:Node):Int:=bif NZ (jg n)then 10 else 0
theorem aDy:Pl.bn ([[115,101,114,118,105,99,101]]:List (anP))=[[115,101,114,118,105,99,101]]:=Pl.xX (by unfold Pl.SS;decide) fun _=>Iff.rfl
theorem aBL(a:anP):kW ⟨3,[],[jf],[dz a]⟩=true:=by
 unfold kW leftV Cx H9 Ia;simp only[jf,aDy,uO];have l1:leftV 12 (dz a) (1+1) (2000-1)=1998:=by rw[RL 11 a _ _ (by decide) (by decide)];rfl
 simp only[l1];rfl
theorem adp(n:Node)(hl:(jg n).keys.length<=100000)(h1:n.kind=1->n=dz n.text)(hs:(aO (jg n) jf []).length<=1000000):(rX n).isSome=true->gv (rX n)=(exV n,Yi n):=by
 refine gQ rfl ?_;simp only[aM,bg,BG,aV];have hand:∀x y:Bool,(bif x then y else false)=(x&&y):=by decide
 have hor:∀x y:Bool,(bif x then true else y)=(x||y):=by decide
 have b1:∀x:Bool,0<=b2 x/\b2 x<=1:=fun x=>by cases x<;>decide
 have key:∀(m:Node),m=jg n->cl (aW ⟨m,(m.keys.length:Int),m.kind != 3⟩ jf []) True fun y2=>cl (aW ⟨y2.1.n,y2.1.left,y2.1.bad⟩ l7 xS) True fun y3=>ck (((iP (y2.2)).isSome) || !(!(!(bif(!(y3.1).bad)then((y3.1).left==(0:Int))else false)))) True (bif(bif(bif(bif(!(bif(!(y3.1).bad)then((y3.1).left==(0:Int))else false))then true else(!(gv (iP (y2.2)))))then true else(y3.2==([]:anP)))then true else(decide ((64:Int)<((y3.2).length:Int))))then(cl eD True fun y4=>(y4.1,y4.2)=(exV n,Yi n))else(ck ((wg 10000 1000) m) True ((dR 1000 m,(0:Int))=(exV n,Yi n)))):=by
  intro m hm;rw[<- hm]at hl hs;have e1:=gW ⟨m,(m.keys.length:Int),m.kind != 3⟩ jf [] ⟨by show -1000000<=(m.keys.length:Int);omega,by show(m.keys.length:Int)<=1000000;omega⟩;simp only[dQ];intro i1;rw[e1 i1];have c1:=b1 (aD m jf);intro i2;have e2:=gW (l6 ⟨m,(m.keys.length:Int),m.kind != 3⟩ jf) l7 xS ⟨by show -1000000<=(m.keys.length:Int)-b2 (aD m jf);omega,by show(m.keys.length:Int)-b2 (aD m jf)<=1000000;omega⟩;rw[show aW ⟨(l6 ⟨m,(m.keys.length:Int),m.kind != 3⟩ jf).n,(l6 ⟨m,(m.keys.length:Int),m.kind != 3⟩ jf).left,(l6 ⟨m,(m.keys.length:Int),m.kind != 3⟩ jf).bad⟩ l7 xS=aW (l6 ⟨m,(m.keys.length:Int),m.kind != 3⟩ jf) l7 xS from rfl]at i2 ⊢;rw[e2 i2];dsimp only [l6];rw[oW _ hs,dS,jN];have hF:(bif(bif(bif(!(bif(!((m.kind != 3 || !bU m jf []) || !bU m l7 []))then((m.keys.length:Int)-b2 (aD m jf)-b2 (aD m l7)==(0:Int))else false))then true else(!(oh AO xL (aO m jf []))))then true else(aO m l7 xS==([]:anP)))then true else(decide ((64:Int)<((aO m l7 xS).length:Int))))=NZ m:=by unfold NZ aqe aqf;simp only[hand,hor,Bool.not_and,Bool.not_not]
  refine fun _=>⟨fun hc _=>?_,fun hc _=>?_⟩
  ·have hc':NZ m=true:=hF.symm.trans hc;unfold exV Yi;rw[<- hm,hc'];rfl
  ·have hc':NZ m=false:=hF.symm.trans hc;unfold exV Yi;rw[<- hm,hc'];rfl
 cases hk:n.kind==1 with
 | true =>
  have h2:=h1 (by simpa using hk);have h3:jg n=⟨3,[],[jf],[n]⟩:=by unfold jg;rw[hk];rfl
  rw[cond_true,pZ];intro i;have e:=aby [jf] [n] (by rw[h2];simp[dp,dz]) i;rw[show kW ⟨3,[],[jf],[n]⟩=true by rw[h2];exact aBL _,cond_true]at e;have e':gv (lX [[115,101,114,118,105,99,101]] [n])=_:=e;rw[e'];exact key _ h3.symm
 | false =>rw[cond_false];exact key n (by unfold jg;rw[hk];rfl)
end
section
theorem wu64(n:Int):IntKind.wrap .u64 n=n%18446744073709551616:=by simp[IntKind.wrap,IntKind.bits,IntKind.signed]
theorem wu8(n:Int):IntKind.wrap .u8 n=n%256:=by simp[IntKind.wrap,IntKind.bits,IntKind.signed]
theorem aw8{n:Int}(h:0<=n)(h':n<256):IntKind.wrap .u8 n=n:=by rw[wu8];omega
theorem ms:aA=4611686018427387904:=rfl
def dg(n:Nat):UInt8:=UInt8.ofNat (48+n)
def oF:Nat->Nat->anP
 | 0,_=>[]
 | f+1,u=>if u<10 then[dg u]else oF f (u / 10)++[dg (u%10)]
def JZ(u:Nat):anP:=oF 20 u
theorem Nt:∀(f u:Nat),(oF f u).length<=f
 | 0,_=>abH _
 | f+1,u=>by
  unfold oF;split
  ·simp
  ·have:=Nt f (u / 10);rw[List.length_append,aay];omega
def bq(n:Int):anP:=bif decide (n<0)then 45::JZ (-n).toNat else JZ n.toNat
theorem rU(n:Int):(bq n).length<=21:=by
 unfold bq JZ;cases decide (n<0)with
 | true=>have:=Nt 20 (-n).toNat;simp only[cond_true,List.length_cons];omega
 | false=>have:=Nt 20 n.toNat;simp only[cond_false];omega
def eP(c:UInt8):Bool:=decide (48<=c.toNat)&&decide (c.toNat<=57)
def Gw(s:anP):Bool:=match s with
 | []=>true
 | [_]=>false
 | c::_=>c==48
def eF(s:anP):Bool:=!(Gw s)&&s.all eP
theorem Pq(c:UInt8):(bif decide ((c.toNat:Int)<48)then true else decide (57<(c.toNat:Int))) = !(eP c):=by
 unfold eP;by_cases h1:c.toNat<48
 ·rw[dT (by omega),dF (show ¬ 48<=c.toNat by omega)];rfl
 ·by_cases h2:57<c.toNat
  ·rw[dF (by omega),dT (by omega),dT (show 48<=c.toNat by omega),dF (by omega)];rfl
  ·rw[dF (by omega),dF (by omega),dT (show 48<=c.toNat by omega),dT (by omega)];rfl
theorem c48(c:UInt8):((c.toNat:Int)==(48:Int))=(c==48):=by
 by_cases h:c=48
 ·subst h;rfl
 ·rw[dP (fun e=>h (UInt8.toNat_inj.1 (show c.toNat=48 by have e:(c.toNat:Int)=48:=e;omega)))];simpa using h
def bC:anP->Nat->Nat
 | [],n=>n
 | c::t,n=>bC t (n*10+(c.toNat-48))
theorem WY:∀(s:anP) (n:Nat),n<=bC s n
 | [],n=>abH _
 | c::t,n=>Nat.le_trans (by omega) (WY t (n*10+(c.toNat-48)))
theorem wP{c:UInt8}:eP c=true↔48<=c.toNat/\c.toNat<=57:=by simp[eP]
theorem anl:∀(s:anP) (n:Nat),s.all eP=true->bC s n<(n+1)*10 ^ s.length
 | [],n,_=>by simp[bC]
 | c::t,n,h=>by rw[aeQ,abG]at h;have h1:=wP.1 h.1;have:=anl t (n*10+(c.toNat-48)) h.2;unfold bC;refine aeJ this ?_;rw[List.length_cons,Nat.pow_succ,amE (10 ^ t.length) 10,<- Nat.mul_assoc];exact aeR _ (by omega)
def LY(n:Nat):Int:=bif decide (n<72057594037927936)then(n:Int)else 1152921504606846976
theorem BP{n:Nat}(h:n<72057594037927936):LY n=n:=by unfold LY;rw[dT h];rfl
theorem Pt{n:Nat}(h:¬ n<72057594037927936):LY n=1152921504606846976:=by unfold LY;rw[dF h];rfl
def iZ(s:anP):Int:=LY (bC s 0)
theorem aqg(s:anP):0<=iZ s/\iZ s<=1152921504606846976:=by
 unfold iZ;by_cases h:bC s 0<72057594037927936
 ·rw[BP h];omega
 ·rw[Pt h];omega
def BQ(most:Int)(n:Nat):Int×Int:=bif decide (most<(n:Int))then(0,9)else((n:Int),0)
theorem Ez{most:Int}{n:Nat}(h:most<(n:Int)):BQ most n=(0,9):=by unfold BQ;rw[dT h];rfl
theorem EA{most:Int}{n:Nat}(h:¬ most<(n:Int)):BQ most n=((n:Int),0):=by unfold BQ;rw[dF h];rfl
def fM(s:anP)(most:Int):Int×Int:=bif !(eF s)then(0,3)else BQ most (bC s 0)
def Cz(s:anP)(most:Int):Int:=(fM s most).1
def N7(s:anP)(most:Int):Int:=(fM s most).2
theorem JB(s:anP)(most:Int)(h:0<=most):0<=Cz s most/\Cz s most<=most:=by
 unfold Cz fM;cases eF s with
 | false=>exact⟨amw _,h⟩
 | true =>
  simp only[abI,cond_false];by_cases hv:most<(bC s 0:Int)
  ·rw[Ez hv];exact⟨amw _,h⟩
  ·rw[EA hv];exact⟨Int.natCast_nonneg _,by simp only;omega⟩
theorem aBM{c:UInt8}(h:eP c=true):wO c=((c.toNat-48:Nat):Int)/\c.toNat-48<=9:=by have:=wP.1 h;unfold wO;omega
theorem Zq(c:UInt8):(bif decide (wO c<0)then true else decide (9<wO c)) = !(eP c):=by rw[<- Pq];have e1:decide (wO c<0)=decide ((c.toNat:Int)<48):=decide_eq_decide.2 (by unfold wO;omega);have e2:decide (9<wO c)=decide (57<(c.toNat:Int)):=decide_eq_decide.2 (by unfold wO;omega);rw[e1,e2]
theorem ajp(most:Int):∀(s:anP) (n:Int) (over:Bool),s.all eP=false->Pk most s n over=(0,3)
 | [],_,_,h=>by cases h
 | c::t,n,over,h=>by
  unfold Pk;rw[Zq];cases hc:eP c with
  | false=>rfl
  | true =>
   rw[aeQ,hc,aeP]at h;simp only[abI,cond_false];cases LJ most (wO c) n over with
   | true=>exact ajp most t _ _ h
   | false=>exact ajp most t _ _ h
theorem ajq(most:Int):∀(s:anP) (n:Int),s.all eP=true->Pk most s n true=(0,9)
 | [],_,_=>rfl
 | c::t,n,h=>by rw[aeQ,abG]at h;unfold Pk;rw[Zq,h.1];exact ajq most t n h.2
theorem asN(most:Int)(h0:0<=most):∀(s:anP) (n:Nat),s.all eP=true->(n:Int)<=most->Pk most s n false=BQ most (bC s n)
 | [],n,_,hn=>by rw[bC,EA (by omega)];rfl
 | c::t,n,h,hn=>by
  rw[aeQ,abG]at h;obtain⟨e,hd⟩:=aBM h.1;unfold Pk bC;rw[Zq,h.1];simp only[abI,cond_false];rw[e];generalize hq:c.toNat-48=d at hd ⊢;by_cases hm:((n*10+d:Nat):Int)<=most
  ·have ho:LJ most (d:Int) n false=false:=by
    unfold LJ;rw[cond_false,ae8 (by omega),dF (by omega),dF (by omega)];rfl
   rw[ho,aem,cond_true,show(n:Int)*10+(d:Int)=((n*10+d:Nat):Int) by omega];exact asN most h0 t _ h.2 hm
  ·have ho:LJ most (d:Int) n false=true:=by
    unfold LJ;rw[cond_false];by_cases hmd:most<(d:Int)
    ·rw[dT hmd];cases decide ((most-(d:Int)).tdiv 10<(n:Int))<;>rfl
    ·rw[ae8 (by omega),dT (by omega)];rfl
   rw[ho,abI,cond_false,ajq most t _ h.2];have:=WY t (n*10+d);rw[Ez (by omega)]
theorem avT(s:anP):abh s=Gw s:=by
 unfold abh
 match s with
 | []=>rfl
 | [c]=>rfl
 | c::d::t =>have e1:(c::d::t==([]:anP))=false:=rfl;rw[e1,cond_false,dT (show(1:Int)<((c::d::t).length:Int) by simp only[List.length_cons];omega),cond_true];exact c48 c
theorem count_eq(s:anP){most:Int}(h0:0<=most):iQ s most=fM s most:=by
 unfold iQ fM eF;rw[avT];cases Gw s with
 | true=>rfl
 | false =>
  simp only[cond_false,aem,aeP];cases hd:s.all eP with
  | false=>rw[ajp most s _ _ hd];rfl
  | true=>rw[show(0:Int)=((0:Nat):Int)from rfl,asN most h0 s 0 hd (by omega)];rfl
theorem ae1(s:anP){most:Int}(h0:0<=most):am3 s most=Cz s most:=congrArg Prod.fst (count_eq s h0)
theorem Vl(s:anP){most:Int}(h0:0<=most):WT s most=N7 s most:=congrArg Prod.snd (count_eq s h0)
theorem ajr:∀(s t:anP) (n:Nat),bC (s++t) n=bC t (bC s n)
 | [],_,_=>rfl
 | _::s,t,_=>ajr s t _
theorem abz{n:Nat}(h:n<10):(dg n).toNat=48+n:=by unfold dg;rw[UInt8.toNat_ofNat',Nat.mod_eq_of_lt (by omega)]
theorem asO{n:Nat}(h:n<10):eP (dg n)=true:=wP.2 (by rw[abz h];omega)
theorem Vm:∀(f u:Nat),(oF f u).all eP=true
 | 0,_=>rfl
 | f+1,u=>by
  unfold oF;split
  ·rename_i h;simp[asO h]
  ·rw[List.all_append,Vm f];simp[asO (Nat.mod_lt u (by decide))]
theorem ae2:∀(f u:Nat),u<10 ^ f->bC (oF f u) 0=u
 | 0,u,h=>by simp at h;subst h;rfl
 | f+1,u,h=>by
  unfold oF;split
  ·rename_i hu;show 0*10+((dg u).toNat-48)=u;rw[abz hu];omega
  ·have h10:10 ^ (f+1)=10*10 ^ f:=by rw[Nat.pow_succ,amE]
   rw[ajr,ae2 f (u / 10) (by omega)];show u / 10*10+((dg (u%10)).toNat-48)=u;rw[abz (Nat.mod_lt u (by decide))];omega
theorem asP{s:anP}(t:anP)(h:Gw s=false)(h2:s≠[48]):Gw (s++t)=false:=by
 match s,h,h2 with
 | [c],_,h2 =>
  cases t with
  | nil=>rfl
  | cons d t =>show(c==48)=false;simpa using fun e=>h2 (by rw[e])
 | c::d::s,h,_=>exact h
theorem abA:∀(f u:Nat),1<=f->u<10 ^ f->Gw (oF f u)=false/\(1<=u->∀c t,oF f u=c::t->c≠48)
 | 0,_,h,_=>absurd h (by decide)
 | f+1,u,_,h=>by
  unfold oF;split
  ·rename_i hu;refine⟨rfl,fun h1 c t e=>?_⟩;cases e;intro e;have:=abz hu;rw[e]at this;have h48:(48:UInt8).toNat=48:=rfl;omega
  ·rename_i hu;have h10:10 ^ (f+1)=10*10 ^ f:=by rw[Nat.pow_succ,amE]
   have hf:1<=f:=by
    rcases Nat.eq_zero_or_pos f with rfl | h
    ·simp at h;omega
    ·exact h
   obtain⟨q1,q2⟩:=abA f (u / 10) hf (by omega);have q2:=q2 (by omega);refine⟨asP _ q1 fun e=>q2 _ _ e rfl,fun _ c t e=>?_⟩;cases hd:oF f (u / 10)with
   | nil=>rw[hd]at q1;cases q1
   | cons a s =>rw[hd]at e;cases e;exact q2 _ _ hd
theorem aDz{u:Nat}(h:u<9223372036854775808):u<10 ^ 20:=aeJ h (by decide)
theorem yA{n:Int}(h0:0<=n)(h1:n<9223372036854775808):eF (bq n)=true/\(bC (bq n) 0:Int)=n/\(bq n).all eP=true:=by
 have e:bq n=JZ n.toNat:=by unfold bq;rw[dF (by omega)];rfl
 rw[e];unfold JZ;have hp:=aDz (u:=n.toNat) (by omega);refine⟨?_,by rw[ae2 20 _ hp];omega,Vm 20 _⟩;unfold eF;rw[Vm,(abA 20 _ (by decide) hp).1];rfl
theorem Zr{n most:Int}(h0:0<=n)(h1:n<=most)(h2:n<9223372036854775808):fM (bq n) most=(n,0):=by obtain⟨q1,q2,_⟩:=yA h0 h2;unfold fM;rw[q1,abI,cond_false,EA (by omega),q2]
end
section
theorem aqh{n:Int}(h:0<=n)(h':n<10):UInt8.ofNat (Int.toNat (IntKind.wrap .u8 (IntKind.wrap .u64 (48+n))))=dg n.toNat:=by rw[AB (by omega) (by omega),aw8 (by omega) (by omega)];unfold dg;rw[show(48+n).toNat=48+n.toNat from by omega]
theorem set_drop{α:Type}(l:List α)(i:Nat)(a:α)(h:i<l.length):(l.set i a).drop i=a::l.drop (i+1):=by rw[<- aa8 (by rw[amx];exact h),List.getElem_set_self,List.drop_set_of_lt (by omega)]
def byt(l:List Int):anP:=l.map fun y=>UInt8.ofNat (Int.toNat y)
theorem anm{α:Type}(l:List α)(a:Nat)(h:l.length=20)(h2:a<=20):cut l (a:Int) 20=l.drop a:=by unfold cut;rw[aam];exact aeM (by rw[abP];omega)
theorem avU{f u:Nat}(h:u<10):oF (f+1) u=[dg u]:=by unfold oF;rw[if_pos h]
theorem avV{f u:Nat}(h:¬ u<10):oF (f+1) u=oF f (u / 10)++[dg (u%10)]:=by rw[oF,if_neg h]
theorem AZ(x:Int)(hx : -9223372036854775808<=x/\x<=9223372036854775807):(qp x).isSome=true->gv (qp x)=bq x:=by
 refine part rfl (fun r=>r=bq x) (fun | .e y=>y=x | .h0 v0 v1 v2 v3=>v1=decide (x<0)/\1<=v0/\v0<=20/\0<=v2/\v2<=9223372036854775808/\v3.length=20/\v2.toNat<10 ^ v0.toNat/\oF v0.toNat v2.toNat++byt (v3.drop v0.toNat)=JZ x.natAbs) rfl ?_;have hT:bq x=bif decide (x<0)then 45::JZ x.natAbs else JZ x.natAbs:=by
  unfold bq;by_cases h:x<0
  ·rw[dT h,cond_true,cond_true,show(-x).toNat=x.natAbs by omega]
  ·rw[dF h,cond_false,cond_false,show x.toNat=x.natAbs by omega]
 rintro(y | ⟨v0,v1,v2,v3⟩) hs
 ·cases hs;simp only[dQ,wG,wu64];refine⟨fun h=>⟨trivial,by decide,by decide,by omega,by omega,rfl,Nat.lt_of_le_of_lt (show _<=9223372036854775808 by omega) (by decide),?_⟩,fun h=>⟨trivial,by decide,by decide,by omega,by omega,rfl,Nat.lt_of_le_of_lt (show _<=9223372036854775808 by omega) (by decide),?_⟩⟩
  ·rw[show((0-x%18446744073709551616)%18446744073709551616).toNat=x.natAbs by omega];show oF 20 x.natAbs++[]=_;rw[abR];rfl
  ·rw[show(x%18446744073709551616).toNat=x.natAbs by omega];show oF 20 x.natAbs++[]=_;rw[abR];rfl
 ·obtain⟨rfl,h1,h2,h3,h4,h5,h7,h6⟩:=hs;obtain⟨a,rfl⟩:∃a:Nat,v0=((a+1:Nat):Int):=⟨(v0-1).toNat,by omega⟩
  obtain⟨u,rfl⟩:∃u:Nat,v2=(u:Int):=⟨v2.toNat,by omega⟩
  have w1:au (((a+1:Nat):Int)-1)=(a:Int):=by rw[cO (by omega)];omega
  have e1:Int.tmod (u:Int) 10=((u%10:Nat):Int):=rfl;have e2:Int.tdiv (u:Int) 10=((u / 10:Nat):Int):=rfl;have e3:ny (a:Int)=a:=by rw[ahX];omega
  have e4:IntKind.wrap .u64 ((u / 10:Nat):Int)=((u / 10:Nat):Int):=AB (by omega) (by omega);rw[aam,aam]at h6 h7;simp only[aM,bg,wG,w1,e1,e2,e3,e4];have hd:∀t:List Int,byt ((v3.set a (IntKind.wrap .u8 (IntKind.wrap .u64 (48+((u%10:Nat):Int))))).drop a)=dg (u%10)::byt (v3.drop (a+1)):=fun _=>by rw[set_drop v3 a _ (by omega)];show UInt8.ofNat (Int.toNat (IntKind.wrap .u8 (IntKind.wrap .u64 (48+((u%10:Nat):Int)))))::byt _=_;rw[aqh (by omega) (by omega),aam]
  have hd:=hd [];simp only[dQ];intro _ _ _ _;refine⟨fun hz=>?_,fun hz=>?_⟩
  ·have hu:u<10:=by
    have:((u / 10:Nat):Int)=0:=hz;omega
   rw[avU hu,afa]at h6;rw[Nat.mod_eq_of_lt hu]at hd;refine⟨fun hn=>?_,fun hn=>?_⟩
   ·intro i1 i2 i3;have hn':decide (x<0)=true:=decide_eq_true hn;have ha:1<=a:=by
     have:=i1.1;by_cases h0:a=0
     ·subst h0;exact absurd this (by decide)
     ·omega
    obtain⟨c,rfl⟩:∃c,a=c+1:=⟨a-1,by omega⟩
    have w2:au (((c+1:Nat):Int)-1)=(c:Int):=by rw[cO (by omega)];omega
    have e5:ny (c:Int)=c:=by rw[ahX];omega
    rw[w2,e5,anm _ c (by rw[amx,amx];exact h5) (by omega),set_drop _ c _ (by rw[amx];omega)];rw[hT,hn',cond_true,<- h6];show _::byt _=_;rw[Nat.mod_eq_of_lt hu,hd];rfl
   ·intro i1;have hn':decide (x<0)=false:=decide_eq_false hn;rw[anm _ a (by rw[amx];exact h5) (by omega),hT,hn',cond_false,<- h6,Nat.mod_eq_of_lt hu];exact hd
  ·have hu:¬ u<10:=fun h=>by
    have h0:u / 10=0:=by omega
    rw[h0]at hz;cases hz
   rw[avV hu,abJ,afa]at h6;have ha:1<=a:=by
    by_cases h0:a=0
    ·subst h0;omega
    ·omega
   refine⟨trivial,by omega,by omega,by omega,by omega,by rw[amx];exact h5,?_,?_⟩
   ·rw[aam,aam];rw[Nat.pow_succ]at h7;omega
   rw[aam,aam,hd];exact h6
end
section
def sP(x0:anP):Te (Bool) Empty:=.q ((bW 0 0&&bW 0 2&&bW 2 (aC x0)) || !(bW 2 (aC x0))) (.k (aab (bW 2 (aC x0)) (cut x0 0 2==[120,45])))
def sQ(x0:anP):=(sP x0).o
def LZ:=(uI.e (E:=E) mix).f0 21 [.str] [.bool] (fun a=>sP a) Tryz.func21
inductive Cg where
 | e (x0:anP)
 | h0 (v0:anP) (v1:List (anP)) (v2:Int)
def tN:Cg->Te (Int) Cg
 | .e x0=>.g (.h0 x0 [[114,101,115,116,97,114,116],[99,112,117,115],[109,101,109,95,108,105,109,105,116],[115,99,97,108,101],[105,109,97,103,101],[99,111,109,109,97,110,100],[101,110,118,105,114,111,110,109,101,110,116],[108,97,98,101,108,115],[110,101,116,119,111,114,107,115],[112,111,114,116,115],[118,111,108,117,109,101,115],[100,101,112,101,110,100,115,95,111,110],[101,120,116,101,110,100,115],[104,101,97,108,116,104,99,104,101,99,107]] 0)
 | .h0 v0 v1 v2=>.b (aF v2 (aC v1)) (.i v1 v2 fun y1=>.b (y1==v0) (.k v2) (.g (.h0 v0 v1 (au (v2+1))))) (.b (v0==[112,114,111,102,105,108,101,115]) (.k 8) (.k (-1)))
def Ch(x0:anP):=mu tN (.e x0)
def MO:=LZ.fl 22 [.str] [.int] tN (fun a=>.e a) (fun | .e x0=>.e [⟨.str,x0⟩] | .h0 v0 v1 v2=>.h 0 ⟨21,[(0,.d (.str v0)),(3,.d (.slice .str v1)),(4,.d (.int .i64 v2))],[],0⟩) { live:=[(0,[0,3,4])] } Tryz.func22
inductive C8 where
 | e (x0:anP)
 | h0 (v0:anP) (v1:Int)
def lK:C8->Te (Bool) C8
 | .e x0=>.q ((bW 0 0&&aF 0 (aC x0)) || !((!(aC x0==0))&&aF 1 (aC x0))) (.b (aN (aC x0==0) (aab (aF 1 (aC x0)) (tH x0 0==48))) (.k false) (.g (.h0 x0 0)))
 | .h0 v0 v1=>.b (aF v1 (aC v0)) (.s v0 v1 fun y1=>.q ((bW 0 v1&&aF v1 (aC v0)) || !(!(aF y1 48))) (.b (aN (aF y1 48) (aF 57 y1)) (.k false) (.g (.h0 v0 (au (v1+1)))))) (.k true)
def lM(x0:anP):=mu lK (.e x0)
def N8:=MO.fl 164 [.str] [.bool] lK (fun a=>.e a) (fun | .e x0=>.e [⟨.str,x0⟩] | .h0 v0 v1=>.h 0 ⟨33,[(0,.d (.str v0)),(3,.d (.int .i64 v1))],[],0⟩) { live:=[(0,[0,3])] } Tryz.func164
inductive C9 where
 | e (x0:anP) (x1:Int)
 | h0 (v0:anP) (v1:Int) (v2:Int) (v3:Int)
def pJ:C9->Te (Int×Int) C9
 | .e x0 x1=>.b (aF x1 0) (.k (0,2)) (.c (lM x0) fun y1=>.b (!y1) (.k (0,3)) (.b (aF 19 (aC x0)) (.k (0,9)) (.g (.h0 x0 x1 0 0))))
 | .h0 v0 v1 v2 v3=>.b (aF v3 (aC v0)) (.s v0 v3 fun y1=>.g (.h0 v0 v1 (IntKind.wrap .u64 ((IntKind.wrap .u64 ((IntKind.wrap .u64 (v2*10))+(IntKind.wrap .u64 y1)))-48)) (au (v3+1)))) (.b (aF (IntKind.wrap .u64 v1) v2) (.k (0,9)) (.k (au v2,0)))
def dL(x0:anP)(x1:Int):=mu pJ (.e x0 x1)
def N9:=N8.fl 126 [.str,.int] [.int,.aY] pJ (fun a=>.e a.1 a.2) (fun | .e x0 x1=>.e [⟨.str,x0⟩,⟨.int,x1⟩] | .h0 v0 v1 v2 v3=>.h 0 ⟨36,[(0,.d (.str v0)),(1,.d (.int .i64 v1)),(6,.d (.int .u64 v2)),(7,.d (.int .i64 v3))],[],0⟩) { live:=[(0,[0,1,6,7])] } Tryz.func126
def uY(x0:anP):Te (Bool) Empty:=.q ((bW 0 0&&bW 0 11&&bW 11 (aC x0)) || !(aF 11 (aC x0))) (.b (aab (aF 11 (aC x0)) (cut x0 0 11==[111,110,45,102,97,105,108,117,114,101,58])) (.q (bM x0 11 (aC x0)) (.c (dL (cut x0 11 (aC x0)) 10) fun y1=>.k (aab (y1.2==0) (aF 0 y1.1)))) (.k (aN (aN (aN (x0==[110,111]) (x0==[97,108,119,97,121,115])) (x0==[117,110,108,101,115,115,45,115,116,111,112,112,101,100])) (x0==[111,110,45,102,97,105,108,117,114,101]))))
def Da(x0:anP):=(uY x0).o
def Oa:=N9.f0 121 [.str] [.bool] (fun a=>uY a) Tryz.func121
inductive Db where
 | e (x0:anP)
 | h0 (v0:anP) (v1:Int) (v2:Int)
def uZ:Db->Te (Int) Db
 | .e x0=>.g (.h0 x0 0 0)
 | .h0 v0 v1 v2=>.b (aF v2 (aC v0)) (.s v0 v2 fun y1=>.l (au (au (au (v1*10)+au y1)-48)) fun z1=>.b (bW 72057594037927936 z1) (.k 1152921504606846976) (.g (.h0 v0 z1 (au (v2+1))))) (.k v1)
def lN(x0:anP):=mu uZ (.e x0)
def Ob:=Oa.fl 165 [.str] [.int] uZ (fun a=>.e a) (fun | .e x0=>.e [⟨.str,x0⟩] | .h0 v0 v1 v2=>.h 0 ⟨22,[(0,.d (.str v0)),(3,.d (.int .i64 v1)),(4,.d (.int .i64 v2))],[],0⟩) { live:=[(0,[0,3,4])] } Tryz.func165
inductive pO where
 | e (x0:anP)
 | h0 (v0:anP) (v1:Int)
 | h1 (v0:anP) (v1:Int) (v2:anP) (v3:Int)
 | h2 (v0:anP) (v1:Int) (v2:anP)
def lQ:pO->Te (Int×Int) pO
 | .e x0=>.g (.h0 x0 0)
 | .h0 v0 v1=>.l (au (v1+1)) fun z4=>.l (aF v1 (aC v0)) fun z3=>.l (lM (cut v0 0 v1)) fun z2=>.l (cut v0 z4 (aC v0)) fun z1=>.l (au (aC z1-1)) fun z6=>.l (aN (aF (aC z1) 1) (aF 3 (aC z1))) fun z5=>.q ((bW 0 v1&&aF v1 (aC v0)) || !z3) (.b (aab z3 (tH v0 v1 != 46)) (.g (.h0 v0 z4)) (.b z3 (.q (bM v0 z4 (aC v0)) (.q ((bW 0 z6&&aF z6 (aC z1)) || !(!z5)) (.b (aN z5 (tH z1 z6==48)) (.k (0,3)) (.q (bM v0 0 v1) (.c z2 fun y1=>.b (!y1) (.k (0,3)) (.g (.h1 v0 v1 z1 0))))))) (.q (bM v0 0 v1) (.c z2 fun y2=>.b (!y2) (.k (0,3)) (.g (.h1 v0 v1 [] 0))))))
 | .h1 v0 v1 v2 v3=>.b (aF v3 (aC v2)) (.s v2 v3 fun y1=>.q ((bW 0 v3&&aF v3 (aC v2)) || !(!(aF y1 48))) (.b (aN (aF y1 48) (aF 57 y1)) (.k (0,3)) (.g (.h1 v0 v1 v2 (au (v3+1)))))) (.g (.h2 v0 v1 v2))
 | .h2 v0 v1 v2=>.l (lN v2) fun z1=>.b (aF (aC v2) 3) (.q (decide (v2.length+([48]:anP).length<=aA)) (.g (.h2 v0 v1 (v2++([48]:anP))))) (.q (bM v0 0 v1) (.c (lN (cut v0 0 v1)) fun y1=>.l (aF 9007199254740 y1) fun z2=>.q ((z1.isSome) || !(!z2)) (.b (aN z2 (aF 9007199254740992 (au (au (y1*1000)+gv z1)))) (.k (0,9)) (.c z1 fun y2=>.k (au (au (y1*1000)+y2),0)))))
def u6(x0:anP):=mu lQ (.e x0)
def Oc:=Ob.fl 122 [.str] [.int,.aY] lQ (fun a=>.e a) (fun | .e x0=>.e [⟨.str,x0⟩] | .h0 v0 v1=>.h 0 ⟨89,[(0,.d (.str v0)),(4,.d (.int .i64 v1))],[],0⟩ | .h1 v0 v1 v2 v3=>.h 1 ⟨89,[(0,.d (.str v0)),(4,.d (.int .i64 v1)),(5,.d (.str v2)),(6,.d (.int .i64 v3))],[],0⟩ | .h2 v0 v1 v2=>.h 2 ⟨89,[(0,.d (.str v0)),(4,.d (.int .i64 v1)),(5,.d (.str v2))],[],0⟩) { live:=[(0,[0,4]),(1,[0,4,5,6]),(2,[0,4,5])] } Tryz.func122
def wQ(x0:anP):Te (Int) Empty:=.b (aN (x0==[]) (x0==[98])) (.k 1) (.b (aN (x0==[107]) (x0==[107,98])) (.k 1024) (.b (aN (x0==[109]) (x0==[109,98])) (.k 1048576) (.b (aN (x0==[103]) (x0==[103,98])) (.k 1073741824) (.k 0))))
def ET(x0:anP):=(wQ x0).o
def Pv:=Oc.f0 166 [.str] [.int] (fun a=>wQ a) Tryz.func166
inductive Dc where
 | e (x0:anP)
 | h0 (v0:anP) (v1:Int)
def u7:Dc->Te (Int×Int) Dc
 | .e x0=>.g (.h0 x0 0)
 | .h0 v0 v1=>.l (bW 0 v1&&aF v1 (aC v0)) fun z3=>.l (lM (cut v0 0 v1)) fun z2=>.l (aab (aF v1 (aC v0)) (bW 48 (tH v0 v1))) fun z1=>.q (z3 || !(aF v1 (aC v0))) (.q (z3 || !z1) (.b (aab z1 (bW (tH v0 v1) 57)) (.g (.h0 v0 (au (v1+1)))) (.q (bM v0 v1 (aC v0)) (.c (ET (cut v0 v1 (aC v0))) fun y1=>.l (y1==0) fun z4=>.q ((bW 0 0&&bW 0 v1&&bW v1 (aC v0)) || !(!z4)) (.q ((z2.isSome) || !(!z4)) (.b (aN z4 (!(gv z2))) (.k (0,3)) (.q (bM v0 0 v1) (.c (lN (cut v0 0 v1)) fun y2=>.q (!z4) (.b (aF (au (Int.tdiv 1125899906842624 y1)) y2) (.k (0,9)) (.k (au (y2*y1),0)))))))))))
def vg(x0:anP):=mu u7 (.e x0)
def Od:=Pv.fl 123 [.str] [.int,.aY] u7 (fun a=>.e a) (fun | .e x0=>.e [⟨.str,x0⟩] | .h0 v0 v1=>.h 0 ⟨49,[(0,.d (.str v0)),(4,.d (.int .i64 v1))],[],0⟩) { live:=[(0,[0,4])] } Tryz.func123
def wR(x0:Int):Te (Int) Empty:=.b (aN (aF x0 0) (aF 1125899906842624 x0)) (.k 0) (.q ((!((1024:Int)==0)) || !(!(x0==0))) (.b (aN (x0==0) ((Int.tmod x0 1024)!=0)) (.k 1) (.q (!((1048576:Int)==0)) (.b ((Int.tmod x0 1048576)!=0) (.k 1024) (.q (!((1073741824:Int)==0)) (.b ((Int.tmod x0 1073741824)!=0) (.k 1048576) (.k 1073741824)))))))
def EU(x0:Int):=(wR x0).o
def Pw:=Od.f0 167 [.int] [.int] (fun a=>wR a) Tryz.func167
inductive Ci where
 | e (x0:Int)
 | h0 (v0:Int) (v1:anP)
def tO:Ci->Te ((anP)) Ci
 | .e x0=>.g (.h0 x0 [])
 | .h0 v0 v1=>.l (!((10:Int)==0)) fun z3=>.l (IntKind.wrap .u8 (IntKind.wrap .u64 (48+v0))) fun z2=>.l (IntKind.wrap .u8 (IntKind.wrap .u64 (48+(Int.tmod v0 10)))) fun z1=>.b (bW 10 v0) (.q z3 (.q (decide ((List.map (fun y=>UInt8.ofNat (Int.toNat y)) [z1]).length+v1.length<=aA)) (.q z3 (.g (.h0 (IntKind.wrap .u64 (Int.tdiv v0 10)) ((List.map (fun y=>UInt8.ofNat (Int.toNat y)) [z1])++v1)))))) (.q (decide ((List.map (fun y=>UInt8.ofNat (Int.toNat y)) [z2]).length+v1.length<=aA)) (.k ((List.map (fun y=>UInt8.ofNat (Int.toNat y)) [z2])++v1)))
def tQ(x0:Int):=mu tO (.e x0)
def MP:=Pw.fl 178 [.u64] [.str] tO (fun a=>.e a) (fun | .e x0=>.e [⟨.u64,x0⟩] | .h0 v0 v1=>.h 0 ⟨23,[(0,.d (.int .u64 v0)),(3,.d (.str v1))],[],0⟩) { live:=[(0,[0,3])] } Tryz.func178
def wT(x0:Int):Te ((anP)) Empty:=.l (IntKind.wrap .u64 x0) fun z1=>.b (aF x0 0) (.c (tQ (IntKind.wrap .u64 (0-z1))) fun y1=>.q (decide (([45]:anP).length+y1.length<=aA)) (.k (([45]:anP)++y1))) (.c (tQ z1) fun y2=>.k y2)
def fQ(x0:Int):=(wT x0).o
def Px:=MP.f0 139 [.int] [.str] (fun a=>wT a) Tryz.func139
def wU(x0:Int):Te ((anP)) Empty:=.c (EU x0) fun y1=>.b (y1==0) (.k []) (.q (!(y1==0)) (.c (fQ (au (Int.tdiv x0 y1))) fun y2=>.b (y1==1024) (.q (decide (y2.length+([107]:anP).length<=aA)) (.k (y2++([107]:anP)))) (.b (y1==1048576) (.q (decide (y2.length+([109]:anP).length<=aA)) (.k (y2++([109]:anP)))) (.b (y1==1073741824) (.q (decide (y2.length+([103]:anP).length<=aA)) (.k (y2++([103]:anP)))) (.k y2)))))
def EW(x0:Int):=(wU x0).o
def Py:=Px.f0 125 [.int] [.str] (fun a=>wU a) Tryz.func125
def EX(x0:anP):Te (Node) Empty:=.k ⟨1,x0,[],[]⟩
def ay(x0:anP):=(EX x0).o
def Pz:=Py.f0 124 [.str] [.ah] (fun a=>EX a) Tryz.func124
def yB(x0:Node)(x1:Int):Te (Node×Bool) Empty:=.l (aj x0) fun z1=>.b (x0.kind != 1) (.k (⟨0,[],[],[]⟩,false)) (.b (x1==0) (.c (Da x0.text) fun y1=>.b (!y1) (.k (⟨0,[],[],[]⟩,false)) (.k (z1,true))) (.b (x1==1) (.c (u6 x0.text) fun y2=>.b (!(aab (y2.2==0) (aF 0 y2.1))) (.k (⟨0,[],[],[]⟩,false)) (.k (z1,true))) (.b (x1==2) (.c (vg x0.text) fun y3=>.c (EW (y3.1)) fun y4=>.c (ay y4) fun y5=>.b (!(aab (y3.2==0) (aF 0 y3.1))) (.k (⟨0,[],[],[]⟩,false)) (.k (aj y5,true))) (.b (x1==3) (.c (dL x0.text 8) fun y6=>.b (!(y6.2==0)) (.k (⟨0,[],[],[]⟩,false)) (.k (z1,true))) (.b (!(aab (bW 1 (aC x0.text)) (bW (aC x0.text) 64))) (.k (⟨0,[],[],[]⟩,false)) (.k (z1,true)))))))
def Gy(x0:Node)(x1:Int):=(yB x0 x1).o
def RN:=Pz.f0 54 [.ah,.int] [.ah,.bool] (fun a=>yB a.1 a.2) Tryz.func54
inductive Dh where
 | e (x0:Node)
 | h0 (v0:Nat) (v1:Int) (v2:Node) (v3:List (anP))
def pQ:Dh->Te ((List (anP))×Bool) Dh
 | .e x0=>.b (aN (x0.kind != 2) (aF 32 (aC x0.kids))) (.k ([],false)) (.g (.h0 0 0 x0 []))
 | .h0 _ v1 v2 v3=>.b (aF v1 (aC v2.kids)) (.i v2.kids v1 fun y1=>.l (v3.length+([y1.text]:List (anP)).length) fun z1=>.b (y1.kind != 1) (.k (v3,false)) (.q (fV v2.kids v1) (.q (decide (z1*16<=aB)) (.g (.h0 z1 (au (v1+1)) v2 (v3++([y1.text]:List (anP)))))))) (.k (v3,true))
def jS(x0:Node):=mu pQ (.e x0)
def Oe:=RN.fl 80 [.ah] [.dw,.bool] pQ (fun a=>.e a) (fun | .e x0=>.e [⟨.ah,x0⟩] | .h0 v0 v1 v2 v3=>.h 0 ⟨42,[(1,.ptr 0 0),(4,.row .str v0 1),(5,.d (.int .i64 v1))],[(0,.box [.d (.int .i64 v2.kind),.d (.str v2.text),.d (.slice .str v2.keys),.d (.slice .ah v2.kids)]),(1,.row .str v3)],2⟩) { live:=[(0,[1,4,5])] } Tryz.func80
def Di(x0:Int):Te (Bool) Empty:=.k (aN (x0==32) (x0==9))
def vk(x0:Int):=(Di x0).o
def Og:=Oe.f0 168 [.byte] [.bool] (fun a=>Di a) Tryz.func168
inductive pR where
 | e (x0:anP) (x1:Int)
 | h0 (v0:anP) (v1:Int) (v2:Int)
 | h1 (v0:anP) (v1:Int) (v2:anP)
def lS:pR->Te ((anP)×Int) pR
 | .e x0 x1=>.l (au (x1+2)) fun z2=>.l (au (x1+1)) fun z1=>.s x0 x1 fun y1=>.b (y1==92) (.b (z1==aC x0) (.k ([],(-1))) (.q (bM x0 z1 z2) (.k (cut x0 z1 z2,z2)))) (.b (y1==39) (.g (.h0 x0 x1 z1)) (.b (y1 != 34) (.q (bM x0 x1 z1) (.k (cut x0 x1 z1,z1))) (.g (.h1 x0 z1 []))))
 | .h0 v0 v1 v2=>.b (aF v2 (aC v0)) (.s v0 v2 fun y1=>.b (y1==39) (.q (bM v0 (au (v1+1)) v2) (.k (cut v0 (au (v1+1)) v2,au (v2+1)))) (.g (.h0 v0 v1 (au (v2+1))))) (.k ([],(-1)))
 | .h1 v0 v1 v2=>.l (au (v1+1)) fun z1=>.l (v2++cut v0 v1 z1) fun z4=>.l (decide (v2.length+(cut v0 v1 z1).length<=aA)) fun z3=>.l (au (z1+1)) fun z2=>.l (cut v0 z1 z2) fun z5=>.b (aF v1 (aC v0)) (.s v0 v1 fun y1=>.b (y1==34) (.k (v2,z1)) (.q (fV v0 v1) (.b (y1==92) (.b (z1==aC v0) (.k ([],(-1))) (.s v0 z1 fun y3=>.q ((bW 0 z1&&aF z1 (aC v0)) || !(y3 != 34)) (.b (aab (y3 != 34) (y3 != 92)) (.q (bM v0 v1 z1) (.q z3 (.q (bM v0 z1 z2) (.q (decide (z4.length+z5.length<=aA)) (.g (.h1 v0 z2 (z4++z5))))))) (.q (bM v0 z1 z2) (.q (decide (v2.length+z5.length<=aA)) (.g (.h1 v0 z2 (v2++z5)))))))) (.q (bM v0 v1 z1) (.q z3 (.g (.h1 v0 z1 z4))))))) (.k ([],(-1)))
def Dj(x0:anP)(x1:Int):=mu lS (.e x0 x1)
def Oh:=Og.fl 169 [.str,.int] [.str,.int] lS (fun a=>.e a.1 a.2) (fun | .e x0 x1=>.e [⟨.str,x0⟩,⟨.int,x1⟩] | .h0 v0 v1 v2=>.h 0 ⟨109,[(0,.d (.str v0)),(1,.d (.int .i64 v1)),(7,.d (.int .i64 v2))],[],0⟩ | .h1 v0 v1 v2=>.h 1 ⟨109,[(0,.d (.str v0)),(1,.d (.int .i64 v1)),(8,.d (.str v2))],[],0⟩) { live:=[(0,[0,1,7]),(1,[0,1,8])] } Tryz.func169
inductive pU where
 | e (x0:anP)
 | h0 (v0:anP) (v1:Nat) (v2:Int) (v3:List (anP))
 | h1 (v0:anP) (v1:Nat) (v2:Int) (v3:anP) (v4:List (anP))
def pV:pU->Te ((List (anP))×Int) pU
 | .e x0=>.g (.h0 x0 0 0 [])
 | .h0 v0 v1 v2 v3=>.b (aF v2 (aC v0)) (.s v0 v2 fun y1=>.c (vk y1) fun y2=>.b y2 (.g (.h0 v0 v1 (au (v2+1)) v3)) (.g (.h1 v0 v1 v2 [] v3))) (.b (aF 32 ((v1:Nat):Int)) (.k ([],9)) (.k (v3,0)))
 | .h1 v0 v1 v2 v3 v4=>.l (aF v2 (aC v0)) fun z3=>.l (vk (tH v0 v2)) fun z2=>.l (v4.length+([v3]:List (anP)).length) fun z1=>.q ((bW 0 v2&&aF v2 (aC v0)) || !z3) (.q ((z2.isSome) || !z3) (.b (aab z3 (!(gv z2))) (.c (Dj v0 v2) fun y1=>.b (aF y1.2 0) (.k ([],3)) (.q (decide (v3.length+(y1.1).length<=aA)) (.g (.h1 v0 v1 (y1.2) (v3++y1.1) v4)))) (.q (decide (z1*16<=aB)) (.g (.h0 v0 z1 v2 (v4++([v3]:List (anP))))))))
def vo(x0:anP):=mu pV (.e x0)
def Oi:=Oh.fl 127 [.str] [.dw,.aY] pV (fun a=>.e a) (fun | .e x0=>.e [⟨.str,x0⟩] | .h0 v0 v1 v2 v3=>.h 0 ⟨51,[(0,.d (.str v0)),(4,.row .str v1 0),(5,.d (.int .i64 v2))],[(0,.row .str v3)],1⟩ | .h1 v0 v1 v2 v3 v4=>.h 1 ⟨51,[(0,.d (.str v0)),(4,.row .str v1 0),(5,.d (.int .i64 v2)),(6,.d (.str v3))],[(0,.row .str v4)],1⟩) { live:=[(0,[0,4,5]),(1,[0,4,5,6])] } Tryz.func127
inductive Dk where
 | e (x0:Node)
 | h0 (v0:List (anP)) (v1:Int) (v2:Int) (v3:anP) (v4:Int) (v5:anP) (v6:List Node)
def pW:Dk->Te (Node×Bool) Dk
 | .e x0=>.c (jS (aj x0)) fun y1=>.b (x0.kind==1) (.c (vo x0.text) fun y2=>.b (!(y2.2==0)) (.k (⟨0,[],[],[]⟩,false)) (.g (.h0 (y2.1) 0 0 [] 2 [] []))) (.b (!y1.2) (.k (⟨0,[],[],[]⟩,false)) (.g (.h0 (y1.1) 0 0 [] 2 [] [])))
 | .h0 v0 v1 v2 v3 v4 v5 v6=>.b (aF v1 (aC v0)) (.i v0 v1 fun y1=>.c (ay y1) fun y2=>.q (decide ((v6.length+([y2]:List Node).length)*72<=aB)) (.g (.h0 v0 (au (v1+1)) v2 v3 v4 v5 (v6++([y2]:List Node))))) (.k (⟨v4,v5,[],v6⟩,true))
def Dl(x0:Node):=mu pW (.e x0)
def Oj:=Oi.fl 55 [.ah] [.ah,.bool] pW (fun a=>.e a) (fun | .e x0=>.e [⟨.ah,x0⟩] | .h0 v0 v1 v2 v3 v4 v5 v6=>.h 0 ⟨48,[(2,.ptr 0 0),(4,.d (.slice .str v0)),(8,.ptr 1 0),(9,.d (.int .i64 v1))],[(0,.box [.d (.int .i64 v2),.d (.str v3),.d (.raw (.slice none 0 0)),.d (.raw (.slice none 0 0))]),(1,.box [.d (.int .i64 v4),.d (.str v5),.d (.raw (.slice none 0 0)),.grow .ah v6 2]),(2,.tail true)],3⟩) { live:=[(0,[2,4,8,9])],oO:=[(0,[(8,some 3,true,.ah)])] } Tryz.func55
def Gz(x0:anP)(x1:Bool):Te (Bool) Empty:=.b x1 (.k ((bO LP) x0)) (.k ((bO fK) x0))
def yC(x0:anP)(x1:Bool):=(Gz x0 x1).o
def RO:=((Oj.W 78 Rp alD).W 170 NU ai2).f0 128 [.str,.bool] [.bool] (fun a=>Gz a.1 a.2) Tryz.func128
def wV(x0:Node)(x1:Bool):Te (Node×Bool) Empty:=.b (aN (!x1) (aF 32 (aC x0.keys))) (.k (⟨0,[],[],[]⟩,false)) (.q ((wg 10000 12) ⟨3,x0.text,x0.keys,x0.kids⟩) (.k (aj ((aK 12) ⟨3,x0.text,x0.keys,x0.kids⟩),true)))
def aH(x0:Node)(x1:Bool):=(wV x0 x1).o
def PD:=(RO.W 14 (kT 12) (CZ 12)).f0 81 [.ah,.bool] [.ah,.bool] (fun a=>wV a.1 a.2) Tryz.func81
inductive pX where
 | e (x0:Node) (x1:Bool)
 | h0 (v0:Bool) (v1:List (anP)) (v2:Int) (v3:Int) (v4:anP) (v5:Node)
 | h1 (v0:Bool) (v1:List (anP)) (v2:Int) (v3:Int) (v4:Int) (v5:anP) (v6:Node)
 | h2 (v0:Bool) (v1:Int) (v2:Node) (v3:Int) (v4:anP) (v5:Node)
def jT:pX->Te (Node×Bool) pX
 | .e x0 x1=>.c (jS (aj x0)) fun y1=>.b y1.2 (.g (.h0 x1 (y1.1) 0 0 [] ⟨0,[],[],[]⟩)) (.b (x0.kind != 3) (.k (⟨0,[],[],[]⟩,false)) (.g (.h2 x1 0 x0 0 [] ⟨0,[],[],[]⟩)))
 | .h0 v0 v1 v2 v3 v4 v5=>.b (aF v2 (aC v1)) (.g (.h1 v0 v1 v2 0 v3 v4 v5)) (.c (aH (aj v5) true) fun y1=>.k (aj (y1.1),y1.2))
 | .h1 v0 v1 v2 v3 v4 v5 v6=>.l (au (v3+1)) fun z3=>.l (aj v6) fun z2=>.l (fV v1 v2) fun z1=>.i v1 v2 fun y1=>.l (aF v3 (aC y1)) fun z5=>.l (cut y1 0 v3) fun z4=>.l (yC z4 v0) fun z7=>.l ((fun l _=>pE l) v6.keys z4) fun z6=>.q ((bW 0 v2&&aF v2 (aC v1)) || !z5) (.q ((bW 0 v3&&aF v3 (aC y1)) || !z5) (.b (aab z5 (tH y1 v3 != 61)) (.g (.h1 v0 v1 v2 z3 v4 v5 v6)) (.q z1 (.b z5 (.q z1 (.q (bM y1 z3 (aC y1)) (.q z1 (.q (bM y1 0 v3) (.c z7 fun y5=>.q (z6 || !(!(!y5))) (.b (aN (!y5) (fA v6.keys z4)) (.k (⟨0,[],[],[]⟩,false)) (.c (ay (cut y1 z3 (aC y1))) fun y6=>.q (ig z2 z4 y6) (.g (.h0 v0 v1 (au (v2+1)) v4 v5 (aZ z2 z4 y6)))))))))) (.q z1 (.q (bM y1 0 v3) (.c z7 fun y8=>.q (z6 || !(!(!y8))) (.b (aN (!y8) (fA v6.keys z4)) (.k (⟨0,[],[],[]⟩,false)) (.c (ay []) fun y9=>.q (ig z2 z4 y9) (.g (.h0 v0 v1 (au (v2+1)) v4 v5 (aZ z2 z4 y9))))))))))))
 | .h2 v0 v1 v2 v3 v4 v5=>.l (aj v5) fun z1=>.b (aF v1 (aC v2.keys)) (.i v2.keys v1 fun y1=>.c (yC y1 v0) fun y2=>.q ((bW 0 v1&&aF v1 (aC v2.kids)) || !(!(!y2))) (.b (aN (!y2) (aF 1 (Am v2.kids v1 (dflt .ah)).kind)) (.k (⟨0,[],[],[]⟩,false)) (.q (fV v2.keys v1) (.i v2.kids v1 fun y4=>.c (ay (y4.text)) fun y5=>.q (ig z1 y1 y5) (.g (.h2 v0 (au (v1+1)) v2 v3 v4 (aZ z1 y1 y5))))))) (.c (aH z1 true) fun y6=>.k (aj (y6.1),y6.2))
def Dm(x0:Node)(x1:Bool):=mu jT (.e x0 x1)
def Ol:=((PD.W 10 ap3 aBA).W 24 adl avN).fl 56 [.ah,.bool] [.ah,.bool] jT (fun a=>.e a.1 a.2) (fun | .e x0 x1=>.e [⟨.ah,x0⟩,⟨.bool,x1⟩] | .h0 v0 v1 v2 v3 v4 v5=>.h 0 ⟨132,[(1,.d (.bool v0)),(4,.ptr 0 0),(6,.ptr 1 0),(7,.d (.slice .str v1)),(9,.d (.int .i64 v2))],[(0,.box [.d (.int .i64 v3),.d (.str v4),.d (.raw (.slice none 0 0)),.d (.raw (.slice none 0 0))]),(1,.box [.d (.int .i64 v5.kind),.d (.str v5.text),.d (.slice .str v5.keys),.d (.slice .ah v5.kids)])],2⟩ | .h1 v0 v1 v2 v3 v4 v5 v6=>.h 1 ⟨132,[(1,.d (.bool v0)),(4,.ptr 0 0),(6,.ptr 1 0),(7,.d (.slice .str v1)),(9,.d (.int .i64 v2)),(10,.d (.int .i64 v3))],[(0,.box [.d (.int .i64 v4),.d (.str v5),.d (.raw (.slice none 0 0)),.d (.raw (.slice none 0 0))]),(1,.box [.d (.int .i64 v6.kind),.d (.str v6.text),.d (.slice .str v6.keys),.d (.slice .ah v6.kids)])],2⟩ | .h2 v0 v1 v2 v3 v4 v5=>.h 2 ⟨132,[(1,.d (.bool v0)),(2,.ptr 0 0),(4,.ptr 1 0),(6,.ptr 2 0),(13,.d (.int .i64 v1))],[(0,.box [.d (.int .i64 v2.kind),.d (.str v2.text),.d (.slice .str v2.keys),.d (.slice .ah v2.kids)]),(1,.box [.d (.int .i64 v3),.d (.str v4),.d (.raw (.slice none 0 0)),.d (.raw (.slice none 0 0))]),(2,.box [.d (.int .i64 v5.kind),.d (.str v5.text),.d (.slice .str v5.keys),.d (.slice .ah v5.kids)])],3⟩) { live:=[(0,[1,4,6,7,9]),(1,[1,4,6,7,9,10]),(2,[1,2,4,6,13])],oO:=[(0,[(6,some 2,false,.str),(6,some 3,false,.ah)]),(2,[(6,some 2,false,.str),(6,some 3,false,.ah)])] } Tryz.func56
inductive GA where
 | e (x0:Node)
 | h0 (v0:List (anP)) (v1:Bool) (v2:Int) (v3:Node) (v4:Int) (v5:anP)
 | h1 (v0:List (anP)) (v1:Bool) (v2:Int) (v3:Int) (v4:anP) (v5:Node)
def nO:GA->Te (Node×Bool) GA
 | .e x0=>.c (jS (aj x0)) fun y1=>.b (aab (x0.kind==3) (bW (aC x0.keys) 32)) (.g (.h0 x0.keys true 0 x0 0 [])) (.g (.h1 (y1.1) (y1.2) 0 0 [] ⟨0,[],[],[]⟩))
 | .h0 v0 v1 v2 v3 v4 v5=>.l (bW 0 v2&&aF v2 (aC v3.kids)) fun z1=>.b (aF v2 (aC v3.kids)) (.i v3.kids v2 fun y1=>.l (y1.kind != 0) fun z2=>.q (z1 || !z2) (.q (z1 || !(z2&&(!(y1.kind != 3)))) (.b (aab z2 (aN (y1.kind != 3) (aF 0 (aC (y1.keys))))) (.g (.h0 v0 false (au (v2+1)) v3 v4 v5)) (.g (.h0 v0 v1 (au (v2+1)) v3 v4 v5))))) (.g (.h1 v0 v1 0 v4 v5 ⟨0,[],[],[]⟩))
 | .h1 v0 v1 v2 v3 v4 v5=>.l (aj v5) fun z1=>.b (aab (aF v2 (aC v0)) v1) (.i v0 v2 fun y1=>.q (fV v0 v2) (.q (ig z1 y1 ⟨0,[],[],[]⟩) (.g (.h1 v0 ((bO fK) y1) (au (v2+1)) v3 v4 (aZ z1 y1 ⟨0,[],[],[]⟩))))) (.c (aH z1 v1) fun y3=>.k (aj (y3.1),y3.2))
def yD(x0:Node):=mu nO (.e x0)
def RQ:=Ol.fl 34 [.ah] [.ah,.bool] nO (fun a=>.e a) (fun | .e x0=>.e [⟨.ah,x0⟩] | .h0 v0 v1 v2 v3 v4 v5=>.h 0 ⟨85,[(1,.ptr 0 0),(2,.ptr 1 0),(4,.d (.slice .str v0)),(5,.d (.bool v1)),(6,.d (.int .i64 v2))],[(0,.box [.d (.int .i64 v3.kind),.d (.str v3.text),.d (.slice .str v3.keys),.d (.slice .ah v3.kids)]),(1,.box [.d (.int .i64 v4),.d (.str v5),.d (.raw (.slice none 0 0)),.d (.raw (.slice none 0 0))])],2⟩ | .h1 v0 v1 v2 v3 v4 v5=>.h 1 ⟨85,[(2,.ptr 0 0),(4,.d (.slice .str v0)),(5,.d (.bool v1)),(7,.ptr 1 0),(8,.d (.int .i64 v2))],[(0,.box [.d (.int .i64 v3),.d (.str v4),.d (.raw (.slice none 0 0)),.d (.raw (.slice none 0 0))]),(1,.box [.d (.int .i64 v5.kind),.d (.str v5.text),.d (.slice .str v5.keys),.d (.slice .ah v5.kids)])],2⟩) { live:=[(0,[1,2,4,5,6]),(1,[2,4,5,7,8])],oO:=[(1,[(7,some 2,false,.str),(7,some 3,false,.ah)])] } Tryz.func34
inductive GD where
 | e (x0:anP) (x1:Int)
 | h0 (v0:anP) (v1:Int) (v2:Nat) (v3:Int) (v4:Int) (v5:List (anP))
def yE:GD->Te ((List (anP))) GD
 | .e x0 x1=>.g (.h0 x0 x1 0 0 0 [])
 | .h0 v0 v1 v2 v3 v4 v5=>.l (cut v0 v3 (aC v0)) fun z3=>.l (au (v4+1)) fun z2=>.l (v5.length+([cut v0 v3 v4]:List (anP)).length) fun z1=>.b (aF v4 (aC v0)) (.s v0 v4 fun y1=>.b (y1==v1) (.q (bM v0 v3 v4) (.q (decide (z1*16<=aB)) (.g (.h0 v0 v1 z1 z2 z2 (v5++([cut v0 v3 v4]:List (anP))))))) (.g (.h0 v0 v1 v2 v3 z2 v5))) (.q (bM v0 v3 (aC v0)) (.q (decide ((v5.length+([z3]:List (anP)).length)*16<=aB)) (.k (v5++([z3]:List (anP))))))
def jI(x0:anP)(x1:Int):=mu yE (.e x0 x1)
def RS:=RQ.fl 203 [.str,.byte] [.dw] yE (fun a=>.e a.1 a.2) (fun | .e x0 x1=>.e [⟨.str,x0⟩,⟨.byte,x1⟩] | .h0 v0 v1 v2 v3 v4 v5=>.h 0 ⟨35,[(0,.d (.str v0)),(1,.d (.int .u8 v1)),(5,.row .str v2 0),(6,.d (.int .i64 v3)),(7,.d (.int .i64 v4))],[(0,.row .str v5)],1⟩) { live:=[(0,[0,1,5,6,7])] } Tryz.func203
inductive A8 where
 | e (x0:anP)
 | h0 (v0:List (anP)) (v1:Int)
def nP:A8->Te (Bool) A8
 | .e x0=>.c (jI x0 46) fun y1=>.b (aC y1 != 4) (.k false) (.g (.h0 y1 0))
 | .h0 v0 v1=>.b (aF v1 4) (.i v0 v1 fun y1=>.c (dL y1 255) fun y2=>.b (y2.2 != 0) (.k false) (.g (.h0 v0 (au (v1+1))))) (.k true)
def A9(x0:anP):=mu nP (.e x0)
def L6:=RS.fl 230 [.str] [.bool] nP (fun a=>.e a) (fun | .e x0=>.e [⟨.str,x0⟩] | .h0 v0 v1=>.h 0 ⟨26,[(3,.d (.slice .str v0)),(4,.d (.int .i64 v1))],[],0⟩) { live:=[(0,[3,4])] } Tryz.func230
def vv(x0:Port):Te (Bool) Empty:=.l (aC x0.host==0) fun z2=>.l (A9 x0.host) fun z1=>.b (aN (aN (aN (aF x0.iW 1) (aF 65535 x0.iW)) (aF x0.out 0)) (aF 65535 x0.out)) (.k false) (.b (aab (!(x0.proto==[116,99,112])) (!(x0.proto==[117,100,112]))) (.k false) (.q ((z1.isSome) || !(!z2)) (.k (aN z2 (gv z1)))))
def bF(x0:Port):=(vv x0).o
def Om:=L6.f0 204 [.kF] [.bool] (fun a=>vv a) Tryz.func204
def vw(x0:anP):Te (Port×Int) Empty:=.l (au (aC x0-3)) fun z5=>.l (dflt .str) fun z4=>.l (aF 4 (aC x0)) fun z3=>.l (au (aC x0-4)) fun z2=>.l (cut x0 z2 (aC x0)) fun z8=>.l (aab z3 (z8==[47,116,99,112])) fun z7=>.l (bW 0 z2&&bW z2 (aC x0)&&bW (aC x0) (aC x0)) fun z6=>.l (cut x0 z5 (aC x0)) fun z1=>.q (z6 || !z3) (.q (z6 || !((!z7)&&z3)) (.b (aN z7 (aab z3 (z8==[47,117,100,112]))) (.q (bM x0 z5 (aC x0)) (.q (bM x0 0 z2) (.c (jI (cut x0 0 z2) 58) fun y1=>.l (aC y1==3) fun z9=>.q ((bW 0 0&&aF 0 (aC y1)) || !((!(aF 3 (aC y1)))&&z9)) (.b (aN (aF 3 (aC y1)) (aab z9 (aC (Am y1 0 z4)==0))) (.k (⟨[],0,0,[]⟩,3)) (.i y1 (au (aC y1-1)) fun y2=>.c (dL y2 65535) fun y3=>.l (bF ⟨[],0,y3.1,z1⟩) fun Av=>.l (y3.2 != 0) fun sI=>.q ((bW 0 1&&aF 1 (aC y1)) || !(aF 1 (aC y1)&&(!(aC y1==2)))) (.b (aab (aF 1 (aC y1)) (aN (aC y1==2) (aF 0 (aC (Am y1 1 z4))))) (.i y1 (au (aC y1-2)) fun y4=>.c (dL y4 65535) fun y5=>.l (bF ⟨[],y5.1,y3.1,z1⟩) fun z12=>.b (aN (y5.2 != 0) (y5.1==0)) (.k (⟨[],0,0,[]⟩,3)) (.b z9 (.i y1 0 fun y6=>.l (bF ⟨y6,y5.1,y3.1,z1⟩) fun z13=>.q ((z13.isSome) || !(!sI)) (.b (aN sI (!(gv z13))) (.k (⟨[],0,0,[]⟩,3)) (.k (⟨y6,y5.1,y3.1,z1⟩,0)))) (.q ((z12.isSome) || !(!sI)) (.b (aN sI (!(gv z12))) (.k (⟨[],0,0,[]⟩,3)) (.k (⟨[],y5.1,y3.1,z1⟩,0)))))) (.b z9 (.i y1 0 fun y7=>.l (bF ⟨y7,0,y3.1,z1⟩) fun z14=>.q ((z14.isSome) || !(!sI)) (.b (aN sI (!(gv z14))) (.k (⟨[],0,0,[]⟩,3)) (.k (⟨y7,0,y3.1,z1⟩,0)))) (.q ((Av.isSome) || !(!sI)) (.b (aN sI (!(gv Av))) (.k (⟨[],0,0,[]⟩,3)) (.k (⟨[],0,y3.1,z1⟩,0))))))))))) (.c (jI x0 58) fun y8=>.l (aC y8==3) fun jD=>.q ((bW 0 0&&aF 0 (aC y8)) || !((!(aF 3 (aC y8)))&&jD)) (.b (aN (aF 3 (aC y8)) (aab jD (aC (Am y8 0 z4)==0))) (.k (⟨[],0,0,[]⟩,3)) (.i y8 (au (aC y8-1)) fun y9=>.c (dL y9 65535) fun iq=>.l (bF ⟨[],0,iq.1,[116,99,112]⟩) fun z17=>.l (iq.2 != 0) fun jJ=>.q ((bW 0 1&&aF 1 (aC y8)) || !(aF 1 (aC y8)&&(!(aC y8==2)))) (.b (aab (aF 1 (aC y8)) (aN (aC y8==2) (aF 0 (aC (Am y8 1 z4))))) (.i y8 (au (aC y8-2)) fun xK=>.c (dL xK 65535) fun nG=>.l (bF ⟨[],nG.1,iq.1,[116,99,112]⟩) fun ko=>.b (aN (nG.2 != 0) (nG.1==0)) (.k (⟨[],0,0,[]⟩,3)) (.b jD (.i y8 0 fun y13=>.l (bF ⟨y13,nG.1,iq.1,[116,99,112]⟩) fun yR=>.q ((yR.isSome) || !(!jJ)) (.b (aN jJ (!(gv yR))) (.k (⟨[],0,0,[]⟩,3)) (.k (⟨y13,nG.1,iq.1,[116,99,112]⟩,0)))) (.q ((ko.isSome) || !(!jJ)) (.b (aN jJ (!(gv ko))) (.k (⟨[],0,0,[]⟩,3)) (.k (⟨[],nG.1,iq.1,[116,99,112]⟩,0)))))) (.b jD (.i y8 0 fun zY=>.l (bF ⟨zY,0,iq.1,[116,99,112]⟩) fun z20=>.q ((z20.isSome) || !(!jJ)) (.b (aN jJ (!(gv z20))) (.k (⟨[],0,0,[]⟩,3)) (.k (⟨zY,0,iq.1,[116,99,112]⟩,0)))) (.q ((z17.isSome) || !(!jJ)) (.b (aN jJ (!(gv z17))) (.k (⟨[],0,0,[]⟩,3)) (.k (⟨[],0,iq.1,[116,99,112]⟩,0)))))))))))
def Dn(x0:anP):=(vw x0).o
def Oo:=Om.f0 171 [.str] [.kF,.aY] (fun a=>vw a) Tryz.func171
def wW(x0:Port):Te ((anP)) Empty:=.l (fQ x0.out) fun z6=>.l (aF 0 (aC x0.host)) fun z5=>.l (([]:anP)++([58]:anP)) fun z4=>.l (x0.proto==[117,100,112]) fun z3=>.l (fQ x0.iW) fun z2=>.l (x0.host++([58]:anP)) fun z1=>.l (z1++([58]:anP)) fun z7=>.c (bF x0) fun y1=>.b (!y1) (.k []) (.b z5 (.q (decide (x0.host.length+([58]:anP).length<=aA)) (.b (aF 0 x0.out) (.c z6 fun y2=>.l ((z1++y2)++([58]:anP)) fun z8=>.q (decide (z1.length+y2.length<=aA)) (.q (decide ((z1++y2).length+([58]:anP).length<=aA)) (.c z2 fun y3=>.q (decide (z8.length+y3.length<=aA)) (.b z3 (.q (decide ((z8++y3).length+([47,117,100,112]:anP).length<=aA)) (.k ((z8++y3)++([47,117,100,112]:anP)))) (.k (z8++y3)))))) (.b z5 (.q (decide (z1.length+([58]:anP).length<=aA)) (.c z2 fun y4=>.q (decide (z7.length+y4.length<=aA)) (.b z3 (.q (decide ((z7++y4).length+([47,117,100,112]:anP).length<=aA)) (.k ((z7++y4)++([47,117,100,112]:anP)))) (.k (z7++y4))))) (.c z2 fun y5=>.q (decide (z1.length+y5.length<=aA)) (.b z3 (.q (decide ((z1++y5).length+([47,117,100,112]:anP).length<=aA)) (.k ((z1++y5)++([47,117,100,112]:anP)))) (.k (z1++y5))))))) (.b (aF 0 x0.out) (.c z6 fun y6=>.l (([]:anP)++y6) fun sI=>.l (sI++([58]:anP)) fun z9=>.q (decide (([]:anP).length+y6.length<=aA)) (.q (decide (sI.length+([58]:anP).length<=aA)) (.c z2 fun y7=>.q (decide (z9.length+y7.length<=aA)) (.b z3 (.q (decide ((z9++y7).length+([47,117,100,112]:anP).length<=aA)) (.k ((z9++y7)++([47,117,100,112]:anP)))) (.k (z9++y7)))))) (.b z5 (.q (decide (([]:anP).length+([58]:anP).length<=aA)) (.c z2 fun y8=>.q (decide (z4.length+y8.length<=aA)) (.b z3 (.q (decide ((z4++y8).length+([47,117,100,112]:anP).length<=aA)) (.k ((z4++y8)++([47,117,100,112]:anP)))) (.k (z4++y8))))) (.c z2 fun y9=>.l (([]:anP)++y9) fun Av=>.q (decide (([]:anP).length+y9.length<=aA)) (.b z3 (.q (decide (Av.length+([47,117,100,112]:anP).length<=aA)) (.k (Av++([47,117,100,112]:anP)))) (.k Av))))))
def wX(x0:Port):=(wW x0).o
def PE:=Oo.f0 172 [.kF] [.str] (fun a=>wW a) Tryz.func172
inductive EY where
 | e (x0:Node) (x1:List (anP))
 | h0 (v0:List (anP)) (v1:Int) (v2:Node)
def qF:EY->Te (Bool) EY
 | .e x0 x1=>.b (x0.kind != 3) (.k false) (.g (.h0 x1 0 x0))
 | .h0 v0 v1 v2=>.b (aF v1 (aC v2.keys)) (.i v2.keys v1 fun y1=>.q ((fun l _=>pE l) v0 y1) (.b (!(fA v0 y1)) (.k false) (.g (.h0 v0 (au (v1+1)) v2)))) (.k true)
def fT(x0:Node)(x1:List (anP)):=mu qF (.e x0 x1)
def PG:=PE.fl 133 [.ah,.dw] [.bool] qF (fun a=>.e a.1 a.2) (fun | .e x0 x1=>.e [⟨.ah,x0⟩,⟨.dw,x1⟩] | .h0 v0 v1 v2=>.h 0 ⟨24,[(1,.d (.slice .str v0)),(2,.ptr 0 0),(5,.d (.int .i64 v1))],[(0,.box [.d (.int .i64 v2.kind),.d (.str v2.text),.d (.slice .str v2.keys),.d (.slice .ah v2.kids)])],1⟩) { live:=[(0,[1,2,5])] } Tryz.func133
def vB(x0:Node)(x1 x2:anP):Te ((anP)×Bool) Empty:=.l (aj x0) fun z1=>.q ((fun n _=>fit n) z1 x1) (.b (!(aD z1 x1)) (.k (x2,true)) (.k ((aJ z1 x1).text,((aJ z1 x1).kind==1))))
def bJ(x0:Node)(x1 x2:anP):=(vB x0 x1 x2).o
def Oq:=(PG.W 37 abt ana).f0 134 [.ah,.str,.str] [.str,.bool] (fun a=>vB a.1 a.2.1 a.2.2) Tryz.func134
def tT(x0:Node)(x1:anP):Te (Int×Bool) Empty:=.l (aj x0) fun z1=>.q ((fun n _=>fit n) z1 x1) (.b (!(aD z1 x1)) (.k (0,true)) (.c (bJ z1 x1 []) fun y1=>.c (dL (y1.1) 65536) fun y2=>.k (y2.1,aab (aab y1.2 (y2.2==0)) (aF 0 y2.1))))
def oG(x0:Node)(x1:anP):=(tT x0 x1).o
def MQ:=Oq.f0 138 [.ah,.str] [.int,.bool] (fun a=>tT a.1 a.2) Tryz.func138
def sS(x0:Node):Te ((anP)) Empty:=.l (aj x0) fun z1=>.b (x0.kind==1) (.c (Dn x0.text) fun y1=>.b (y1.2 != 0) (.k []) (.c (wX (y1.1)) fun y2=>.k y2)) (.c (fT z1 [[116,97,114,103,101,116],[112,117,98,108,105,115,104,101,100],[104,111,115,116,95,105,112],[112,114,111,116,111,99,111,108]]) fun y3=>.b (!y3) (.k []) (.c (oG z1 [116,97,114,103,101,116]) fun y4=>.c (oG z1 [112,117,98,108,105,115,104,101,100]) fun y5=>.c (bJ z1 [104,111,115,116,95,105,112] []) fun y6=>.c (bJ z1 [112,114,111,116,111,99,111,108] [116,99,112]) fun y7=>.b (aN (aN (aN (!y4.2) (!y5.2)) (!y6.2)) (!y7.2)) (.k []) (.c (wX ⟨y6.1,y5.1,y4.1,y7.1⟩) fun y8=>.k y8)))
def sU(x0:Node):=(sS x0).o
def L8:=MQ.f0 129 [.ah] [.str] (fun a=>sS a) Tryz.func129
inductive vC where
 | e (x0:Node)
 | h0 (v0:Int) (v1:Node) (v2:Int) (v3:anP) (v4:Node)
def pY:vC->Te (Node×Bool) vC
 | .e x0=>.b (aN (aF 32 (aC x0.kids)) (aF x0.kind 2)) (.k (⟨0,[],[],[]⟩,false)) (.g (.h0 0 x0 0 [] ⟨0,[],[],[]⟩))
 | .h0 v0 v1 v2 v3 v4=>.l (Am v1.keys v0 (dflt .str)) fun z5=>.l (bW 0 v0&&aF v0 (aC v1.keys)) fun z4=>.l (vC.h0 (au (v0+1)) v1 v2 v3) fun z3=>.l (aj v4) fun z2=>.l (ay z5) fun z1=>.l (sU (gv z1)) fun z6=>.b (aF v0 (aC v1.kids)) (.b (v1.kind==2) (.i v1.kids v0 fun y1=>.c (sU (aj y1)) fun y2=>.b (y2==[]) (.k (⟨0,[],[],[]⟩,false)) (.q (ig z2 y2 ⟨0,[],[],[]⟩) (.g (z3 (aZ z2 y2 ⟨0,[],[],[]⟩))))) (.i v1.kids v0 fun y3=>.l (y3.kind==0) fun z7=>.q (z4 || !z7) (.q ((z1.isSome) || !z7) (.q ((z6.isSome) || !z7) (.q (z4 || !z7) (.b (aab z7 (gv z6==z5)) (.i v1.keys v0 fun y4=>.b (y4==[]) (.k (⟨0,[],[],[]⟩,false)) (.q (ig z2 y4 ⟨0,[],[],[]⟩) (.g (z3 (aZ z2 y4 ⟨0,[],[],[]⟩))))) (.b (([]:anP)==[]) (.k (⟨0,[],[],[]⟩,false)) (.q (ig z2 [] ⟨0,[],[],[]⟩) (.g (z3 (aZ z2 [] ⟨0,[],[],[]⟩))))))))))) (.c (aH z2 true) fun y5=>.k (aj (y5.1),y5.2))
def Dp(x0:Node):=mu pY (.e x0)
def Ot:=L8.fl 57 [.ah] [.ah,.bool] pY (fun a=>.e a) (fun | .e x0=>.e [⟨.ah,x0⟩] | .h0 v0 v1 v2 v3 v4=>.h 0 ⟨72,[(1,.ptr 0 0),(2,.ptr 1 0),(4,.ptr 2 0),(5,.d (.int .i64 v0))],[(0,.box [.d (.int .i64 v1.kind),.d (.str v1.text),.d (.slice .str v1.keys),.d (.slice .ah v1.kids)]),(1,.box [.d (.int .i64 v2),.d (.str v3),.d (.raw (.slice none 0 0)),.d (.raw (.slice none 0 0))]),(2,.box [.d (.int .i64 v4.kind),.d (.str v4.text),.d (.slice .str v4.keys),.d (.slice .ah v4.kids)])],3⟩) { live:=[(0,[1,2,4,5])],oO:=[(0,[(4,some 2,false,.str),(4,some 3,false,.ah)])] } Tryz.func57
inductive EZ where
 | e (x0:anP)
 | h0 (v0:anP) (v1:Int)
def qG:EZ->Te (Bool) EZ
 | .e x0=>.b (aN (aF (aC x0) 1) (aF 64 (aC x0))) (.k false) (.g (.h0 x0 0))
 | .h0 v0 v1=>.b (aF v1 (aC v0)) (.s v0 v1 fun y1=>.q ((bW 0 v1&&aF v1 (aC v0)) || !(y1 != 47)) (.b (aab (y1 != 47) (iU y1==0)) (.k false) (.g (.h0 v0 (au (v1+1)))))) (.k true)
def wY(x0:anP):=mu qG (.e x0)
def PI:=(Ot.W 79 KW Ro).fl 206 [.str] [.bool] qG (fun a=>.e a) (fun | .e x0=>.e [⟨.str,x0⟩] | .h0 v0 v1=>.h 0 ⟨29,[(0,.d (.str v0)),(3,.d (.int .i64 v1))],[],0⟩) { live:=[(0,[0,3])] } Tryz.func206
inductive Cj where
 | e (x0:anP)
 | h0 (v0:anP) (v1:Int) (v2:Int)
def oH:Cj->Te (Bool) Cj
 | .e x0=>.c (wY x0) fun y1=>.q ((bW 0 0&&aF 0 (aC x0)) || !(!(!y1))) (.b (aN (!y1) (tH x0 0 != 47)) (.k false) (.b (x0==[47]) (.k true) (.g (.h0 x0 1 1))))
 | .h0 v0 v1 v2=>.l (cut v0 v1 v2) fun z2=>.l (au (v2+1)) fun z1=>.b (bW v2 (aC v0)) (.q ((bW 0 v2&&aF v2 (aC v0)) || !(aF v2 (aC v0))) (.b (aab (aF v2 (aC v0)) (tH v0 v2 != 47)) (.g (.h0 v0 v1 z1)) (.q (bM v0 v1 v2) (.b (aN (aN (z2==[]) (z2==[46])) (z2==[46,46])) (.k false) (.g (.h0 v0 z1 z1)))))) (.k true)
def Ck(x0:anP):=mu oH (.e x0)
def MR:=PI.fl 205 [.str] [.bool] oH (fun a=>.e a) (fun | .e x0=>.e [⟨.str,x0⟩] | .h0 v0 v1 v2=>.h 0 ⟨48,[(0,.d (.str v0)),(3,.d (.int .i64 v1)),(4,.d (.int .i64 v2))],[],0⟩) { live:=[(0,[0,3,4])] } Tryz.func205
def vD(x0:fZ):Te (Bool) Empty:=.l (tH x0.source 0) fun z2=>.l (bW 0 0&&aF 0 (aC x0.source)) fun z1=>.c (Ck x0.target) fun y1=>.b (!y1) (.k false) (.b (aN (aC x0.source==0) ((bO fK) x0.source)) (.k true) (.c (wY x0.source) fun y2=>.q (z1 || !y2) (.q (z1 || !(y2&&(!(z2==47)))) (.k (aab y2 (aN (z2==47) (z2==46)))))))
def iw(x0:fZ):=(vD x0).o
def Ou:=MR.f0 174 [.jk] [.bool] (fun a=>vD a) Tryz.func174
inductive vE where
 | e (x0:anP)
 | h0 (v0:anP) (v1:Int) (v2:Int) (v3:Int) (v4:fZ) (v5:fZ)
def lT:vE->Te (fZ×Int) vE
 | .e x0=>.l (bW 3 (aC x0)) fun z2=>.l (au (aC x0-3)) fun z1=>.l (cut x0 z1 (aC x0)) fun z5=>.l (z5==[58,114,111]) fun z4=>.l (bW 0 z1&&bW z1 (aC x0)&&bW (aC x0) (aC x0)) fun z3=>.q (z3 || !z2) (.q (z3 || !(z2&&(!z4))) (.b (aab z2 (aN z4 (z5==[58,114,119]))) (.s x0 (au (aC x0-1)) fun y1=>.q (bM x0 0 z1) (.g (.h0 (cut x0 0 z1) (-1) 0 0 ⟨[],[],false⟩ ⟨[],[],(y1==111)⟩))) (.g (.h0 x0 (-1) 0 0 ⟨[],[],false⟩ ⟨[],[],false⟩))))
 | .h0 v0 v1 v2 v3 v4 v5=>.l (bM v0 (au (v1+1)) (aC v0)) fun z2=>.l (cut v0 (au (v1+1)) (aC v0)) fun z1=>.b (aF v3 (aC v0)) (.s v0 v3 fun y1=>.b (y1==58) (.g (.h0 v0 v3 (au (v2+1)) (au (v3+1)) v4 v5)) (.g (.h0 v0 v1 v2 (au (v3+1)) v4 v5))) (.b (aN (aF 1 v2) (v1==0)) (.k (⟨[],[],false⟩,3)) (.b (v2==1) (.q (bM v0 0 v1) (.q z2 (.c (iw ⟨cut v0 0 v1,z1,v5.readOnly⟩) fun y2=>.b (!y2) (.k (⟨[],[],false⟩,3)) (.k (⟨cut v0 0 v1,z1,v5.readOnly⟩,0))))) (.q z2 (.c (iw ⟨v5.source,z1,v5.readOnly⟩) fun y3=>.b (!y3) (.k (⟨[],[],false⟩,3)) (.k (⟨v5.source,z1,v5.readOnly⟩,0))))))
def Dq(x0:anP):=mu lT (.e x0)
def Ov:=Ou.fl 173 [.str] [.jk,.aY] lT (fun a=>.e a) (fun | .e x0=>.e [⟨.str,x0⟩] | .h0 v0 v1 v2 v3 v4 v5=>.h 0 ⟨74,[(0,.d (.str v0)),(2,.ptr 0 0),(4,.ptr 1 0),(6,.d (.int .i64 v1)),(7,.d (.int .i64 v2)),(8,.d (.int .i64 v3))],[(0,.box [.d (.str v4.source),.d (.str v4.target),.d (.bool v4.readOnly)]),(1,.box [.d (.str v5.source),.d (.str v5.target),.d (.bool v5.readOnly)])],2⟩) { live:=[(0,[0,2,4,6,7,8])] } Tryz.func173
def vF(x0:Node)(x1 x2:anP):Te ((anP)×Bool) Empty:=.c (bJ (aj x0) x1 x2) fun y1=>.k (y1.1,aab y1.2 (aN (y1.1==[116,114,117,101]) (y1.1==[102,97,108,115,101])))
def gD(x0:Node)(x1 x2:anP):=(vF x0 x1 x2).o
def Ow:=Ov.f0 135 [.ah,.str,.str] [.str,.bool] (fun a=>vF a.1 a.2.1 a.2.2) Tryz.func135
def rH(x0:Node):Te (fZ×Bool) Empty:=.l (aj x0) fun z1=>.b (x0.kind==1) (.c (Dq x0.text) fun y1=>.k ((y1.1),(y1.2==0))) (.c (fT z1 [[115,111,117,114,99,101],[116,97,114,103,101,116],[114,101,97,100,95,111,110,108,121],[116,121,112,101]]) fun y2=>.b (!y2) (.k (⟨[],[],false⟩,false)) (.c (bJ z1 [115,111,117,114,99,101] []) fun y3=>.c (bJ z1 [116,97,114,103,101,116] []) fun y4=>.c (gD z1 [114,101,97,100,95,111,110,108,121] [102,97,108,115,101]) fun y5=>.l (aab (aab y3.2 y4.2) y5.2) fun z4=>.l (y5.1==[116,114,117,101]) fun z3=>.l (iw ⟨y3.1,y4.1,z3⟩) fun z2=>.c (bJ z1 [116,121,112,101] [98,105,110,100]) fun y6=>.q ((z2.isSome) || !(aab z4 y6.2)) (.k (⟨y3.1,y4.1,z3⟩,aab (aab (aab z4 y6.2) (gv z2)) (aN (aN (y6.1==[118,111,108,117,109,101]) (y6.1==[98,105,110,100])) (y6.1==[116,109,112,102,115]))))))
def zZ(x0:Node):=(rH x0).o
def KN:=Ow.f0 130 [.ah] [.jk,.bool] (fun a=>rH a) Tryz.func130
def w9(x0:fZ):Te ((anP)) Empty:=.l (x0.source++([58]:anP)) fun z1=>.l (z1++x0.target) fun z2=>.c (iw x0) fun y1=>.b (!y1) (.k []) (.b (aF 0 (aC x0.source)) (.q (decide (x0.source.length+([58]:anP).length<=aA)) (.q (decide (z1.length+x0.target.length<=aA)) (.b x0.readOnly (.q (decide (z2.length+([58,114,111]:anP).length<=aA)) (.k (z2++([58,114,111]:anP)))) (.k z2)))) (.b x0.readOnly (.q (decide (x0.target.length+([58,114,111]:anP).length<=aA)) (.k (x0.target++([58,114,111]:anP)))) (.k x0.target)))
def E5(x0:fZ):=(w9 x0).o
def PK:=KN.f0 131 [.jk] [.str] (fun a=>w9 a) Tryz.func131
inductive Cm where
 | e (x0:Node)
 | h0 (v0:Int) (v1:Node) (v2:Int) (v3:anP) (v4:Node)
def oI:Cm->Te (Node×Bool) Cm
 | .e x0=>.b (aN (aF 32 (aC x0.kids)) (aF x0.kind 2)) (.k (⟨0,[],[],[]⟩,false)) (.g (.h0 0 x0 0 [] ⟨0,[],[],[]⟩))
 | .h0 v0 v1 v2 v3 v4=>.l (aj v4) fun z3=>.l (bW 0 v0&&aF v0 (aC v1.kids)) fun z2=>.l (v1.kind==3) fun z1=>.b (aF v0 (aC v1.kids)) (.i v1.kids v0 fun y1=>.l (y1.kind != 1) fun z4=>.c (zZ (aj y1)) fun y2=>.l ((!(!y2.2))&&z1) fun z5=>.c (E5 (y2.1)) fun y3=>.l (aN z4 (!(y1.text==y3))) fun z6=>.q (z2 || !z5) (.q (z2 || !(z5&&(!z4))) (.q ((bW 0 v0&&aF v0 (aC v1.keys)) || !(z5&&(!z6))) (.b (aN (!y2.2) (aab z1 (aN z6 (!(Am v1.keys v0 (dflt .str)==(y2.1).target))))) (.k (⟨0,[],[],[]⟩,false)) (.c (ay y3) fun y4=>.q (ig z3 ((y2.1).target) y4) (.g (.h0 (au (v0+1)) v1 v2 v3 (aZ z3 ((y2.1).target) y4)))))))) (.c (aH z3 true) fun y5=>.k (aj (y5.1),y5.2))
def Cn(x0:Node):=mu oI (.e x0)
def MS:=PK.fl 58 [.ah] [.ah,.bool] oI (fun a=>.e a) (fun | .e x0=>.e [⟨.ah,x0⟩] | .h0 v0 v1 v2 v3 v4=>.h 0 ⟨85,[(1,.ptr 0 0),(2,.ptr 1 0),(4,.ptr 2 0),(5,.d (.int .i64 v0))],[(0,.box [.d (.int .i64 v1.kind),.d (.str v1.text),.d (.slice .str v1.keys),.d (.slice .ah v1.kids)]),(1,.box [.d (.int .i64 v2),.d (.str v3),.d (.raw (.slice none 0 0)),.d (.raw (.slice none 0 0))]),(2,.box [.d (.int .i64 v4.kind),.d (.str v4.text),.d (.slice .str v4.keys),.d (.slice .ah v4.kids)])],3⟩) { live:=[(0,[1,2,4,5])],oO:=[(0,[(4,some 2,false,.str),(4,some 3,false,.ah)])] } Tryz.func58
def xg(x0:Node):Te (Node×Bool) Empty:=.l (aj x0) fun z1=>.b (x0.kind==0) (.c (fT ⟨3,[],[],[]⟩ [[99,111,110,100,105,116,105,111,110],[114,101,115,116,97,114,116],[114,101,113,117,105,114,101,100]]) fun y1=>.b (!y1) (.k (⟨0,[],[],[]⟩,false)) (.c (bJ ⟨3,[],[],[]⟩ [99,111,110,100,105,116,105,111,110] [115,101,114,118,105,99,101,95,115,116,97,114,116,101,100]) fun y2=>.c (gD ⟨3,[],[],[]⟩ [114,101,115,116,97,114,116] [102,97,108,115,101]) fun y3=>.c (gD ⟨3,[],[],[]⟩ [114,101,113,117,105,114,101,100] [116,114,117,101]) fun y4=>.c (ay (y2.1)) fun y5=>.c (ay (y4.1)) fun y6=>.c (ay (y3.1)) fun y7=>.k (⟨3,[],[[99,111,110,100,105,116,105,111,110],[114,101,113,117,105,114,101,100],[114,101,115,116,97,114,116]],[y5,y6,y7]⟩,aab (aab (aab y2.2 y3.2) y4.2) (aN (aN (y2.1==[115,101,114,118,105,99,101,95,115,116,97,114,116,101,100]) (y2.1==[115,101,114,118,105,99,101,95,104,101,97,108,116,104,121])) (y2.1==[115,101,114,118,105,99,101,95,99,111,109,112,108,101,116,101,100,95,115,117,99,99,101,115,115,102,117,108,108,121]))))) (.c (fT z1 [[99,111,110,100,105,116,105,111,110],[114,101,115,116,97,114,116],[114,101,113,117,105,114,101,100]]) fun y8=>.b (!y8) (.k (⟨0,[],[],[]⟩,false)) (.c (bJ z1 [99,111,110,100,105,116,105,111,110] [115,101,114,118,105,99,101,95,115,116,97,114,116,101,100]) fun y9=>.c (gD z1 [114,101,115,116,97,114,116] [102,97,108,115,101]) fun iq=>.c (gD z1 [114,101,113,117,105,114,101,100] [116,114,117,101]) fun xK=>.c (ay (y9.1)) fun nG=>.c (ay (xK.1)) fun y13=>.c (ay (iq.1)) fun zY=>.k (⟨3,[],[[99,111,110,100,105,116,105,111,110],[114,101,113,117,105,114,101,100],[114,101,115,116,97,114,116]],[nG,y13,zY]⟩,aab (aab (aab y9.2 iq.2) xK.2) (aN (aN (y9.1==[115,101,114,118,105,99,101,95,115,116,97,114,116,101,100]) (y9.1==[115,101,114,118,105,99,101,95,104,101,97,108,116,104,121])) (y9.1==[115,101,114,118,105,99,101,95,99,111,109,112,108,101,116,101,100,95,115,117,99,99,101,115,115,102,117,108,108,121])))))
def xk(x0:Node):=(xg x0).o
def PL:=MS.f0 132 [.ah] [.ah,.bool] (fun a=>xg a) Tryz.func132
inductive E8 where
 | e (x0:Node)
 | h0 (v0:List (anP)) (v1:Bool) (v2:Int) (v3:Node) (v4:Int) (v5:anP) (v6:Node)
def qH:E8->Te (Node×Bool) E8
 | .e x0=>.c (jS (aj x0)) fun y1=>.b (aab (x0.kind==3) (bW (aC x0.keys) 32)) (.g (.h0 x0.keys true 0 x0 0 [] ⟨0,[],[],[]⟩)) (.g (.h0 (y1.1) (y1.2) 0 x0 0 [] ⟨0,[],[],[]⟩))
 | .h0 v0 v1 v2 v3 v4 v5 v6=>.l (bW 0 v2&&aF v2 (aC v0)) fun z2=>.l (aj v6) fun z1=>.b (aab (aF v2 (aC v0)) v1) (.b (v3.kind==3) (.i v3.kids v2 fun y1=>.c (xk (aj y1)) fun y2=>.q (z2 || !y2.2) (.i v0 v2 fun y3=>.q (ig z1 y3 (aj (y2.1))) (.g (.h0 v0 (aab y2.2 ((bO fK) y3)) (au (v2+1)) v3 v4 v5 (aZ z1 y3 (aj (y2.1))))))) (.c (xk ⟨0,[],[],[]⟩) fun y4=>.q (z2 || !y4.2) (.i v0 v2 fun y5=>.q (ig z1 y5 (aj (y4.1))) (.g (.h0 v0 (aab y4.2 ((bO fK) y5)) (au (v2+1)) v3 v4 v5 (aZ z1 y5 (aj (y4.1)))))))) (.c (aH z1 v1) fun y6=>.k (aj (y6.1),y6.2))
def E9(x0:Node):=mu qH (.e x0)
def PN:=PL.fl 59 [.ah] [.ah,.bool] qH (fun a=>.e a) (fun | .e x0=>.e [⟨.ah,x0⟩] | .h0 v0 v1 v2 v3 v4 v5 v6=>.h 0 ⟨71,[(1,.ptr 0 0),(2,.ptr 1 0),(4,.d (.slice .str v0)),(5,.d (.bool v1)),(6,.ptr 2 0),(7,.d (.int .i64 v2))],[(0,.box [.d (.int .i64 v3.kind),.d (.str v3.text),.d (.slice .str v3.keys),.d (.slice .ah v3.kids)]),(1,.box [.d (.int .i64 v4),.d (.str v5),.d (.raw (.slice none 0 0)),.d (.raw (.slice none 0 0))]),(2,.box [.d (.int .i64 v6.kind),.d (.str v6.text),.d (.slice .str v6.keys),.d (.slice .ah v6.kids)])],3⟩) { live:=[(0,[1,2,4,5,6,7])],oO:=[(0,[(6,some 2,false,.str),(6,some 3,false,.ah)])] } Tryz.func59
def sV(x0:Node):Te (Node×Bool) Empty:=.l (aj x0) fun z1=>.b (x0.kind==1) (.c (fT ⟨3,[],[[115,101,114,118,105,99,101]],[z1]⟩ [[115,101,114,118,105,99,101],[102,105,108,101]]) fun y1=>.b (!y1) (.k (⟨0,[],[],[]⟩,false)) (.c (bJ ⟨3,[],[[115,101,114,118,105,99,101]],[z1]⟩ [115,101,114,118,105,99,101] []) fun y2=>.c (bJ ⟨3,[],[[115,101,114,118,105,99,101]],[z1]⟩ [102,105,108,101] [120]) fun y3=>.b (aN (aN (aN (aN (!y2.2) (!y3.2)) (!((bO fK) (y2.1)))) (aF (aC (y3.1)) 1)) (aF 64 (aC (y3.1)))) (.k (⟨0,[],[],[]⟩,false)) (.c (aH ⟨3,[],[[115,101,114,118,105,99,101]],[z1]⟩ true) fun y4=>.k (aj (y4.1),y4.2)))) (.c (fT z1 [[115,101,114,118,105,99,101],[102,105,108,101]]) fun y5=>.b (!y5) (.k (⟨0,[],[],[]⟩,false)) (.c (bJ z1 [115,101,114,118,105,99,101] []) fun y6=>.c (bJ z1 [102,105,108,101] [120]) fun y7=>.b (aN (aN (aN (aN (!y6.2) (!y7.2)) (!((bO fK) (y6.1)))) (aF (aC (y7.1)) 1)) (aF 64 (aC (y7.1)))) (.k (⟨0,[],[],[]⟩,false)) (.c (aH z1 true) fun y8=>.k (aj (y8.1),y8.2))))
def Ba(x0:Node):=(sV x0).o
def L9:=PN.f0 60 [.ah] [.ah,.bool] (fun a=>sV a) Tryz.func60
inductive qI where
 | e (x0:anP)
 | h0 (v0:anP) (v1:anP) (v2:Int)
 | h1 (v0:anP) (v1:anP) (v2:Int) (v3:Int) (v4:Bool) (v5:Int)
def qJ:qI->Te (Bool) qI
 | .e x0=>.g (.h0 x0 [46,95,45,47,58,61,44,43,64,37] 0)
 | .h0 v0 v1 v2=>.b (aF v2 (aC v0)) (.s v0 v2 fun y1=>.g (.h1 v0 v1 v2 y1 (aN (aN (aab (bW 97 y1) (bW y1 122)) (aab (bW 65 y1) (bW y1 90))) (aab (bW 48 y1) (bW y1 57))) 0)) (.k (aF 0 (aC v0)))
 | .h1 v0 v1 v2 v3 v4 v5=>.b (aF v5 (aC v1)) (.q ((bW 0 v5&&aF v5 (aC v1)) || !(!v4)) (.g (.h1 v0 v1 v2 v3 (aN v4 (tH v1 v5==v3)) (au (v5+1))))) (.b (!v4) (.k false) (.g (.h0 v0 v1 (au (v2+1)))))
def xq(x0:anP):=mu qJ (.e x0)
def PO:=L9.fl 207 [.str] [.bool] qJ (fun a=>.e a) (fun | .e x0=>.e [⟨.str,x0⟩] | .h0 v0 v1 v2=>.h 0 ⟨58,[(0,.d (.str v0)),(3,.d (.str v1)),(4,.d (.int .i64 v2))],[],0⟩ | .h1 v0 v1 v2 v3 v4 v5=>.h 1 ⟨58,[(0,.d (.str v0)),(3,.d (.str v1)),(4,.d (.int .i64 v2)),(5,.d (.int .u8 v3)),(6,.d (.bool v4)),(7,.d (.int .i64 v5))],[],0⟩) { live:=[(0,[0,3,4]),(1,[0,3,4,5,6,7])] } Tryz.func207
inductive qK where
 | e (x0:List (anP))
 | h0 (v0:List (anP)) (v1:anP) (v2:Int)
 | h1 (v0:List (anP)) (v1:anP) (v2:Int) (v3:Int)
def qL:qK->Te ((anP)) qK
 | .e x0=>.g (.h0 x0 [] 0)
 | .h0 v0 v1 v2=>.l (v1++([32]:anP)) fun z1=>.b (aF v2 (aC v0)) (.b (aF 0 v2) (.q (decide (v1.length+([32]:anP).length<=aA)) (.i v0 v2 fun y1=>.c (xq y1) fun y2=>.b y2 (.q (fV v0 v2) (.q (decide (z1.length+y1.length<=aA)) (.g (.h0 v0 (z1++y1) (au (v2+1)))))) (.q (decide (z1.length+([39]:anP).length<=aA)) (.g (.h1 v0 (z1++([39]:anP)) v2 0))))) (.i v0 v2 fun y4=>.c (xq y4) fun y5=>.b y5 (.q (fV v0 v2) (.q (decide (v1.length+y4.length<=aA)) (.g (.h0 v0 (v1++y4) (au (v2+1)))))) (.q (decide (v1.length+([39]:anP).length<=aA)) (.g (.h1 v0 (v1++([39]:anP)) v2 0))))) (.k v1)
 | .h1 v0 v1 v2 v3=>.l (fV v0 v2) fun z3=>.l (v1++([39,92,39]:anP)) fun z2=>.l (au (v3+1)) fun z1=>.i v0 v2 fun y1=>.l (cut y1 v3 z1) fun z4=>.b (aF v3 (aC y1)) (.q z3 (.s y1 v3 fun y3=>.b (y3==39) (.q (decide (v1.length+([39,92,39]:anP).length<=aA)) (.q z3 (.q (bM y1 v3 z1) (.q (decide (z2.length+z4.length<=aA)) (.g (.h1 v0 (z2++z4) v2 z1)))))) (.q z3 (.q (bM y1 v3 z1) (.q (decide (v1.length+z4.length<=aA)) (.g (.h1 v0 (v1++z4) v2 z1))))))) (.q (decide (v1.length+([39]:anP).length<=aA)) (.g (.h0 v0 (v1++([39]:anP)) (au (v2+1)))))
def Fb(x0:List (anP)):=mu qL (.e x0)
def PS:=PO.fl 175 [.dw] [.str] qL (fun a=>.e a) (fun | .e x0=>.e [⟨.dw,x0⟩] | .h0 v0 v1 v2=>.h 0 ⟨60,[(0,.d (.slice .str v0)),(3,.d (.str v1)),(4,.d (.int .i64 v2))],[],0⟩ | .h1 v0 v1 v2 v3=>.h 1 ⟨60,[(0,.d (.slice .str v0)),(3,.d (.str v1)),(4,.d (.int .i64 v2)),(5,.d (.int .i64 v3))],[],0⟩) { live:=[(0,[0,3,4]),(1,[0,3,4,5])] } Tryz.func175
def xu(x0:Node):Te ((anP)×Int) Empty:=.b (x0.kind==1) (.k (x0.text,1)) (.c (jS (aj x0)) fun y1=>.l (aC (y1.1)) fun z1=>.b (aN (!y1.2) (z1==0)) (.k ([],0)) (.i y1.1 0 fun y2=>.b (aab (y2==[78,79,78,69]) (z1==1)) (.k ([],2)) (.q (fV y1.1 0) (.b (aab (y2==[67,77,68,45,83,72,69,76,76]) (z1==2)) (.i y1.1 1 fun y4=>.k (y4,1)) (.q (fV y1.1 0) (.b (aab (y2==[67,77,68]) (aF 1 z1)) (.q (bM (y1.1) 1 z1) (.c (Fb (cut (y1.1) 1 z1)) fun y6=>.k (y6,1))) (.k ([],0))))))))
def xw(x0:Node):=(xu x0).o
def PU:=PS.f0 136 [.ah] [.str,.int] (fun a=>xu a) Tryz.func136
inductive Dr where
 | e (x0:anP)
 | h0 (v0:anP) (v1:Int)
def vG:Dr->Te ((anP)×Int×(anP)×Bool) Dr
 | .e x0=>.g (.h0 x0 0)
 | .h0 v0 v1=>.l (bW 0 v1&&aF v1 (aC v0)) fun z5=>.l (aab (aF v1 (aC v0)) (bW 48 (tH v0 v1))) fun z4=>.l (cut v0 0 v1) fun z3=>.l (lM z3) fun z2=>.l (cut v0 v1 (aC v0)) fun z1=>.l (tH z1 0) fun z12=>.l (bW 0 0&&aF 0 (aC z1)) fun Av=>.l (cut z1 1 (aC z1)) fun sI=>.l (bM z1 1 (aC z1)) fun z9=>.l (aab (bW 2 (aC z1)) (z12==109)) fun z8=>.l (bW 1 (aC z1)) fun z7=>.l (Av || !z7) fun z6=>.q (z5 || !(aF v1 (aC v0))) (.q (z5 || !z4) (.b (aab z4 (bW (tH v0 v1) 57)) (.g (.h0 v0 (au (v1+1)))) (.q (bM v0 0 v1) (.q (bM v0 v1 (aC v0)) (.q (Av || !(bW 2 (aC z1))) (.q ((bW 0 1&&aF 1 (aC z1)) || !z8) (.b (aab z8 (tH z1 1==115)) (.q (bM z1 2 (aC z1)) (.c z2 fun y1=>.k (z3,3,cut z1 2 (aC z1),y1))) (.q z6 (.b (aab z7 (z12==104)) (.q z9 (.c z2 fun y2=>.k (z3,0,sI,y2))) (.q z6 (.b (aab z7 (z12==109)) (.q z9 (.c z2 fun y3=>.k (z3,1,sI,y3))) (.q z6 (.b (aab z7 (z12==115)) (.q z9 (.c z2 fun y4=>.k (z3,2,sI,y4))) (.k ([],0,[],false)))))))))))))))
def Dt(x0:anP):=mu vG (.e x0)
def Ox:=PU.fl 208 [.str] [.str,.int,.str,.bool] vG (fun a=>.e a) (fun | .e x0=>.e [⟨.str,x0⟩] | .h0 v0 v1=>.h 0 ⟨90,[(0,.d (.str v0)),(6,.d (.int .i64 v1))],[],0⟩) { live:=[(0,[0,6])] } Tryz.func208
def Du:Te (aaO) Empty:=.k ⟨3600000,60000,1000,1⟩
def vH:=(Du).o
def Oy:=Ox.f0 209 [] [.Ap] (fun _=>Du) Tryz.func209
inductive p8 where
 | e (x0:anP)
 | h0 (v0:anP) (v1:Bool) (v2:Int) (v3:List Int)
 | h1 (v0:Bool) (v1:Int) (v2:Int) (v3:List Int) (v4:List Int)
def jU:p8->Te (Int×Int) p8
 | .e x0=>.b (aC x0==0) (.k (0,3)) (.g (.h0 x0 false (-1) [0,0,0,0]))
 | .h0 v0 v1 v2 v3=>.b (aF 0 (aC v0)) (.c (Dt v0) fun y1=>.l (bW 0 y1.2.1&&aF y1.2.1 4) fun z2=>.l (ny (y1.2.1)) fun z1=>.b (aN (aN (!y1.2.2.2) (bW y1.2.1 v2)) (aab (y1.1==[48]) (aN (bW 0 v2) (aF 0 (aC (y1.2.2.1)))))) (.k (0,3)) (.c (lN (y1.1)) fun y2=>.b (aF 1099511627776 y2) (.q z2 (.q (Nat.blt z1 v3.length) (.g (.h0 (y1.2.2.1) true (y1.2.1) (List.set v3 z1 0))))) (.q z2 (.q (Nat.blt z1 v3.length) (.g (.h0 (y1.2.2.1) v1 (y1.2.1) (List.set v3 z1 y2))))))) (.c vH fun y3=>.g (.h1 v1 0 0 v3 [y3.e0,y3.e1,y3.e2,y3.e3]))
 | .h1 v0 v1 v2 v3 v4=>.l (au (v2+1)) fun z4=>.l (dflt .int) fun z3=>.l (au (v1+au ((List.getD v3 (ny v2) z3)*(List.getD v4 (ny v2) z3)))) fun z2=>.l (bW 0 v2&&aF v2 4) fun z1=>.b (aF v2 4) (.q z1 (.q (Nat.blt (ny v2) v3.length) (.q z1 (.q (Nat.blt (ny v2) v4.length) (.q (!((List.getD v4 (ny v2) z3)==0)) (.b (aF (au (Int.tdiv 1099511627776 (List.getD v4 (ny v2) z3))) (List.getD v3 (ny v2) z3)) (.b (!true) (.q z1 (.q (Nat.blt (ny v2) v3.length) (.q z1 (.q (Nat.blt (ny v2) v4.length) (.g (.h1 true z2 z4 v3 v4)))))) (.g (.h1 true v1 z4 v3 v4))) (.b (!v0) (.q z1 (.q (Nat.blt (ny v2) v3.length) (.q z1 (.q (Nat.blt (ny v2) v4.length) (.g (.h1 v0 z2 z4 v3 v4)))))) (.g (.h1 v0 v1 z4 v3 v4))))))))) (.b (aN v0 (aF 1099511627776 v1)) (.k (0,9)) (.k (v1,0)))
def Dv(x0:anP):=mu jU (.e x0)
def Oz:=Oy.fl 176 [.str] [.int,.aY] jU (fun a=>.e a) (fun | .e x0=>.e [⟨.str,x0⟩] | .h0 v0 v1 v2 v3=>.h 0 ⟨87,[(0,.d (.str v0)),(4,.ptr 0 0),(5,.d (.bool v1)),(6,.d (.int .i64 v2))],[(0,.arr .int v3 false)],1⟩ | .h1 v0 v1 v2 v3 v4=>.h 1 ⟨87,[(4,.ptr 0 0),(5,.d (.bool v0)),(12,.ptr 1 0),(13,.d (.int .i64 v1)),(14,.d (.int .i64 v2))],[(0,.arr .int v3 false),(1,.arr .int v4 false)],2⟩) { live:=[(0,[0,4,5,6]),(1,[4,5,12,13,14])],arr:=[(2,[(4,some .int)]),(18,[(12,some .int)])] } Tryz.func176
def Dw:Te (aaN) Empty:=.k ⟨[104],[109],[115],[109,115]⟩
def Dx:=(Dw).o
def OA:=Oz.f0 210 [] [.Ao] (fun _=>Dw) Tryz.func210
inductive Fe where
 | e (x0:Int)
 | h0 (v0:Int) (v1:anP) (v2:Int) (v3:List Int) (v4:List (anP))
def qM:Fe->Te ((anP)) Fe
 | .e x0=>.b (aN (aF x0 0) (aF 1099511627776 x0)) (.k []) (.b (x0==0) (.k [48,115]) (.c vH fun y1=>.c Dx fun y2=>.g (.h0 x0 [] 0 [y1.e0,y1.e1,y1.e2,y1.e3] [y2.e0,y2.e1,y2.e2,y2.e3])))
 | .h0 v0 v1 v2 v3 v4=>.l (dflt .int) fun z4=>.l (au (Int.tdiv v0 (List.getD v3 (ny v2) z4))) fun z3=>.l (bW 0 v2&&aF v2 4) fun z2=>.l (!((List.getD v3 (ny v2) z4)==0)) fun z1=>.b (aF v2 4) (.q z2 (.q (Nat.blt (ny v2) v3.length) (.q z1 (.b (aF 0 z3) (.q z2 (.q (Nat.blt (ny v2) v3.length) (.q z1 (.c (fQ z3) fun y1=>.q (decide (v1.length+y1.length<=aA)) (.q z2 (.q (Nat.blt (ny v2) v4.length) (.q (decide ((v1++y1).length+(List.getD v4 (ny v2) (dflt .str)).length<=aA)) (.q z2 (.q (Nat.blt (ny v2) v3.length) (.q z1 (.g (.h0 (Int.tmod v0 (List.getD v3 (ny v2) z4)) ((v1++y1)++(List.getD v4 (ny v2) (dflt .str))) (au (v2+1)) v3 v4)))))))))))) (.q z2 (.q (Nat.blt (ny v2) v3.length) (.q z1 (.g (.h0 (Int.tmod v0 (List.getD v3 (ny v2) z4)) v1 (au (v2+1)) v3 v4))))))))) (.k v1)
def Fg(x0:Int):=mu qM (.e x0)
def PV:=OA.fl 177 [.int] [.str] qM (fun a=>.e a) (fun | .e x0=>.e [⟨.int,x0⟩] | .h0 v0 v1 v2 v3 v4=>.h 0 ⟨45,[(0,.d (.int .i64 v0)),(3,.d (.str v1)),(4,.ptr 0 0),(5,.ptr 1 0),(6,.d (.int .i64 v2))],[(0,.arr .int v3 false),(1,.arr .str v4 false)],2⟩) { live:=[(0,[0,3,4,5,6])],arr:=[(8,[(4,some .int),(5,some .str)])] } Tryz.func177
def xA(x0:Node)(x1:anP)(x2:Int):Te ((anP)×Bool) Empty:=.l (aj x0) fun z1=>.q ((fun n _=>fit n) z1 x1) (.b (!(aD z1 x1)) (.k ([],true)) (.c (bJ z1 x1 []) fun y1=>.c (Dv (y1.1)) fun y2=>.c (Fg (y2.1)) fun y3=>.k (y3,aab (aab y1.2 (y2.2==0)) (bW x2 y2.1))))
def xB(x0:Node)(x1:anP)(x2:Int):=(xA x0 x1 x2).o
def PW:=PV.f0 137 [.ah,.str,.int] [.str,.bool] (fun a=>xA a.1 a.2.1 a.2.2) Tryz.func137
def tV(x0:Node):Te (Node×Bool) Empty:=.l (aj x0) fun z5=>.l (ay [116,114,117,101]) fun z4=>.l (oG z5 [114,101,116,114,105,101,115]) fun z3=>.l (xB z5 [105,110,116,101,114,118,97,108] 1) fun z2=>.l (xB z5 [115,116,97,114,116,95,112,101,114,105,111,100] 0) fun z1=>.c (fT z5 [[116,101,115,116],[105,110,116,101,114,118,97,108],[115,116,97,114,116,95,112,101,114,105,111,100],[114,101,116,114,105,101,115],[100,105,115,97,98,108,101]]) fun y1=>.b (!y1) (.k (⟨0,[],[],[]⟩,false)) (.c (gD z5 [100,105,115,97,98,108,101] [102,97,108,115,101]) fun y2=>.l (y2.1==[116,114,117,101]) fun z6=>.q ((fun n _=>fit n) z5 [116,101,115,116]) (.b (aD z5 [116,101,115,116]) (.c (xw (aj (aJ z5 [116,101,115,116]))) fun y3=>.l (ay (y3.1)) fun z7=>.b (y3.2==0) (.k (⟨0,[],[],[]⟩,false)) (.b (y3.2==2) (.c z7 fun y4=>.l (aj (aZ ⟨0,[],[],[]⟩ [116,101,115,116] y4)) fun z8=>.q (ig ⟨0,[],[],[]⟩ [116,101,115,116] y4) (.c z2 fun y5=>.c z1 fun y6=>.l (ay (y6.1)) fun z9=>.c z3 fun y7=>.l (aF 0 y7.1) fun Av=>.l (fQ (y7.1)) fun sI=>.b (aN (aN (aN (aN (!y2.2) (!y5.2)) (!y6.2)) (!y7.2)) (aF 10 y7.1)) (.k (⟨0,[],[],[]⟩,false)) (.b (([116,114,117,101]:anP)==[116,114,117,101]) (.c z4 fun y8=>.k (⟨3,[],[[100,105,115,97,98,108,101]],[y8]⟩,true)) (.b (!(y5.1==[])) (.c (ay (y5.1)) fun y9=>.l (aj (aZ z8 [105,110,116,101,114,118,97,108] y9)) fun z12=>.q (ig z8 [105,110,116,101,114,118,97,108] y9) (.b (!(y6.1==[])) (.c z9 fun iq=>.l (aj (aZ z12 [115,116,97,114,116,95,112,101,114,105,111,100] iq)) fun z13=>.q (ig z12 [115,116,97,114,116,95,112,101,114,105,111,100] iq) (.b Av (.c sI fun xK=>.c (ay xK) fun nG=>.q (ig z13 [114,101,116,114,105,101,115] nG) (.c (aH (aj (aZ z13 [114,101,116,114,105,101,115] nG)) true) fun y13=>.k (aj (y13.1),y13.2))) (.c (aH z13 true) fun zY=>.k (aj (zY.1),zY.2)))) (.b Av (.c sI fun y15=>.c (ay y15) fun UL=>.q (ig z12 [114,101,116,114,105,101,115] UL) (.c (aH (aj (aZ z12 [114,101,116,114,105,101,115] UL)) true) fun UM=>.k (aj (UM.1),UM.2))) (.c (aH z12 true) fun UN=>.k (aj (UN.1),UN.2))))) (.b (!(y6.1==[])) (.c z9 fun y19=>.l (aj (aZ z8 [115,116,97,114,116,95,112,101,114,105,111,100] y19)) fun z14=>.q (ig z8 [115,116,97,114,116,95,112,101,114,105,111,100] y19) (.b Av (.c sI fun y20=>.c (ay y20) fun y21=>.q (ig z14 [114,101,116,114,105,101,115] y21) (.c (aH (aj (aZ z14 [114,101,116,114,105,101,115] y21)) true) fun y22=>.k (aj (y22.1),y22.2))) (.c (aH z14 true) fun y23=>.k (aj (y23.1),y23.2)))) (.b Av (.c sI fun y24=>.c (ay y24) fun y25=>.q (ig z8 [114,101,116,114,105,101,115] y25) (.c (aH (aj (aZ z8 [114,101,116,114,105,101,115] y25)) true) fun y26=>.k (aj (y26.1),y26.2))) (.c (aH z8 true) fun y27=>.k (aj (y27.1),y27.2)))))))) (.c z7 fun y28=>.l (aj (aZ ⟨0,[],[],[]⟩ [116,101,115,116] y28)) fun jD=>.q (ig ⟨0,[],[],[]⟩ [116,101,115,116] y28) (.c z2 fun y29=>.c z1 fun X0=>.l (ay (X0.1)) fun jJ=>.c z3 fun y31=>.l (aF 0 y31.1) fun ko=>.l (fQ (y31.1)) fun z17=>.b (aN (aN (aN (aN (!y2.2) (!y29.2)) (!X0.2)) (!y31.2)) (aF 10 y31.1)) (.k (⟨0,[],[],[]⟩,false)) (.b z6 (.c z4 fun y32=>.k (⟨3,[],[[100,105,115,97,98,108,101]],[y32]⟩,true)) (.b (!(y29.1==[])) (.c (ay (y29.1)) fun y33=>.l (aj (aZ jD [105,110,116,101,114,118,97,108] y33)) fun yR=>.q (ig jD [105,110,116,101,114,118,97,108] y33) (.b (!(X0.1==[])) (.c jJ fun y34=>.l (aj (aZ yR [115,116,97,114,116,95,112,101,114,105,111,100] y34)) fun z20=>.q (ig yR [115,116,97,114,116,95,112,101,114,105,111,100] y34) (.b ko (.c z17 fun y35=>.c (ay y35) fun y36=>.q (ig z20 [114,101,116,114,105,101,115] y36) (.c (aH (aj (aZ z20 [114,101,116,114,105,101,115] y36)) true) fun y37=>.k (aj (y37.1),y37.2))) (.c (aH z20 true) fun y38=>.k (aj (y38.1),y38.2)))) (.b ko (.c z17 fun y39=>.c (ay y39) fun y40=>.q (ig yR [114,101,116,114,105,101,115] y40) (.c (aH (aj (aZ yR [114,101,116,114,105,101,115] y40)) true) fun y41=>.k (aj (y41.1),y41.2))) (.c (aH yR true) fun y42=>.k (aj (y42.1),y42.2))))) (.b (!(X0.1==[])) (.c jJ fun y43=>.l (aj (aZ jD [115,116,97,114,116,95,112,101,114,105,111,100] y43)) fun z21=>.q (ig jD [115,116,97,114,116,95,112,101,114,105,111,100] y43) (.b ko (.c z17 fun y44=>.c (ay y44) fun y45=>.q (ig z21 [114,101,116,114,105,101,115] y45) (.c (aH (aj (aZ z21 [114,101,116,114,105,101,115] y45)) true) fun y46=>.k (aj (y46.1),y46.2))) (.c (aH z21 true) fun y47=>.k (aj (y47.1),y47.2)))) (.b ko (.c z17 fun y48=>.c (ay y48) fun y49=>.q (ig jD [114,101,116,114,105,101,115] y49) (.c (aH (aj (aZ jD [114,101,116,114,105,101,115] y49)) true) fun y50=>.k (aj (y50.1),y50.2))) (.c (aH jD true) fun y51=>.k (aj (y51.1),y51.2)))))))))) (.c z2 fun y52=>.c z1 fun y53=>.l (ay (y53.1)) fun z22=>.c z3 fun y54=>.l (aF 0 y54.1) fun z24=>.l (fQ (y54.1)) fun z23=>.b (aN (aN (aN (aN (!y2.2) (!y52.2)) (!y53.2)) (!y54.2)) (aF 10 y54.1)) (.k (⟨0,[],[],[]⟩,false)) (.b z6 (.c z4 fun y55=>.k (⟨3,[],[[100,105,115,97,98,108,101]],[y55]⟩,true)) (.b (!(y52.1==[])) (.c (ay (y52.1)) fun y56=>.l (aj (aZ ⟨0,[],[],[]⟩ [105,110,116,101,114,118,97,108] y56)) fun z25=>.q (ig ⟨0,[],[],[]⟩ [105,110,116,101,114,118,97,108] y56) (.b (!(y53.1==[])) (.c z22 fun y57=>.l (aj (aZ z25 [115,116,97,114,116,95,112,101,114,105,111,100] y57)) fun z26=>.q (ig z25 [115,116,97,114,116,95,112,101,114,105,111,100] y57) (.b z24 (.c z23 fun y58=>.c (ay y58) fun y59=>.q (ig z26 [114,101,116,114,105,101,115] y59) (.c (aH (aj (aZ z26 [114,101,116,114,105,101,115] y59)) true) fun y60=>.k (aj (y60.1),y60.2))) (.c (aH z26 true) fun y61=>.k (aj (y61.1),y61.2)))) (.b z24 (.c z23 fun y62=>.c (ay y62) fun y63=>.q (ig z25 [114,101,116,114,105,101,115] y63) (.c (aH (aj (aZ z25 [114,101,116,114,105,101,115] y63)) true) fun y64=>.k (aj (y64.1),y64.2))) (.c (aH z25 true) fun y65=>.k (aj (y65.1),y65.2))))) (.b (!(y53.1==[])) (.c z22 fun y66=>.l (aj (aZ ⟨0,[],[],[]⟩ [115,116,97,114,116,95,112,101,114,105,111,100] y66)) fun z27=>.q (ig ⟨0,[],[],[]⟩ [115,116,97,114,116,95,112,101,114,105,111,100] y66) (.b z24 (.c z23 fun y67=>.c (ay y67) fun y68=>.q (ig z27 [114,101,116,114,105,101,115] y68) (.c (aH (aj (aZ z27 [114,101,116,114,105,101,115] y68)) true) fun y69=>.k (aj (y69.1),y69.2))) (.c (aH z27 true) fun y70=>.k (aj (y70.1),y70.2)))) (.b z24 (.c z23 fun y71=>.c (ay y71) fun y72=>.q (ig ⟨0,[],[],[]⟩ [114,101,116,114,105,101,115] y72) (.c (aH (aj (aZ ⟨0,[],[],[]⟩ [114,101,116,114,105,101,115] y72)) true) fun y73=>.k (aj (y73.1),y73.2))) (.c (aH ⟨0,[],[],[]⟩ true) fun y74=>.k (aj (y74.1),y74.2)))))))))
def Co(x0:Node):=(tV x0).o
def MU:=PW.f0 61 [.ah] [.ah,.bool] (fun a=>tV a) Tryz.func61
def vI(x0:Node)(x1:Int):Te (Node×Bool) Empty:=.l (aj x0) fun z1=>.b (aF x1 5) (.c (Gy z1 x1) fun y1=>.k (aj (y1.1),y1.2)) (.b (x1==5) (.c (Dl z1) fun y2=>.k (aj (y2.1),y2.2)) (.b (aN (x1==6) (x1==7)) (.c (Dm z1 (x1==6)) fun y3=>.k (aj (y3.1),y3.2)) (.b (x1==8) (.c (yD z1) fun y4=>.k (aj (y4.1),y4.2)) (.b (x1==9) (.c (Dp z1) fun y5=>.k (aj (y5.1),y5.2)) (.b (x1==10) (.c (Cn z1) fun y6=>.k (aj (y6.1),y6.2)) (.b (x1==11) (.c (E9 z1) fun y7=>.k (aj (y7.1),y7.2)) (.b (x1==12) (.c (Ba z1) fun y8=>.k (aj (y8.1),y8.2)) (.c (Co z1) fun y9=>.k (aj (y9.1),y9.2)))))))))
def Dy(x0:Node)(x1:Int):=(vI x0 x1).o
def OB:=MU.f0 23 [.ah,.int] [.ah,.bool] (fun a=>vI a.1 a.2) Tryz.func23
inductive sW where
 | e (x0:Node)
 | h0 (v0:Int) (v1:Node) (v2:Int) (v3:anP) (v4:anP) (v5:Int) (v6:Node)
def nQ:sW->Te (jr) sW
 | .e x0=>.b (aab (x0.kind != 0) (x0.kind != 3)) (.k ⟨⟨0,[],[],[]⟩,[],10⟩) (.g (.h0 0 x0 0 [] [] 0 ⟨3,[],[],[]⟩))
 | .h0 v0 v1 v2 v3 v4 v5 v6=>.l (aj v6) fun z3=>.l (fV v1.keys v0) fun z2=>.l (sW.h0 (au (v0+1)) v1 v2 v3 v4 v5) fun z1=>.b (aF v0 (aC v1.keys)) (.i v1.keys v0 fun y1=>.c (sQ y1) fun y2=>.b y2 (.g (z1 v6)) (.q z2 (.c (Ch y1) fun y4=>.b (aF y4 0) (.q z2 (.k ⟨⟨0,[],[],[]⟩,y1,10⟩)) (.i v1.kids v0 fun y6=>.b (y6.kind==0) (.g (z1 v6)) (.q (fV v1.kids v0) (.c (Dy (aj y6) y4) fun y8=>.b (!y8.2) (.q z2 (.k ⟨⟨0,[],[],[]⟩,y1,10⟩)) (.q z2 (.q (ig z3 y1 (aj (y8.1))) (.g (z1 (aZ z3 y1 (aj (y8.1))))))))))))) (.q ((wg 10000 13) z3) (.k ⟨aj ((aK 13) z3),[],0⟩))
def Bb(x0:Node):=mu nQ (.e x0)
def Ma:=(OB.W 14 (kT 13) (CZ 13)).fl 8 [.ah] [.iE] nQ (fun a=>.e a) (fun | .e x0=>.e [⟨.ah,x0⟩] | .h0 v0 v1 v2 v3 v4 v5 v6=>.h 0 ⟨81,[(1,.ptr 0 0),(2,.ptr 1 0),(3,.ptr 2 0),(4,.d (.int .i64 v0))],[(0,.box [.d (.int .i64 v1.kind),.d (.str v1.text),.d (.slice .str v1.keys),.d (.slice .ah v1.kids)]),(1,.box [.d (.int .i64 v2),.d (.str v3),.d (.raw (.slice none 0 0)),.d (.raw (.slice none 0 0)),.d (.str v4),.d (.int .i64 v5)]),(2,.box [.d (.int .i64 v6.kind),.d (.str v6.text),.d (.slice .str v6.keys),.d (.slice .ah v6.kids)])],3⟩) { live:=[(0,[1,2,3,4])],oO:=[(0,[(3,some 2,false,.str),(3,some 3,false,.ah)])] } Tryz.func8
inductive Aa where
 | e (x0:Node)
 | h0 (v0:Int) (v1:Node) (v2:Int) (v3:anP) (v4:anP) (v5:Int) (v6:Node)
def mK:Aa->Te (jr) Aa
 | .e x0=>.b (x0.kind != 3) (.k ⟨⟨0,[],[],[]⟩,[115,101,114,118,105,99,101,115],10⟩) (.g (.h0 0 x0 0 [] [] 0 ⟨3,[],[],[]⟩))
 | .h0 v0 v1 v2 v3 v4 v5 v6=>.l (aj v6) fun z2=>.l (fV v1.keys v0) fun z1=>.b (aF v0 (aC v1.keys)) (.i v1.keys v0 fun y1=>.l (decide (([115,101,114,118,105,99,101,115,46]:anP).length+y1.length<=aA)) fun z4=>.l (([115,101,114,118,105,99,101,115,46]:anP)++y1) fun z3=>.l (z3++([46]:anP)) fun z5=>.b (!((bO fK) y1)) (.q z1 (.q z4 (.q z1 (.b (y1==[]) (.k ⟨⟨0,[],[],[]⟩,[115,101,114,118,105,99,101,115],10⟩) (.k ⟨⟨0,[],[],[]⟩,z3,10⟩))))) (.i v1.kids v0 fun y4=>.c (Bb (aj y4)) fun y5=>.b (y5.e != 0) (.q z1 (.q z4 (.b (!(y5.path==[])) (.q (decide (z3.length+([46]:anP).length<=aA)) (.q (decide (z5.length+(y5.path).length<=aA)) (.k ⟨⟨0,[],[],[]⟩,(z5++y5.path),y5.e⟩))) (.k ⟨⟨0,[],[],[]⟩,z3,y5.e⟩)))) (.q z1 (.q (ig z2 y1 (aj (y5.n))) (.g (.h0 (au (v0+1)) v1 v2 v3 v4 v5 (aZ z2 y1 (aj (y5.n))))))))) (.b (aF 16 (aC v6.keys)) (.k ⟨⟨0,[],[],[]⟩,[115,101,114,118,105,99,101,115],9⟩) (.q ((wg 10000 14) z2) (.k ⟨aj ((aK 14) z2),[],0⟩)))
def Ab(x0:Node):=mu mK (.e x0)
def KO:=(Ma.W 14 (kT 14) (CZ 14)).fl 32 [.ah] [.iE] mK (fun a=>.e a) (fun | .e x0=>.e [⟨.ah,x0⟩] | .h0 v0 v1 v2 v3 v4 v5 v6=>.h 0 ⟨85,[(1,.ptr 0 0),(2,.ptr 1 0),(3,.ptr 2 0),(4,.d (.int .i64 v0))],[(0,.box [.d (.int .i64 v1.kind),.d (.str v1.text),.d (.slice .str v1.keys),.d (.slice .ah v1.kids)]),(1,.box [.d (.int .i64 v2),.d (.str v3),.d (.raw (.slice none 0 0)),.d (.raw (.slice none 0 0)),.d (.str v4),.d (.int .i64 v5)]),(2,.box [.d (.int .i64 v6.kind),.d (.str v6.text),.d (.slice .str v6.keys),.d (.slice .ah v6.kids)])],3⟩) { live:=[(0,[1,2,3,4])],oO:=[(0,[(3,some 2,false,.str),(3,some 3,false,.ah)])] } Tryz.func32
inductive xC where
 | e (x0:Node)
 | h0 (v0:Int) (v1:Node) (v2:Int) (v3:anP) (v4:anP) (v5:Int) (v6:Node)
def qN:xC->Te (jr) xC
 | .e x0=>.b (aab (x0.kind != 0) (x0.kind != 3)) (.k ⟨⟨0,[],[],[]⟩,[],10⟩) (.g (.h0 0 x0 0 [] [] 0 ⟨3,[],[],[]⟩))
 | .h0 v0 v1 v2 v3 v4 v5 v6=>.l (aj v6) fun z2=>.l (aj ((aK 15) z2)) fun z3=>.l (xC.h0 (au (v0+1)) v1 v2 v3 v4 v5) fun z1=>.b (aF v0 (aC v1.keys)) (.i v1.keys v0 fun y1=>.l (y1==[110,97,109,101]) fun z5=>.l (y1==[115,101,114,118,105,99,101,115]) fun z4=>.i v1.kids v0 fun y2=>.l (aj y2) fun z6=>.c (sQ y1) fun y3=>.b y3 (.g (z1 v6)) (.b (aab (aab (aab (!z5) (!z4)) (!(y1==[110,101,116,119,111,114,107,115]))) (!(y1==[118,111,108,117,109,101,115]))) (.k ⟨⟨0,[],[],[]⟩,y1,10⟩) (.b (y2.kind==0) (.g (z1 v6)) (.b z4 (.c (Ab z6) fun y4=>.l (aj (y4.n)) fun z7=>.b (y4.e != 0) (.k ⟨z7,y4.path,y4.e⟩) (.q (ig z2 y1 z7) (.g (z1 (aZ z2 y1 z7))))) (.b z5 (.b (aN (y2.kind != 1) (!((bO Cw) (y2.text)))) (.k ⟨⟨0,[],[],[]⟩,y1,10⟩) (.q (ig z2 y1 z6) (.g (z1 (aZ z2 y1 z6))))) (.c (yD z6) fun y5=>.b (!y5.2) (.k ⟨⟨0,[],[],[]⟩,y1,10⟩) (.q (ig z2 y1 (aj (y5.1))) (.g (z1 (aZ z2 y1 (aj (y5.1)))))))))))) (.q ((wg 10000 15) z2) (.b (!(kW z3)) (.k ⟨⟨0,[],[],[]⟩,[],9⟩) (.k ⟨z3,[],0⟩)))
def mH(x0:Node):=mu qN (.e x0)
def PX:=(((KO.W 33 Ru alF).W 35 Zo asL).W 14 (kT 15) (CZ 15)).fl 13 [.ah] [.iE] qN (fun a=>.e a) (fun | .e x0=>.e [⟨.ah,x0⟩] | .h0 v0 v1 v2 v3 v4 v5 v6=>.h 0 ⟨104,[(1,.ptr 0 0),(2,.ptr 1 0),(3,.ptr 2 0),(4,.d (.int .i64 v0))],[(0,.box [.d (.int .i64 v1.kind),.d (.str v1.text),.d (.slice .str v1.keys),.d (.slice .ah v1.kids)]),(1,.box [.d (.int .i64 v2),.d (.str v3),.d (.raw (.slice none 0 0)),.d (.raw (.slice none 0 0)),.d (.str v4),.d (.int .i64 v5)]),(2,.box [.d (.int .i64 v6.kind),.d (.str v6.text),.d (.slice .str v6.keys),.d (.slice .ah v6.kids)])],3⟩) { live:=[(0,[1,2,3,4])],oO:=[(0,[(3,some 2,false,.str),(3,some 3,false,.ah)])] } Tryz.func13
end
end Go.Proofs.YtclnniijooeajaaGreatDoor.Rf
