/- Part 6 of a proof: the texts P2 X6 X7 X8 D1 X9 M3, one behind the other. -/
import Derived.Test.YtclnniijooeajaaGreatDoorSw1
import Derived.Test.YtclnniijooeajaaGreatDoorSw4
import Derived.Sort.Walk0
import Derived.Test.YtclnniijooeajaaGreatDoorSw5
noncomputable section
namespace Go.Proofs.YtclnniijooeajaaGreatDoor.Rf
open Go Go.RowKit Go.Sort Go.Proofs.YtclnniijooeajaaGreatDoor.bg
def kM(c:Int):Int:=bif(bif decide (97<=c)then decide (c<=122)else false)then 1 else bif(bif decide (65<=c)then decide (c<=90)else false)then 2 else bif(bif decide (48<=c)then decide (c<=57)else false)then 3 else bif c==95 then 4 else bif c==45 then 5 else bif c==46 then 6 else 0
noncomputable def Kg:jC E:=EO (E:=E) .byte .int (fun _=>true) kM
def aix:FuncId:=79
noncomputable def amJ:aI E:=jX [] [] [] []
noncomputable def ayx:Hint E:={}
noncomputable def acD(_G:Nat->au E->Option (List (TV E)))(x0:Int):Option (List (TV E)) :=
 bif(bif(decide ((97:Int)<=x0))then(decide (x0<=(122:Int)))else false)then some [⟨.int,(1:Int)⟩]else(bif(bif(decide ((65:Int)<=x0))then(decide (x0<=(90:Int)))else false)then some [⟨.int,(2:Int)⟩]else(bif(bif(decide ((48:Int)<=x0))then(decide (x0<=(57:Int)))else false)then some [⟨.int,(3:Int)⟩]else(bif(x0==(95:Int))then some [⟨.int,(4:Int)⟩]else(bif(x0==(45:Int))then some [⟨.int,(5:Int)⟩]else(bif(x0==(46:Int))then some [⟨.int,(6:Int)⟩]else some [⟨.int,(0:Int)⟩])))))
theorem ayy(G:Nat->au E->Option (List (TV E)))(x0:Int):jR amJ ayx G Tryz.f79 [⟨.byte,x0⟩]=acD G x0:=by kernel_rfl
theorem ayz:Tryz.prog.funcs[79]? = some Tryz.f79:=by kernel_rfl
theorem ayA:(Tryz.f79.name == "runtime.NumGoroutine")=false:=by kernel_rfl
theorem ayB:Tryz.f79.body.isNone=false:=by kernel_rfl
theorem avi:aK E amJ:=gq .nil .nil .nil .nil
theorem ak9(h:∀(x0:Int),acD (Gr E Tryz.f79 [⟨.int,kM x0⟩]) x0=some [⟨.int,kM x0⟩]):bG E aix Kg:=zK avi mix ayz ayA ayB (fun x0 _=>(ayy _ x0).trans (h x0))
theorem QB:bG E aix Kg:=ak9 fun c=>by simp only[acD,kM];cases(bif decide (97<=c)then decide (c<=122)else false)<;>cases(bif decide (65<=c)then decide (c<=90)else false)<;>cases(bif decide (48<=c)then decide (c<=57)else false)<;>cases c==95<;>cases c==45<;>cases c==46<;>rfl
def MB(f:UInt8->Bool->Bool):aqO->Bool->Bool
 | [],_=>true
 | c::t,b=>bif f c b then false else MB f t false
def kc(c:UInt8):Int:=kM ((c.toNat:Int))
def gJ(c:UInt8)(b:Bool):Bool:=bif kc c==0 then true else(bif b then decide (3<kc c)else false)
def YJ(c:UInt8)(b:Bool):Bool:=bif(bif(bif kc c==0 then true else kc c==2)then true else kc c==6)then true else(bif b then decide (3<kc c)else false)
def cO(f:UInt8->Bool->Bool)(s:aqO):Bool:=bif(bif decide ((s.length:Int)<1)then true else decide ((24:Int)<(s.length:Int)))then false else MB f s true
noncomputable def QC:jC E:=EO (E:=E) .str .bool (fun _=>true) (cO gJ)
def Xn:FuncId:=78
noncomputable def QD:aI E:=jX [(79,Kg)] [] [] []
noncomputable def aaO:Hint E:={ live:=[(0,[0,3])] }
noncomputable def BZ(v0:aqO)(v1:Int):au E:=au.mk 33 [(0,.d (.str v0)),(3,.d (.int .i64 v1))] [] 0
noncomputable def QE(G:Nat->au E->Option (List (TV E)))(x0:aqO):Option (List (TV E)) :=
 bif(bif(decide ((x0.length:Int)<(1:Int)))then true else(decide ((24:Int)<(x0.length:Int))))then some [⟨.bool,false⟩]else G 0 (BZ x0 0)
theorem apE(G:Nat->au E->Option (List (TV E)))(x0:aqO):jR QD aaO G Tryz.f78 [⟨.str,x0⟩]=QE G x0:=by kernel_rfl
noncomputable def HY(G:Nat->au E->Option (List (TV E)))(v0:aqO)(v1:Int):Option (List (TV E)) :=
 bif(decide (v1<(v0.length:Int)))then(bif(decide ((0:Int)<=v1)&&decide (v1<(v0.length:Int)))then(bif(bif((kM (((List.getD v0 (Int.toNat v1) 0).toNat:Nat):Int))==(0:Int))then true else(bif(v1==(0:Int))then(decide ((3:Int)<(kM (((List.getD v0 (Int.toNat v1) 0).toNat:Nat):Int))))else false))then some [⟨.bool,false⟩]else G 0 (BZ v0 (ak (v1+(1:Int)))))else none)else some [⟨.bool,true⟩]
theorem ala(G:Nat->au E->Option (List (TV E)))(v0:aqO)(v1:Int):uG QD aaO G Tryz.f78 0 (BZ v0 v1)=HY G v0 v1:=by kernel_rfl
theorem apF:Tryz.prog.funcs[78]? = some Tryz.f78:=by kernel_rfl
theorem apG:(Tryz.f78.name == "runtime.NumGoroutine")=false:=by kernel_rfl
theorem apH:Tryz.f78.body.isNone=false:=by kernel_rfl
theorem Xo:aK E QD:=gq (.cons QB .nil) .nil .nil .nil
theorem Xp{res:List (TV E)}{v0:aqO}{v1:Int}(h:HY (Gr E Tryz.f78 res) v0 v1=some res):Ev E Tryz.f78 res 0 (BZ v0 v1):=Ev.step Xo mix ((ala _ v0 v1).trans h)
theorem acE(h:∀(x0:aqO),QE (Gr E Tryz.f78 [⟨.bool,(cO gJ) x0⟩]) x0=some [⟨.bool,(cO gJ) x0⟩]):bG E Xn QC:=zK Xo mix apF apG apH (fun x0 _=>(apE _ x0).trans (h x0))
theorem afs(s:aqO)(hs:s.length<=24):∀(m i:Nat),s.length-i=m->i<=s.length ->
  Ev E Tryz.f78 [⟨.bool,MB gJ (s.drop i) ((i:Int)==0)⟩] 0 (BZ s i):=by
 intro m
 induction m with
 | zero =>intro i h1 h2;refine Xp ?_;simp only[HY,Iy (show s.length<=i by omega),cond_false,aa9 (show s.length<=i by omega)];rfl
 | succ m ih =>
  intro i h1 h2;have hi:i<s.length:=by omega
  have e3:ak ((i:Int)+1)=((i+1:Nat):Int):=by rw[aV (by omega) (by omega)];omega
  refine Xp ?_;simp only[HY,zl hi,d0,gd s _ i hi,adM,cond_true,e3];rw[<- abl hi];simp only[MB];change (bif gJ s[i] ((i:Int)==0)then _ else _)=_;cases gJ s[i] ((i:Int)==0)with
  | true=>rfl
  | false =>have:=gG (ih (i+1) (by omega) (by omega));rw[eT (show((i+1:Nat):Int)≠0 by omega)]at this;exact this
theorem alb:bG E Xn QC:=acE fun s=>by
 simp only[QE,cO];cases hg:(bif decide ((s.length:Int)<1)then true else decide ((24:Int)<(s.length:Int)))with
 | true=>rfl
 | false =>
  have hs:s.length<=24:=by
   by_cases a:(s.length:Int)<1
   ·omega
   ·rw[dF a,cond_false]at hg;have:¬ (24:Int)<(s.length:Int):=by simpa using hg
    omega
  have:=gG (afs s hs s.length 0 (by omega) (by omega));rw[aed]at this;exact this
noncomputable def QF:jC E:=EO (E:=E) .str .bool (fun _=>true) (cO YJ)
def Xq:FuncId:=33
noncomputable def QG:aI E:=jX [(79,Kg)] [] [] []
noncomputable def aaP:Hint E:={ live:=[(0,[0,3])] }
noncomputable def Ca(v0:aqO)(v1:Int):au E:=au.mk 41 [(0,.d (.str v0)),(3,.d (.int .i64 v1))] [] 0
noncomputable def QH(G:Nat->au E->Option (List (TV E)))(x0:aqO):Option (List (TV E)) :=
 bif(bif(decide ((x0.length:Int)<(1:Int)))then true else(decide ((24:Int)<(x0.length:Int))))then some [⟨.bool,false⟩]else G 0 (Ca x0 0)
theorem apI(G:Nat->au E->Option (List (TV E)))(x0:aqO):jR QG aaP G Tryz.f33 [⟨.str,x0⟩]=QH G x0:=by kernel_rfl
noncomputable def HZ(G:Nat->au E->Option (List (TV E)))(v0:aqO)(v1:Int):Option (List (TV E)) :=
 bif(decide (v1<(v0.length:Int)))then(bif(decide ((0:Int)<=v1)&&decide (v1<(v0.length:Int)))then(bif(bif(bif(bif((kM (((List.getD v0 (Int.toNat v1) 0).toNat:Nat):Int))==(0:Int))then true else((kM (((List.getD v0 (Int.toNat v1) 0).toNat:Nat):Int))==(2:Int)))then true else((kM (((List.getD v0 (Int.toNat v1) 0).toNat:Nat):Int))==(6:Int)))then true else(bif(v1==(0:Int))then(decide ((3:Int)<(kM (((List.getD v0 (Int.toNat v1) 0).toNat:Nat):Int))))else false))then some [⟨.bool,false⟩]else G 0 (Ca v0 (ak (v1+(1:Int)))))else none)else some [⟨.bool,true⟩]
theorem alc(G:Nat->au E->Option (List (TV E)))(v0:aqO)(v1:Int):uG QG aaP G Tryz.f33 0 (Ca v0 v1)=HZ G v0 v1:=by kernel_rfl
theorem apJ:Tryz.prog.funcs[33]? = some Tryz.f33:=by kernel_rfl
theorem apK:(Tryz.f33.name == "runtime.NumGoroutine")=false:=by kernel_rfl
theorem apL:Tryz.f33.body.isNone=false:=by kernel_rfl
theorem Xr:aK E QG:=gq (.cons QB .nil) .nil .nil .nil
theorem Xt{res:List (TV E)}{v0:aqO}{v1:Int}(h:HZ (Gr E Tryz.f33 res) v0 v1=some res):Ev E Tryz.f33 res 0 (Ca v0 v1):=Ev.step Xr mix ((alc _ v0 v1).trans h)
theorem acF(h:∀(x0:aqO),QH (Gr E Tryz.f33 [⟨.bool,(cO YJ) x0⟩]) x0=some [⟨.bool,(cO YJ) x0⟩]):bG E Xq QF:=zK Xr mix apJ apK apL (fun x0 _=>(apI _ x0).trans (h x0))
theorem aft(s:aqO)(hs:s.length<=24):∀(m i:Nat),s.length-i=m->i<=s.length ->
  Ev E Tryz.f33 [⟨.bool,MB YJ (s.drop i) ((i:Int)==0)⟩] 0 (Ca s i):=by
 intro m
 induction m with
 | zero =>intro i h1 h2;refine Xt ?_;simp only[HZ,Iy (show s.length<=i by omega),cond_false,aa9 (show s.length<=i by omega)];rfl
 | succ m ih =>
  intro i h1 h2;have hi:i<s.length:=by omega
  have e3:ak ((i:Int)+1)=((i+1:Nat):Int):=by rw[aV (by omega) (by omega)];omega
  refine Xt ?_;simp only[HZ,zl hi,d0,gd s _ i hi,adM,cond_true,e3];rw[<- abl hi];simp only[MB];change (bif YJ s[i] ((i:Int)==0)then _ else _)=_;cases YJ s[i] ((i:Int)==0)with
  | true=>rfl
  | false =>have:=gG (ih (i+1) (by omega) (by omega));rw[eT (show((i+1:Nat):Int)≠0 by omega)]at this;exact this
theorem ald:bG E Xq QF:=acF fun s=>by
 simp only[QH,cO];cases hg:(bif decide ((s.length:Int)<1)then true else decide ((24:Int)<(s.length:Int)))with
 | true=>rfl
 | false =>
  have hs:s.length<=24:=by
   by_cases a:(s.length:Int)<1
   ·omega
   ·rw[dF a,cond_false]at hg;have:¬ (24:Int)<(s.length:Int):=by simpa using hg
    omega
  have:=gG (aft s hs s.length 0 (by omega) (by omega));rw[aed]at this;exact this
def K4(c:UInt8)(b:Bool):Bool:=bif(bif kc c==0 then true else decide (4<kc c))then true else(bif b then kc c==3 else false)
noncomputable def Na:jC E:=EO (E:=E) .str .bool (fun _=>true) (cO K4)
def Uq:FuncId:=170
noncomputable def Nb:aI E:=jX [(79,Kg)] [] [] []
noncomputable def Xu:Hint E:={ live:=[(0,[0,3])] }
noncomputable def zZ(v0:aqO)(v1:Int):au E:=au.mk 37 [(0,.d (.str v0)),(3,.d (.int .i64 v1))] [] 0
noncomputable def Nc(G:Nat->au E->Option (List (TV E)))(x0:aqO):Option (List (TV E)) :=
 bif(bif(decide ((x0.length:Int)<(1:Int)))then true else(decide ((24:Int)<(x0.length:Int))))then some [⟨.bool,false⟩]else G 0 (zZ x0 0)
theorem ale(G:Nat->au E->Option (List (TV E)))(x0:aqO):jR Nb Xu G Tryz.f170 [⟨.str,x0⟩]=Nc G x0:=by kernel_rfl
noncomputable def Fp(G:Nat->au E->Option (List (TV E)))(v0:aqO)(v1:Int):Option (List (TV E)) :=
 bif(decide (v1<(v0.length:Int)))then(bif(decide ((0:Int)<=v1)&&decide (v1<(v0.length:Int)))then(bif(bif(bif((kM (((List.getD v0 (Int.toNat v1) 0).toNat:Nat):Int))==(0:Int))then true else(decide ((4:Int)<(kM (((List.getD v0 (Int.toNat v1) 0).toNat:Nat):Int)))))then true else(bif(v1==(0:Int))then((kM (((List.getD v0 (Int.toNat v1) 0).toNat:Nat):Int))==(3:Int))else false))then some [⟨.bool,false⟩]else G 0 (zZ v0 (ak (v1+(1:Int)))))else none)else some [⟨.bool,true⟩]
theorem aiy(G:Nat->au E->Option (List (TV E)))(v0:aqO)(v1:Int):uG Nb Xu G Tryz.f170 0 (zZ v0 v1)=Fp G v0 v1:=by kernel_rfl
theorem alf:Tryz.prog.funcs[170]? = some Tryz.f170:=by kernel_rfl
theorem alg:(Tryz.f170.name == "runtime.NumGoroutine")=false:=by kernel_rfl
theorem alh:Tryz.f170.body.isNone=false:=by kernel_rfl
theorem Ur:aK E Nb:=gq (.cons QB .nil) .nil .nil .nil
theorem Us{res:List (TV E)}{v0:aqO}{v1:Int}(h:Fp (Gr E Tryz.f170 res) v0 v1=some res):Ev E Tryz.f170 res 0 (zZ v0 v1):=Ev.step Ur mix ((aiy _ v0 v1).trans h)
theorem aaQ(h:∀(x0:aqO),Nc (Gr E Tryz.f170 [⟨.bool,(cO K4) x0⟩]) x0=some [⟨.bool,(cO K4) x0⟩]):bG E Uq Na:=zK Ur mix alf alg alh (fun x0 _=>(ale _ x0).trans (h x0))
theorem ali(s:aqO)(hs:s.length<=24):∀(m i:Nat),s.length-i=m->i<=s.length ->
  Ev E Tryz.f170 [⟨.bool,MB K4 (s.drop i) ((i:Int)==0)⟩] 0 (zZ s i):=by
 intro m
 induction m with
 | zero =>intro i h1 h2;refine Us ?_;simp only[Fp,Iy (show s.length<=i by omega),cond_false,aa9 (show s.length<=i by omega)];rfl
 | succ m ih2 =>
  intro i h1 h2;have hi:i<s.length:=by omega
  have e3:ak ((i:Int)+1)=((i+1:Nat):Int):=by rw[aV (by omega) (by omega)];omega
  refine Us ?_;simp only[Fp,zl hi,d0,gd s _ i hi,e3,adM,cond_true];rw[<- abl hi];simp only[MB];change (bif K4 s[i] ((i:Int)==0)then _ else _)=_;cases K4 s[i] ((i:Int)==0)with
  | true=>rfl
  | false =>have:=gG (ih2 (i+1) (by omega) (by omega));rw[eT (show((i+1:Nat):Int)≠0 by omega)]at this;exact this
theorem aiz:bG E Uq Na:=aaQ fun s=>by
 simp only[Nc,cO];cases hg:(bif decide ((s.length:Int)<1)then true else decide ((24:Int)<(s.length:Int)))with
 | true=>rfl
 | false =>
  have hs:s.length<=24:=by
   by_cases a:(s.length:Int)<1
   ·omega
   ·rw[dF a,cond_false]at hg;have:¬ (24:Int)<(s.length:Int):=by simpa using hg
    omega
  have:=gG (ali s hs s.length 0 (by omega) (by omega));rw[aed]at this;exact this
theorem ar4{f:UInt8->Bool->Bool}{s:aqO}(h:cO f s=true):1<=s.length/\s.length<=24:=by
 unfold cO at h;by_cases a:(s.length:Int)<1
 ·rw[dT a]at h;cases h
 ·by_cases b:(24:Int)<(s.length:Int)
  ·rw[dF a,dT b]at h;cases h
  ·omega
def eF(l:List (aqO))(s:aqO):Bool:=l.any (· == s)
noncomputable def apM:jC E:=Ir (E:=E) .cu .str .bool (fun l _=>nL l) eF
def ar5:FuncId:=10
noncomputable def apN:aI E:=jX [] [] [] []
noncomputable def awD:Hint E:={ live:=[(0,[0,1,5])] }
noncomputable def Ut(v0:List (aqO))(v1:aqO)(v2:Int):au E:=au.mk 18 [(0,.d (.slice .str v0)),(1,.d (.str v1)),(5,.d (.int .i64 v2))] [] 0
noncomputable def awE(G:Nat->au E->Option (List (TV E)))(x0:List (aqO))(x1:aqO):Option (List (TV E)) :=
 G 0 (Ut x0 x1 0)
theorem aCt(G:Nat->au E->Option (List (TV E)))(x0:List (aqO))(x1:aqO):jR apN awD G Tryz.f10 [⟨.cu,x0⟩,⟨.str,x1⟩]=awE G x0 x1:=by kernel_rfl
noncomputable def aaR(G:Nat->au E->Option (List (TV E)))(v0:List (aqO))(v1:aqO)(v2:Int):Option (List (TV E)) :=
 bif(decide (v2<(v0.length:Int)))then(bif(decide ((0:Int)<=v2)&&decide (v2<(v0.length:Int)))then(bif((List.getD v0 (Int.toNat v2) (dflt .str))==v1)then some [⟨.bool,true⟩]else G 0 (Ut v0 v1 (ak (v2+(1:Int)))))else none)else some [⟨.bool,false⟩]
theorem aAQ(G:Nat->au E->Option (List (TV E)))(v0:List (aqO))(v1:aqO)(v2:Int):uG apN awD G Tryz.f10 0 (Ut v0 v1 v2)=aaR G v0 v1 v2:=by kernel_rfl
theorem aCu:Tryz.prog.funcs[10]? = some Tryz.f10:=by kernel_rfl
theorem aCv:(Tryz.f10.name == "runtime.NumGoroutine")=false:=by kernel_rfl
theorem aCw:Tryz.f10.body.isNone=false:=by kernel_rfl
theorem ar6:aK E apN:=gq .nil .nil .nil .nil
theorem ar7{res:List (TV E)}{v0:List (aqO)}{v1:aqO}{v2:Int}(h:aaR (Gr E Tryz.f10 res) v0 v1 v2=some res):Ev E Tryz.f10 res 0 (Ut v0 v1 v2):=Ev.step ar6 mix ((aAQ _ v0 v1 v2).trans h)
theorem ar8(h:∀(x0:List (aqO)) (x1:aqO),(fun l _=>nL l) x0 x1=true->awE (Gr E Tryz.f10 [⟨.bool,eF x0 x1⟩]) x0 x1=some [⟨.bool,eF x0 x1⟩]):bG E ar5 apM:=Iu ar6 mix aCu aCv aCw (fun x0 x1 hk=>(aCt _ x0 x1).trans (h x0 x1 hk))
theorem aCx(l:List (aqO))(s:aqO)(hs:l.length<=1000000):∀(m i:Nat),l.length-i=m->i<=l.length ->
  Ev E Tryz.f10 [⟨.bool,(l.drop i).any (· == s)⟩] 0 (Ut l s i):=by
 intro m
 induction m with
 | zero =>intro i h1 h2;refine ar7 ?_;simp only[aaR,Iy (show l.length<=i by omega),cond_false,aa9 (show l.length<=i by omega)];rfl
 | succ m ih2 =>
  intro i h1 h2;have hi:i<l.length:=by omega
  have e3:ak ((i:Int)+1)=((i+1:Nat):Int):=by rw[aV (by omega) (by omega)];omega
  refine ar7 ?_;simp only[aaR,zl hi,d0,gd l _ i hi,e3,adM,cond_true];rw[<- abl hi];rw[al6];cases l[i]==s with
  | true=>rfl
  | false=>exact gG (ih2 (i+1) (by omega) (by omega))
theorem aAR:bG E ar5 apM:=ar8 fun l s hk=>by have:=gG (aCx l s (sW.1 hk) l.length 0 (by omega) (by omega));rw[aed]at this;exact this
def Uu(out:List (aqO))(x:aqO):Bool:=match out.getLast? with
 | none=>true
 | some z=>decide (z<x)
theorem last_at(out:List (aqO))(z:aqO)(hl:out.length<=1000000):List.getD (out++[z]) (Int.toNat (ak ((((out++[z]).length:Nat):Int)-1))) (dflt .str)=z:=by rw[List.length_append,aa8,aV (by omega) (by omega),show(((out.length+1:Nat):Int)-1)=(out.length:Int)from by omega,gd _ _ out.length (by simp)];simp
theorem cExpr(out:List (aqO))(x:aqO)(hl:out.length<=1000000) :
  (bif(((out.length:Nat):Int)==(0:Int))then true else(!(Op.bytesLess x (List.getD out (Int.toNat (ak (((out.length:Nat):Int)-1))) (dflt .str))||x==(List.getD out (Int.toNat (ak (((out.length:Nat):Int)-1))) (dflt .str)))))=Uu out x:=by
 rcases List.eq_nil_or_concat out with rfl | ⟨o,z,rfl⟩
 ·rfl
 ·rw[List.concat_eq_append]at hl ⊢;rw[last_at o z (by simp at hl;omega),eT (by simp;omega),cond_false,Go.Proofs.bytesLess_eq];unfold Uu;rw[List.getLast?_concat];simp only;rcases Pl.awr z x with h | h | h
  ·have h1:¬ x<z:=Pl.Ol h;have h2:x≠z:=fun e=>by subst e;exact Pl.xu _ h
   simp[h,h1,h2]
  ·subst h;simp[Pl.xu]
  ·have h1:¬ z<x:=Pl.Ol h;simp[h,h1]
theorem aAS(out:List (aqO))(hl:out.length<=1000000):((decide ((0:Int)<=(ak (((out.length:Nat):Int)-1)))&&decide ((ak (((out.length:Nat):Int)-1))<(out.length:Nat))) || !(!(((out.length:Nat):Int)==(0:Int))))=true:=by
 by_cases h:out.length=0
 ·rw[h];rfl
 ·rw[aV (by omega) (by omega),dT (by omega),dT (by omega)];rfl
structure Pre (l out:List (aqO)):Prop where
 ss:Pl.SS out
 sub:∀x∈out,x∈l
 low:∀y∈l,y∉out->∀x∈out,x<y
theorem Pre.last{l out:List (aqO)}(h:Pre l out){x:aqO}(hx:x∈l):Uu out x=true↔x∉out:=by
 unfold Uu;rcases List.eq_nil_or_concat out with rfl | ⟨o,z,rfl⟩
 ·simp
 ·rw[List.concat_eq_append]at h ⊢;rw[List.getLast?_concat];simp only[adB];constructor
  ·intro hz hm;have hs:=h.ss;unfold Pl.SS at hs;rw[List.pairwise_append]at hs;rcases List.mem_append.1 hm with hm | hm
   ·exact Pl.Ol hz (hs.2.2 x hm z (by simp))
   ·have:x=z:=by simpa using hm
    subst this;exact Pl.xu _ hz
  ·exact fun hn=>h.low x hx hn z (by simp)
def lack(l out:List (aqO)):Nat:=l.countP fun x=>!decide (x∈out)
theorem aek(out:List (aqO))(z:aqO)(hz:z∉out):∀(l:List (aqO)),lack l (out++[z])<=lack l out/\(z∈l->lack l (out++[z])+1<=lack l out)
 | []=>⟨abn _,fun h=>by cases h⟩
 | a::t=>by
  obtain⟨h1,h2⟩:=aek out z hz t;unfold lack at *;simp only[List.countP_cons];by_cases e:a=z
  ·subst e;have k1:(!decide (a∈out++[a]))=false:=by simp
   have k2:(!decide (a∈out))=true:=by simpa using hz
   rw[k1,k2];simp only[Bool.false_eq_true,if_false,if_true];exact⟨by omega,fun _=>by omega⟩
  ·have k:(!decide (a∈out++[z]))=(!decide (a∈out)):=by simp[e]
   rw[k];refine⟨by omega,fun hm=>?_⟩;have:=h2 ((List.mem_cons.1 hm).resolve_left (fun h=>e h.symm));omega
def Best(l out:List (aqO))(i:Nat)(b:Int):Prop :=
 (b = -1/\∀(k:Nat) x,k<i->l[k]? = some x->x∈out)\/∃(j:Nat) (z:aqO),j<i/\b=(j:Int)/\l[j]? = some z/\z∉out/\∀(k:Nat) x,k<i->l[k]? = some x->x∉out->z<=x
noncomputable def MC:jC E:=EO (E:=E) .cu .cu nL Pl.bA
def aaS:FuncId:=36
noncomputable def ME:aI E:=jX [] [] [] []
noncomputable def Uv:Hint E:={ live:=[(0,[0,3]),(1,[0,3,4,5])] }
noncomputable def AX(v0:List (aqO))(v1:Nat)(v2:List (aqO)):au E:=au.mk 55 [(0,.d (.slice .str v0)),(3,.row .str v1 0)] [(0,.row .str v2)] 1
noncomputable def AY(v0:List (aqO))(v1:Nat)(v2 v3:Int)(v4:List (aqO)):au E:=au.mk 55 [(0,.d (.slice .str v0)),(3,.row .str v1 0),(4,.d (.int .i64 v2)),(5,.d (.int .i64 v3))] [(0,.row .str v4)] 1
noncomputable def ael(G:Nat->au E->Option (List (TV E)))(x0:List (aqO)):Option (List (TV E)) :=
 G 0 (AX x0 0 [])
theorem ar9(G:Nat->au E->Option (List (TV E)))(x0:List (aqO)):jR ME Uv G Tryz.f36 [⟨.cu,x0⟩]=ael G x0:=by kernel_rfl
noncomputable def QI(G:Nat->au E->Option (List (TV E)))(v0:List (aqO))(v1:Nat)(v2:List (aqO)):Option (List (TV E)) :=
 G 1 (AY v0 v1 (-1) 0 v2)
theorem apO(G:Nat->au E->Option (List (TV E)))(v0:List (aqO))(v1:Nat)(v2:List (aqO)):uG ME Uv G Tryz.f36 0 (AX v0 v1 v2)=QI G v0 v1 v2:=by kernel_rfl
noncomputable def J2(G:Nat->au E->Option (List (TV E)))(v0:List (aqO))(v1:Nat)(v2 v3:Int)(v4:List (aqO)):Option (List (TV E)) :=
 bif(decide (v3<(v0.length:Int)))then(bif((decide ((0:Int)<=v3)&&decide (v3<(v0.length:Int))) || !(!(((v1:Nat):Int)==(0:Int))))then(bif((decide ((0:Int)<=(ak (((v1:Nat):Int)-(1:Int))))&&decide ((ak (((v1:Nat):Int)-(1:Int)))<(v1:Nat))) || !(!(((v1:Nat):Int)==(0:Int))))then(bif((decide ((0:Int)<=v3)&&decide (v3<(v0.length:Int))) || !((bif(((v1:Nat):Int)==(0:Int))then true else(!(Op.bytesLess (List.getD v0 (Int.toNat v3) (dflt .str)) (List.getD v4 (Int.toNat (ak (((v1:Nat):Int)-(1:Int)))) (dflt .str))||(List.getD v0 (Int.toNat v3) (dflt .str))==(List.getD v4 (Int.toNat (ak (((v1:Nat):Int)-(1:Int)))) (dflt .str)))))&&(!(decide (v2<(0:Int))))))then(bif((decide ((0:Int)<=v2)&&decide (v2<(v0.length:Int))) || !((bif(((v1:Nat):Int)==(0:Int))then true else(!(Op.bytesLess (List.getD v0 (Int.toNat v3) (dflt .str)) (List.getD v4 (Int.toNat (ak (((v1:Nat):Int)-(1:Int)))) (dflt .str))||(List.getD v0 (Int.toNat v3) (dflt .str))==(List.getD v4 (Int.toNat (ak (((v1:Nat):Int)-(1:Int)))) (dflt .str)))))&&(!(decide (v2<(0:Int))))))then(bif(bif(bif(((v1:Nat):Int)==(0:Int))then true else(!(Op.bytesLess (List.getD v0 (Int.toNat v3) (dflt .str)) (List.getD v4 (Int.toNat (ak (((v1:Nat):Int)-(1:Int)))) (dflt .str))||(List.getD v0 (Int.toNat v3) (dflt .str))==(List.getD v4 (Int.toNat (ak (((v1:Nat):Int)-(1:Int)))) (dflt .str)))))then(bif(decide (v2<(0:Int)))then true else(Op.bytesLess (List.getD v0 (Int.toNat v3) (dflt .str)) (List.getD v0 (Int.toNat v2) (dflt .str))))else false)then G 1 (AY v0 v1 v3 (ak (v3+(1:Int))) v4)else G 1 (AY v0 v1 v2 (ak (v3+(1:Int))) v4))else none)else none)else none)else none)else(bif(decide (v2<(0:Int)))then some [⟨.cu,v4⟩]else(bif(decide ((0:Int)<=v2)&&decide (v2<(v0.length:Int)))then(bif(decide ((v4.length+([(List.getD v0 (Int.toNat v2) (dflt .str))]:List (aqO)).length)*16<=aB))then G 0 (AX v0 (v4.length+([(List.getD v0 (Int.toNat v2) (dflt .str))]:List (aqO)).length) (v4++([(List.getD v0 (Int.toNat v2) (dflt .str))]:List (aqO))))else none)else none))
theorem apP(G:Nat->au E->Option (List (TV E)))(v0:List (aqO))(v1:Nat)(v2 v3:Int)(v4:List (aqO)):uG ME Uv G Tryz.f36 1 (AY v0 v1 v2 v3 v4)=J2 G v0 v1 v2 v3 v4:=by kernel_rfl
theorem asa:Tryz.prog.funcs[36]? = some Tryz.f36:=by kernel_rfl
theorem asb:(Tryz.f36.name == "runtime.NumGoroutine")=false:=by kernel_rfl
theorem asc:Tryz.f36.body.isNone=false:=by kernel_rfl
theorem QJ:aK E ME:=gq .nil .nil .nil .nil
theorem apQ{res:List (TV E)}{v0:List (aqO)}{v1:Nat}{v2:List (aqO)}(h:QI (Gr E Tryz.f36 res) v0 v1 v2=some res):Ev E Tryz.f36 res 0 (AX v0 v1 v2):=Ev.step QJ mix ((apO _ v0 v1 v2).trans h)
theorem aaT{res:List (TV E)}{v0:List (aqO)}{v1:Nat}{v2 v3:Int}{v4:List (aqO)}(h:J2 (Gr E Tryz.f36 res) v0 v1 v2 v3 v4=some res):Ev E Tryz.f36 res 1 (AY v0 v1 v2 v3 v4):=Ev.step QJ mix ((apP _ v0 v1 v2 v3 v4).trans h)
theorem afu(h:∀(x0:List (aqO)),nL x0=true->ael (Gr E Tryz.f36 [⟨.cu,Pl.bA x0⟩]) x0=some [⟨.cu,Pl.bA x0⟩]):bG E aaS MC:=zK QJ mix asa asb asc (fun x0 hk=>(ar9 _ x0).trans (h x0 hk))
theorem ase(l out:List (aqO))(hl:l.length<=1000000)(hp:Pre l out)(hn:out.length+lack l out<=l.length)
  (ih:∀z,Pre l (out++[z])->(out++[z]).length+lack l (out++[z])<=l.length->lack l (out++[z])<lack l out->Ev E Tryz.f36 [⟨.cu,Pl.bA l⟩] 0 (AX l (out++[z]).length (out++[z]))) :
  ∀(m i:Nat) (b:Int),l.length-i=m->i<=l.length->Best l out i b->Ev E Tryz.f36 [⟨.cu,Pl.bA l⟩] 1 (AY l out.length b i out):=by
 have ho:out.length<=1000000:=by omega
 intro m
 induction m with
 | zero =>
  intro i b h1 h2 hb;have e:i=l.length:=by omega
  subst e;refine aaT ?_;simp only[J2,Iy (abn l.length),cond_false];rcases hb with⟨rfl,hb⟩ | ⟨j,z,hj,rfl,hz,hzo,hmin⟩
  ·rw[dT (by decide),cond_true,Pl.xw hp.ss fun x=>⟨hp.sub x,fun hx=>?_⟩];obtain⟨k,hk,rfl⟩:=List.mem_iff_getElem.1 hx;exact hb k _ hk (aaz hk)
  ·have hzl:l[j]=z:=by rw[aaz hj]at hz;exact Option.some.inj hz
   rw[dF (by omega),cond_false,d0,zl hj,gd l _ j hj,hzl];simp only[adM,cond_true];rw[dT (show(out.length+[z].length)*16<=aB by rw[mb,aa8];omega),cond_true];have hmem:z∈l:=by rw[<- hzl];exact aee hj
   have hlk:=(aek out z hzo l).2 hmem;have hpre:Pre l (out++[z]):={
    ss:=by
     unfold Pl.SS;rw[List.pairwise_append];exact⟨hp.ss,List.pairwise_singleton _ _,fun x hx y hy=>by
      have:y=z:=by simpa using hy
      subst this;exact hp.low y hmem hzo x hx⟩
    sub:=fun x hx=>by
     rcases List.mem_append.1 hx with hx | hx
     ·exact hp.sub x hx
     ·have:x=z:=by simpa using hx
      subst this;exact hmem
    low:=fun y hy hyo x hx=>by
     have aAT:y∉out:=fun h=>hyo (List.mem_append_left _ h)
     have hyz:y≠z:=fun h=>hyo (by rw[h];simp)
     rcases List.mem_append.1 hx with hx | hx
     ·exact hp.low y hy aAT x hx
     ·have:x=z:=by simpa using hx
      subst this;obtain⟨k,hk,rfl⟩:=List.mem_iff_getElem.1 hy;exact Pl.Rp (hmin k _ hk (aaz hk) aAT) (fun h=>hyz h.symm) }
   have:=gG (ih z hpre (by rw[List.length_append,aa8];omega) (by omega));rw[List.length_append]at this;exact this
 | succ m ihm =>
  intro i b h1 h2 hb;have hi:i<l.length:=by omega
  have hgi:=aaz hi;refine aaT ?_;have hlast:=hp.last (aee hi);have e3:ak ((i:Int)+1)=((i+1:Nat):Int):=by rw[aV (by omega) (by omega)];omega
  simp only[J2,zl hi,d0,gd l _ i hi,cExpr out _ ho,aAS out ho,e3,adM,ad5,cond_true];cases hc:Uu out l[i]with
  | false =>
   have hin:l[i]∈out:=Decidable.byContradiction fun h=>by rw[hlast.2 h]at hc;cases hc
   simp only[ajZ,aec,ai5,cond_true,cond_false];refine gG (ihm (i+1) b (by omega) (by omega) ?_);rcases hb with⟨rfl,hb⟩ | ⟨j,z,hj,rfl,hz,hzo,hmin⟩
   ·refine .inl ⟨rfl,fun k x hk hx=>?_⟩;by_cases hki:k=i
    ·subst hki;rw[hgi]at hx;cases hx;exact hin
    ·exact hb k x (by omega) hx
   ·refine .inr ⟨j,z,by omega,rfl,hz,hzo,fun k x hk hx hxo=>?_⟩;by_cases hki:k=i
    ·subst hki;rw[hgi]at hx;cases hx;exact absurd hin hxo
    ·exact hmin k x (by omega) hx hxo
  | true =>
   have hno:l[i]∉out:=hlast.1 hc;rcases hb with⟨rfl,hb⟩ | ⟨j,z,hj,rfl,hz,hzo,hmin⟩
   ·have hd:decide ((-1:Int)<0)=true:=by decide
    simp only[hd,adr,ajK,aec,ai5,cond_true];refine gG (ihm (i+1) (i:Int) (by omega) (by omega) (.inr ⟨i,l[i],by omega,rfl,hgi,hno,fun k x hk hx hxo=>?_⟩));by_cases hki:k=i
    ·subst hki;rw[hgi]at hx;cases hx;exact Pl.Qk.2 (Pl.xu _)
    ·exact absurd (hb k x (by omega) hx) hxo
   ·have hjl:j<l.length:=by omega
    have hzl:l[j]=z:=by rw[aaz hjl]at hz;exact Option.some.inj hz
    have hd:decide ((j:Int)<0)=false:=dF (by omega);simp only[hd,d0,zl hjl,gd l _ j hjl,hzl,aec,adM,ad5,cond_true,cond_false,Go.Proofs.bytesLess_eq];by_cases hlt:l[i]<z
    ·rw[dT hlt,cond_true];refine gG (ihm (i+1) (i:Int) (by omega) (by omega) (.inr ⟨i,l[i],by omega,rfl,hgi,hno,fun k x hk hx hxo=>?_⟩));by_cases hki:k=i
     ·subst hki;rw[hgi]at hx;cases hx;exact Pl.Qk.2 (Pl.xu _)
     ·exact Pl.Ql (Pl.Qk.2 (Pl.Ol hlt)) (hmin k x (by omega) hx hxo)
    ·rw[dF hlt,cond_false];refine gG (ihm (i+1) (j:Int) (by omega) (by omega) (.inr ⟨j,z,by omega,rfl,hz,hzo,fun k x hk hx hxo=>?_⟩));by_cases hki:k=i
     ·subst hki;rw[hgi]at hx;cases hx;exact Pl.Qk.2 hlt
     ·exact hmin k x (by omega) hx hxo
theorem asf(l:List (aqO))(hl:l.length<=1000000):∀(m:Nat) (out:List (aqO)),lack l out=m->Pre l out->out.length+lack l out<=l.length->Ev E Tryz.f36 [⟨.cu,Pl.bA l⟩] 0 (AX l out.length out):=by
 intro m
 induction m using Nat.strongRecOn with
 | ind m ih =>intro out hm hp hn;refine apQ ?_;simp only[QI];exact gG (ase l out hl hp hn (fun z h1 h2 h3=>ih (lack l (out++[z])) (by omega) (out++[z]) rfl h1 h2) l.length 0 (-1) (by omega) (by omega) (.inl ⟨rfl,fun k x hk=>by omega⟩))
theorem aaU:bG E aaS MC:=afu fun l hk=>by have hl:=sW.1 hk;have aFL:lack l []<=l.length:=List.countP_le_length;exact gG (asf l hl _ [] rfl ⟨List.Pairwise.nil,fun x h=>(by cases h),fun y _ _ x h=>(by cases h)⟩ (by rw[List.length_nil];omega))
noncomputable def acG:jC E:=Ir (E:=E) .cu .cu .bool (fun a _=>nL a) equal
def aiA:FuncId:=25
noncomputable def acH:aI E:=jX [] [] [] []
noncomputable def amL:Hint E:={ live:=[(0,[0,1,5])] }
noncomputable def K5(v0 v1:List (aqO))(v2:Int):au E:=au.mk 26 [(0,.d (.slice .str v0)),(1,.d (.slice .str v1)),(5,.d (.int .i64 v2))] [] 0
noncomputable def acI(G:Nat->au E->Option (List (TV E)))(x0 x1:List (aqO)):Option (List (TV E)) :=
 bif((x0.length:Int)!=(x1.length:Int))then some [⟨.bool,false⟩]else G 0 (K5 x0 x1 0)
theorem ayC(G:Nat->au E->Option (List (TV E)))(x0 x1:List (aqO)):jR acH amL G Tryz.f25 [⟨.cu,x0⟩,⟨.cu,x1⟩]=acI G x0 x1:=by kernel_rfl
noncomputable def QK(G:Nat->au E->Option (List (TV E)))(v0 v1:List (aqO))(v2:Int):Option (List (TV E)) :=
 bif(decide (v2<(v0.length:Int)))then(bif(decide ((0:Int)<=v2)&&decide (v2<(v0.length:Int)))then(bif(decide ((0:Int)<=v2)&&decide (v2<(v1.length:Int)))then(bif(!((List.getD v0 (Int.toNat v2) (dflt .str))==(List.getD v1 (Int.toNat v2) (dflt .str))))then some [⟨.bool,false⟩]else G 0 (K5 v0 v1 (ak (v2+(1:Int)))))else none)else none)else some [⟨.bool,true⟩]
theorem avj(G:Nat->au E->Option (List (TV E)))(v0 v1:List (aqO))(v2:Int):uG acH amL G Tryz.f25 0 (K5 v0 v1 v2)=QK G v0 v1 v2:=by kernel_rfl
theorem ayD:Tryz.prog.funcs[25]? = some Tryz.f25:=by kernel_rfl
theorem ayE:(Tryz.f25.name == "runtime.NumGoroutine")=false:=by kernel_rfl
theorem ayF:Tryz.f25.body.isNone=false:=by kernel_rfl
theorem aiB:aK E acH:=gq .nil .nil .nil .nil
theorem aiC{res:List (TV E)}{v0 v1:List (aqO)}{v2:Int}(h:QK (Gr E Tryz.f25 res) v0 v1 v2=some res):Ev E Tryz.f25 res 0 (K5 v0 v1 v2):=Ev.step aiB mix ((avj _ v0 v1 v2).trans h)
theorem alj(h:∀(x0:List (aqO)) (x1:List (aqO)),(fun a _=>nL a) x0 x1=true->acI (Gr E Tryz.f25 [⟨.bool,equal x0 x1⟩]) x0 x1=some [⟨.bool,equal x0 x1⟩]):bG E aiA acG:=Iu aiB mix ayD ayE ayF (fun x0 x1 hk=>(ayC _ x0 x1).trans (h x0 x1 hk))
theorem apR(a b:List (aqO))(ha:a.length<=1000000)(hab:a.length=b.length):∀(m i:Nat),a.length-i=m->i<=a.length->Ev E Tryz.f25 [⟨.bool,a.drop i==b.drop i⟩] 0 (K5 a b i):=by
 intro m
 induction m with
 | zero =>intro i h1 h2;refine aiC ?_;simp only[QK,Iy (show a.length<=i by omega),cond_false,aa9 (show a.length<=i by omega),aa9 (show b.length<=i by omega)];rfl
 | succ m ih =>
  intro i h1 h2;have hi:i<a.length:=by omega
  have hj:i<b.length:=by omega
  refine aiC ?_;simp only[QK,zl hi,zl hj,d0,gd a _ i hi,gd b _ i hj,adM,cond_true];rw[<- abl hi,<- abl hj,aV (by omega) (by omega)];by_cases hs:a[i]=b[i]
  ·have e:(a[i]::a.drop (i+1)==b[i]::b.drop (i+1))=(a.drop (i+1)==b.drop (i+1)):=by rw[List.cons_beq_cons];simp[hs]
   rw[e,show(a[i]==b[i])=true from by simpa using hs];exact gG (ih (i+1) (by omega) (by omega))
  ·have e:(a[i]::a.drop (i+1)==b[i]::b.drop (i+1))=false:=by rw[List.cons_beq_cons];simp[hs]
   rw[e,show(a[i]==b[i])=false from by simpa using hs];rfl
theorem avk:bG E aiA acG:=alj fun a b hk=>by
 simp only[acI];by_cases h:a.length=b.length
 ·rw[nK (by omega),cond_false];have:=apR a b (sW.1 hk) h a.length 0 (by omega) (by omega);rw[aed,aed]at this;exact gG this
 ·rw[kr (by omega),cond_true];have:equal a b=false:=by simp only[equal,agA];exact fun e=>h (by rw[e])
  rw[this]
noncomputable def aaV:jC E:=aoP (E:=E) .ah .str .ah .bool (fun n _=>fit n) aJ aD
def amM:FuncId:=37
noncomputable def aiD:aI E:=jX [] [] [] []
noncomputable def asg:Hint E:={ live:=[(0,[1,2,4,6])] }
noncomputable def OA(v0:aqO)(v1 v2:Int)(v3:aqO)(v4:List (aqO))(v5:List Node)(v6:Int)(v7:aqO):au E:=au.mk 30 [(1,.d (.str v0)),(2,.ptr 0 0),(4,.ptr 1 0),(6,.d (.int .i64 v1))] [(0,.box [.d (.int .i64 v2),.d (.str v3),.d (.slice .str v4),.d (.slice .ah v5)]),(1,.box [.d (.int .i64 v6),.d (.str v7),.d (.raw (.slice none 0 0)),.d (.raw (.slice none 0 0))])] 2
noncomputable def aaW(G:Nat->au E->Option (List (TV E)))(x0:Node)(x1:aqO):Option (List (TV E)) :=
 bif(x0.kind==(3:Int))then G 0 (OA x1 0 x0.kind x0.text x0.keys x0.kids 0 [])else some [⟨.ah,(⟨0,[],[],[]⟩:Node)⟩,⟨.bool,false⟩]
theorem aAU(G:Nat->au E->Option (List (TV E)))(x0:Node)(x1:aqO):jR aiD asg G Tryz.f37 [⟨.ah,x0⟩,⟨.str,x1⟩]=aaW G x0 x1:=by kernel_rfl
noncomputable def V4(G:Nat->au E->Option (List (TV E)))(v0:aqO)(v1 v2:Int)(v3:aqO)(v4:List (aqO))(v5:List Node)(v6:Int)(v7:aqO):Option (List (TV E)) :=
 bif(decide (v1<(v4.length:Int)))then(bif(decide ((0:Int)<=v1)&&decide (v1<(v4.length:Int)))then(bif((List.getD v4 (Int.toNat v1) (dflt .str))==v0)then(bif(decide ((0:Int)<=v1)&&decide (v1<(v5.length:Int)))then some [⟨.ah,(⟨(List.getD v5 (Int.toNat v1) (dflt .ah)).kind,(List.getD v5 (Int.toNat v1) (dflt .ah)).text,(List.getD v5 (Int.toNat v1) (dflt .ah)).keys,(List.getD v5 (Int.toNat v1) (dflt .ah)).kids⟩:Node)⟩,⟨.bool,true⟩]else none)else G 0 (OA v0 (ak (v1+(1:Int))) v2 v3 v4 v5 v6 v7))else none)else some [⟨.ah,(⟨0,[],[],[]⟩:Node)⟩,⟨.bool,false⟩]
theorem ayG(G:Nat->au E->Option (List (TV E)))(v0:aqO)(v1 v2:Int)(v3:aqO)(v4:List (aqO))(v5:List Node)(v6:Int)(v7:aqO):uG aiD asg G Tryz.f37 0 (OA v0 v1 v2 v3 v4 v5 v6 v7)=V4 G v0 v1 v2 v3 v4 v5 v6 v7:=by kernel_rfl
theorem aAV:Tryz.prog.funcs[37]? = some Tryz.f37:=by kernel_rfl
theorem aAW:(Tryz.f37.name == "runtime.NumGoroutine")=false:=by kernel_rfl
theorem aAX:Tryz.f37.body.isNone=false:=by kernel_rfl
theorem amN:aK E aiD:=gq .nil .nil .nil .nil
theorem amO{res:List (TV E)}{v0:aqO}{v1 v2:Int}{v3:aqO}{v4:List (aqO)}{v5:List Node}{v6:Int}{v7:aqO}(h:V4 (Gr E Tryz.f37 res) v0 v1 v2 v3 v4 v5 v6 v7=some res):Ev E Tryz.f37 res 0 (OA v0 v1 v2 v3 v4 v5 v6 v7):=Ev.step amN mix ((ayG _ v0 v1 v2 v3 v4 v5 v6 v7).trans h)
theorem apS(h:∀(x0:Node) (x1:aqO),(fun n _=>fit n) x0 x1=true->aaW (Gr E Tryz.f37 [⟨.ah,aJ x0 x1⟩,⟨.bool,aD x0 x1⟩]) x0 x1=some [⟨.ah,aJ x0 x1⟩,⟨.bool,aD x0 x1⟩]):bG E amM aaV:=amb amN mix aAV aAW aAX (fun x0 x1 hk=>(aAU _ x0 x1).trans (h x0 x1 hk))
theorem ayH(keys:List (aqO))(kids:List Node)(k:aqO)(hl:keys.length=kids.length)(i:Nat)(hi:i<keys.length):lk (keys.drop i) (kids.drop i) k=if k=keys[i]then some (kids[i]'(by omega))else lk (keys.drop (i+1)) (kids.drop (i+1)) k:=by rw[<- abl hi,<- abl (show i<kids.length by omega)];rfl
theorem ash(n:Node)(k:aqO)(hl:n.keys.length=n.kids.length)(hb:n.keys.length<=1000000)(u0:Int)(u1:aqO):∀(m i:Nat),n.keys.length-i=m->i<=n.keys.length ->
  Ev E Tryz.f37 [⟨.ah,(lk (n.keys.drop i) (n.kids.drop i) k).getD zn⟩,⟨.bool,(lk (n.keys.drop i) (n.kids.drop i) k).isSome⟩] 0 (OA k i n.kind n.text n.keys n.kids u0 u1):=by
 intro m
 induction m with
 | zero =>intro i h1 h2;refine amO ?_;simp only[V4,Iy (show n.keys.length<=i by omega),cond_false,aa9 (show n.keys.length<=i by omega)];rfl
 | succ m ih =>
  intro i h1 h2;have hi:i<n.keys.length:=by omega
  have hj:i<n.kids.length:=by omega
  refine amO ?_;simp only[V4,zl hi,zl hj,d0,gd n.keys _ i hi,gd n.kids _ i hj,adM,cond_true,gB];rw[ayH n.keys n.kids k hl i hi];by_cases e:k=n.keys[i]
  ·rw[if_pos e,show(n.keys[i]==k)=true from by simp[e]];rfl
  ·rw[if_neg e,show(n.keys[i]==k)=false from by simpa using fun h=>e h.symm,cond_false,aV (by omega) (by omega)];exact gG (ih (i+1) (by omega) (by omega))
theorem amP:bG E amM aaV:=apS fun n k hk=>by
 have hf:=qY.1 hk;unfold aJ aD get;by_cases h:n.kind=3
 ·simp only[aaW,iU h,cond_true,if_pos h];have:=gG (ash n k (hf.2 h) hf.1.1 0 [] n.keys.length 0 (by omega) (by omega));rw[aed,aed]at this;exact this
 ·simp only[aaW,eT h,cond_false,if_neg h];rfl
noncomputable def Aa(n:Nat):jC E:=Ir (E:=E) .ah .ah .bool (Oo n) (same n)
def D5:FuncId:=9
noncomputable def YK(n:Nat):aI E:=jX [(25,acG),(9,Aa n)] [] [] []
noncomputable def aiE:Hint E:={ live:=[(0,[2,3,5])] }
noncomputable def II(v0 v1:Int)(v2:aqO)(v3:List (aqO))(v4:List Node)(v5:Int)(v6:aqO)(v7:List (aqO))(v8:List Node):au E:=au.mk 54 [(2,.ptr 0 0),(3,.ptr 1 0),(5,.d (.int .i64 v0))] [(0,.box [.d (.int .i64 v1),.d (.str v2),.d (.slice .str v3),.d (.slice .ah v4)]),(1,.box [.d (.int .i64 v5),.d (.str v6),.d (.slice .str v7),.d (.slice .ah v8)])] 2
noncomputable def YM(_n:Nat)(G:Nat->au E->Option (List (TV E)))(x0 x1:Node):Option (List (TV E)) :=
 bif(((fun a _=>nL a) x0.keys x1.keys) || !(!(bif(x0.kind != x1.kind)then true else(!(x0.text==x1.text)))))then(bif(bif(bif(bif(x0.kind != x1.kind)then true else(!(x0.text==x1.text)))then true else(!(equal x0.keys x1.keys)))then true else((x0.kids.length:Int)!=(x1.kids.length:Int)))then some [⟨.bool,false⟩]else G 0 (II 0 x0.kind x0.text x0.keys x0.kids x1.kind x1.text x1.keys x1.kids))else none
theorem avl(n:Nat)(G:Nat->au E->Option (List (TV E)))(x0 x1:Node):jR (YK n) aiE G Tryz.f9 [⟨.ah,x0⟩,⟨.ah,x1⟩]=YM n G x0 x1:=by kernel_rfl
noncomputable def MF(n:Nat)(G:Nat->au E->Option (List (TV E)))(v0 v1:Int)(v2:aqO)(v3:List (aqO))(v4:List Node)(v5:Int)(v6:aqO)(v7:List (aqO))(v8:List Node):Option (List (TV E)) :=
 bif(decide (v0<(v4.length:Int)))then(bif(decide ((0:Int)<=v0)&&decide (v0<(v4.length:Int)))then(bif(decide ((0:Int)<=v0)&&decide (v0<(v8.length:Int)))then(bif((Oo n) (⟨(List.getD v4 (Int.toNat v0) (dflt .ah)).kind,(List.getD v4 (Int.toNat v0) (dflt .ah)).text,(List.getD v4 (Int.toNat v0) (dflt .ah)).keys,(List.getD v4 (Int.toNat v0) (dflt .ah)).kids⟩:Node) (⟨(List.getD v8 (Int.toNat v0) (dflt .ah)).kind,(List.getD v8 (Int.toNat v0) (dflt .ah)).text,(List.getD v8 (Int.toNat v0) (dflt .ah)).keys,(List.getD v8 (Int.toNat v0) (dflt .ah)).kids⟩:Node))then(bif(!((same n) (⟨(List.getD v4 (Int.toNat v0) (dflt .ah)).kind,(List.getD v4 (Int.toNat v0) (dflt .ah)).text,(List.getD v4 (Int.toNat v0) (dflt .ah)).keys,(List.getD v4 (Int.toNat v0) (dflt .ah)).kids⟩:Node) (⟨(List.getD v8 (Int.toNat v0) (dflt .ah)).kind,(List.getD v8 (Int.toNat v0) (dflt .ah)).text,(List.getD v8 (Int.toNat v0) (dflt .ah)).keys,(List.getD v8 (Int.toNat v0) (dflt .ah)).kids⟩:Node)))then some [⟨.bool,false⟩]else G 0 (II (ak (v0+(1:Int))) v1 v2 v3 v4 v5 v6 v7 v8))else none)else none)else none)else some [⟨.bool,true⟩]
theorem asi(n:Nat)(G:Nat->au E->Option (List (TV E)))(v0 v1:Int)(v2:aqO)(v3:List (aqO))(v4:List Node)(v5:Int)(v6:aqO)(v7:List (aqO))(v8:List Node):uG (YK n) aiE G Tryz.f9 0 (II v0 v1 v2 v3 v4 v5 v6 v7 v8)=MF n G v0 v1 v2 v3 v4 v5 v6 v7 v8:=by kernel_rfl
theorem aiF:Tryz.prog.funcs[9]? = some Tryz.f9:=by kernel_rfl
theorem aiG:(Tryz.f9.name == "runtime.NumGoroutine")=false:=by kernel_rfl
theorem aiH:Tryz.f9.body.isNone=false:=by kernel_rfl
theorem asj:∃fn,Tryz.prog.funcs[9]? = some fn/\(fn.name == "runtime.NumGoroutine")=false/\fn.body.isNone=false:=⟨Tryz.f9,aiF,aiG,aiH⟩
theorem aem(n:Nat)(ih:bG E D5 (Aa n)):aK E (YK n):=gq (.cons avk (.cons ih .nil)) .nil .nil .nil
theorem aen(n:Nat)(ih:bG E D5 (Aa n)){res:List (TV E)}{v0 v1:Int}{v2:aqO}{v3:List (aqO)}{v4:List Node}{v5:Int}{v6:aqO}{v7:List (aqO)}{v8:List Node}(h:MF n (Gr E Tryz.f9 res) v0 v1 v2 v3 v4 v5 v6 v7 v8=some res):Ev E Tryz.f9 res 0 (II v0 v1 v2 v3 v4 v5 v6 v7 v8):=Ev.step (aem n ih) mix ((asi n _ v0 v1 v2 v3 v4 v5 v6 v7 v8).trans h)
theorem aiI(n:Nat)(ih:bG E D5 (Aa n))(h:∀(x0:Node) (x1:Node),(Oo (n+1)) x0 x1=true->YM n (Gr E Tryz.f9 [⟨.bool,(same (n+1)) x0 x1⟩]) x0 x1=some [⟨.bool,(same (n+1)) x0 x1⟩]):bG E D5 (Aa (n+1)):=Iu (aem n ih) mix aiF aiG aiH (fun x0 x1 hk=>(avl n _ x0 x1).trans (h x0 x1 hk))
theorem alk(n:Nat)(ih:bG E D5 (Aa n))(x y:Node)(ha:x.kids.length<=1000000)(hab:x.kids.length=y.kids.length)(hda:∀z∈x.kids,dp n z=true)(hdb:∀z∈y.kids,dp n z=true):∀(m i:Nat),x.kids.length-i=m->i<=x.kids.length ->
  Ev E Tryz.f9 [⟨.bool,Ms (same n) (x.kids.drop i) (y.kids.drop i)⟩] 0 (II i x.kind x.text x.keys x.kids y.kind y.text y.keys y.kids):=by
 intro m
 induction m with
 | zero =>intro i h1 h2;refine aen n ih ?_;simp only[MF,Iy (show x.kids.length<=i by omega),cond_false,aa9 (show x.kids.length<=i by omega),aa9 (show y.kids.length<=i by omega)];rfl
 | succ m ih2 =>
  intro i h1 h2;have hi:i<x.kids.length:=by omega
  have hj:i<y.kids.length:=by omega
  have hok:Oo n x.kids[i] y.kids[i]=true:=by simp only[Oo,hda _ (aee hi),hdb _ (aee hj),adM]
  refine aen n ih ?_;simp only[MF,zl hi,zl hj,d0,gd x.kids _ i hi,gd y.kids _ i hj,adM,cond_true,gB,hok];rw[<- abl hi,<- abl hj,aV (by omega) (by omega)];simp only[Ms];cases same n x.kids[i] y.kids[i]with
  | false=>rfl
  | true =>simp only[adr,cond_false,aeu];exact gG (ih2 (i+1) (by omega) (by omega))
theorem asl(n:Nat):bG E D5 (Aa n):=by
 induction n with
 | zero=>exact axP asj fun x y=>rfl
 | succ n ih =>
  refine aiI n ih fun a b hk=>?_
  simp only[Oo,abj]at hk;obtain⟨ha,ha2⟩:=KL.1 hk.1;obtain⟨hb,hb2⟩:=KL.1 hk.2;have hl:nL a.keys=true:=sW.2 ha.1;simp only[YM,hl,ad5,cond_true,same,equal];by_cases h1:a.kind=b.kind
  ·rw[nK h1,iU h1];cases a.text==b.text with
   | false=>rfl
   | true =>
    cases a.keys==b.keys with
    | false=>rfl
    | true =>
     simp only[adr,cond_false,aeu];by_cases hlen:a.kids.length=b.kids.length
     ·rw[nK (by omega),cond_false];have:=gG (alk n ih a b ha.2 hlen ha2 hb2 a.kids.length 0 (by omega) (by omega));rw[aed,aed]at this;exact this
     ·rw[kr (by omega),cond_true,ad4 hlen]
  ·rw[kr h1,eT h1];rfl
def aQ:Nat->Node->Node
 | 0,x=>x
 | n+1,x=>bif x.kind==3 then⟨x.kind,x.text,Pl.bA x.keys,(Pl.bA x.keys).map fun k=>aQ n (aJ x k)⟩else⟨x.kind,x.text,[],x.kids.map (aQ n)⟩
noncomputable def kN(n:Nat):jC E:=EO (E:=E) .ah .ah (wg 10000 n) (aQ n)
def qW:FuncId:=14
noncomputable def J3(n:Nat):aI E:=jX [(36,MC),(37,aaV),(14,kN n)] [] [] []
noncomputable def QL:Hint E:={ live:=[(0,[1,2,3,4,5]),(1,[1,2,3,8])],oC:=[(0,[(3,some 2,true,.str),(3,some 3,true,.ah)]),(1,[(3,some 3,true,.ah)])] }
noncomputable def Cb(v0:List (aqO))(v1 v2:Int)(v3:aqO)(v4:List (aqO))(v5:List Node)(v6:Int)(v7:aqO)(v8:Int)(v9:aqO)(v10:List (aqO))(v11:List Node):au E:=au.mk 71 [(1,.ptr 0 0),(2,.ptr 1 0),(3,.ptr 2 0),(4,.d (.slice .str v0)),(5,.d (.int .i64 v1))] [(0,.box [.d (.int .i64 v2),.d (.str v3),.d (.slice .str v4),.d (.slice .ah v5)]),(1,.box [.d (.int .i64 v6),.d (.str v7),.d (.raw (.slice none 0 0)),.d (.raw (.slice none 0 0))]),(2,.box [.d (.int .i64 v8),.d (.str v9),.grow .str v10 3,.grow .ah v11 4]),(3,.tail true),(4,.tail true)] 5
noncomputable def Cc(v0 v1:Int)(v2:aqO)(v3:List (aqO))(v4:List Node)(v5:Int)(v6:aqO)(v7:Int)(v8:aqO)(v9:List Node):au E:=au.mk 71 [(1,.ptr 0 0),(2,.ptr 1 0),(3,.ptr 2 0),(8,.d (.int .i64 v0))] [(0,.box [.d (.int .i64 v1),.d (.str v2),.d (.slice .str v3),.d (.slice .ah v4)]),(1,.box [.d (.int .i64 v5),.d (.str v6),.d (.raw (.slice none 0 0)),.d (.raw (.slice none 0 0))]),(2,.box [.d (.int .i64 v7),.d (.str v8),.d (.raw (.slice none 0 0)),.grow .ah v9 3]),(3,.tail true)] 4
noncomputable def QM(_n:Nat)(G:Nat->au E->Option (List (TV E)))(x0:Node):Option (List (TV E)) :=
 bif(x0.kind==(3:Int))then(bif(nL x0.keys)then G 0 (Cb (Pl.bA x0.keys) 0 x0.kind x0.text x0.keys x0.kids 0 [] x0.kind x0.text [] [])else none)else G 1 (Cc 0 x0.kind x0.text x0.keys x0.kids 0 [] x0.kind x0.text [])
theorem apT(n:Nat)(G:Nat->au E->Option (List (TV E)))(x0:Node):jR (J3 n) QL G Tryz.f14 [⟨.ah,x0⟩]=QM n G x0:=by kernel_rfl
noncomputable def H6(n:Nat)(G:Nat->au E->Option (List (TV E)))(v0:List (aqO))(v1 v2:Int)(v3:aqO)(v4:List (aqO))(v5:List Node)(v6:Int)(v7:aqO)(v8:Int)(v9:aqO)(v10:List (aqO))(v11:List Node):Option (List (TV E)) :=
 bif(decide (v1<(v0.length:Int)))then(bif(decide ((0:Int)<=v1)&&decide (v1<(v0.length:Int)))then(bif((fun n _=>fit n) (⟨v2,v3,v4,v5⟩:Node) (List.getD v0 (Int.toNat v1) (dflt .str)))then(bif(decide ((0:Int)<=v1)&&decide (v1<(v0.length:Int)))then(bif(decide ((v10.length+([(List.getD v0 (Int.toNat v1) (dflt .str))]:List (aqO)).length)*16<=aB))then(bif((wg 10000 n) (⟨(aJ ⟨v2,v3,v4,v5⟩ (List.getD v0 (Int.toNat v1) (dflt .str))).kind,(aJ ⟨v2,v3,v4,v5⟩ (List.getD v0 (Int.toNat v1) (dflt .str))).text,(aJ ⟨v2,v3,v4,v5⟩ (List.getD v0 (Int.toNat v1) (dflt .str))).keys,(aJ ⟨v2,v3,v4,v5⟩ (List.getD v0 (Int.toNat v1) (dflt .str))).kids⟩:Node))then(bif(decide ((v11.length+([((aQ n) (⟨(aJ ⟨v2,v3,v4,v5⟩ (List.getD v0 (Int.toNat v1) (dflt .str))).kind,(aJ ⟨v2,v3,v4,v5⟩ (List.getD v0 (Int.toNat v1) (dflt .str))).text,(aJ ⟨v2,v3,v4,v5⟩ (List.getD v0 (Int.toNat v1) (dflt .str))).keys,(aJ ⟨v2,v3,v4,v5⟩ (List.getD v0 (Int.toNat v1) (dflt .str))).kids⟩:Node))]:List Node).length)*72<=aB))then G 0 (Cb v0 (ak (v1+(1:Int))) v2 v3 v4 v5 v6 v7 v8 v9 (v10++([(List.getD v0 (Int.toNat v1) (dflt .str))]:List (aqO))) (v11++([((aQ n) (⟨(aJ ⟨v2,v3,v4,v5⟩ (List.getD v0 (Int.toNat v1) (dflt .str))).kind,(aJ ⟨v2,v3,v4,v5⟩ (List.getD v0 (Int.toNat v1) (dflt .str))).text,(aJ ⟨v2,v3,v4,v5⟩ (List.getD v0 (Int.toNat v1) (dflt .str))).keys,(aJ ⟨v2,v3,v4,v5⟩ (List.getD v0 (Int.toNat v1) (dflt .str))).kids⟩:Node))]:List Node)))else none)else none)else none)else none)else none)else none)else some [⟨.ah,(⟨v8,v9,v10,v11⟩:Node)⟩]
theorem alm(n:Nat)(G:Nat->au E->Option (List (TV E)))(v0:List (aqO))(v1 v2:Int)(v3:aqO)(v4:List (aqO))(v5:List Node)(v6:Int)(v7:aqO)(v8:Int)(v9:aqO)(v10:List (aqO))(v11:List Node):uG (J3 n) QL G Tryz.f14 0 (Cb v0 v1 v2 v3 v4 v5 v6 v7 v8 v9 v10 v11)=H6 n G v0 v1 v2 v3 v4 v5 v6 v7 v8 v9 v10 v11:=by kernel_rfl
noncomputable def H7(n:Nat)(G:Nat->au E->Option (List (TV E)))(v0 v1:Int)(v2:aqO)(v3:List (aqO))(v4:List Node)(v5:Int)(v6:aqO)(v7:Int)(v8:aqO)(v9:List Node):Option (List (TV E)) :=
 bif(decide (v0<(v4.length:Int)))then(bif(decide ((0:Int)<=v0)&&decide (v0<(v4.length:Int)))then(bif((wg 10000 n) (⟨(List.getD v4 (Int.toNat v0) (dflt .ah)).kind,(List.getD v4 (Int.toNat v0) (dflt .ah)).text,(List.getD v4 (Int.toNat v0) (dflt .ah)).keys,(List.getD v4 (Int.toNat v0) (dflt .ah)).kids⟩:Node))then(bif(decide ((v9.length+([((aQ n) (⟨(List.getD v4 (Int.toNat v0) (dflt .ah)).kind,(List.getD v4 (Int.toNat v0) (dflt .ah)).text,(List.getD v4 (Int.toNat v0) (dflt .ah)).keys,(List.getD v4 (Int.toNat v0) (dflt .ah)).kids⟩:Node))]:List Node).length)*72<=aB))then G 1 (Cc (ak (v0+(1:Int))) v1 v2 v3 v4 v5 v6 v7 v8 (v9++([((aQ n) (⟨(List.getD v4 (Int.toNat v0) (dflt .ah)).kind,(List.getD v4 (Int.toNat v0) (dflt .ah)).text,(List.getD v4 (Int.toNat v0) (dflt .ah)).keys,(List.getD v4 (Int.toNat v0) (dflt .ah)).kids⟩:Node))]:List Node)))else none)else none)else none)else some [⟨.ah,(⟨v7,v8,[],v9⟩:Node)⟩]
theorem aln(n:Nat)(G:Nat->au E->Option (List (TV E)))(v0 v1:Int)(v2:aqO)(v3:List (aqO))(v4:List Node)(v5:Int)(v6:aqO)(v7:Int)(v8:aqO)(v9:List Node):uG (J3 n) QL G Tryz.f14 1 (Cc v0 v1 v2 v3 v4 v5 v6 v7 v8 v9)=H7 n G v0 v1 v2 v3 v4 v5 v6 v7 v8 v9:=by kernel_rfl
theorem aaX:Tryz.prog.funcs[14]? = some Tryz.f14:=by kernel_rfl
theorem aaY:(Tryz.f14.name == "runtime.NumGoroutine")=false:=by kernel_rfl
theorem aaZ:Tryz.f14.body.isNone=false:=by kernel_rfl
theorem alo:∃fn,Tryz.prog.funcs[14]? = some fn/\(fn.name == "runtime.NumGoroutine")=false/\fn.body.isNone=false:=⟨Tryz.f14,aaX,aaY,aaZ⟩
theorem Nf(n:Nat)(ih:bG E qW (kN n)):aK E (J3 n):=gq (.cons aaU (.cons amP (.cons ih .nil))) .nil .nil .nil
theorem Xv(n:Nat)(ih:bG E qW (kN n)){res:List (TV E)}{v0:List (aqO)}{v1 v2:Int}{v3:aqO}{v4:List (aqO)}{v5:List Node}{v6:Int}{v7:aqO}{v8:Int}{v9:aqO}{v10:List (aqO)}{v11:List Node}(h:H6 n (Gr E Tryz.f14 res) v0 v1 v2 v3 v4 v5 v6 v7 v8 v9 v10 v11=some res):Ev E Tryz.f14 res 0 (Cb v0 v1 v2 v3 v4 v5 v6 v7 v8 v9 v10 v11):=Ev.step (Nf n ih) mix ((alm n _ v0 v1 v2 v3 v4 v5 v6 v7 v8 v9 v10 v11).trans h)
theorem Xw(n:Nat)(ih:bG E qW (kN n)){res:List (TV E)}{v0 v1:Int}{v2:aqO}{v3:List (aqO)}{v4:List Node}{v5:Int}{v6:aqO}{v7:Int}{v8:aqO}{v9:List Node}(h:H7 n (Gr E Tryz.f14 res) v0 v1 v2 v3 v4 v5 v6 v7 v8 v9=some res):Ev E Tryz.f14 res 1 (Cc v0 v1 v2 v3 v4 v5 v6 v7 v8 v9):=Ev.step (Nf n ih) mix ((aln n _ v0 v1 v2 v3 v4 v5 v6 v7 v8 v9).trans h)
theorem acJ(n:Nat)(ih:bG E qW (kN n))(h:∀(x0:Node),(wg 10000 (n+1)) x0=true->QM n (Gr E Tryz.f14 [⟨.ah,(aQ (n+1)) x0⟩]) x0=some [⟨.ah,(aQ (n+1)) x0⟩]):bG E qW (kN (n+1)):=zK (Nf n ih) mix aaX aaY aaZ (fun x0 hk=>(apT n _ x0).trans (h x0 hk))
theorem apU(n:Nat)(ih:bG E qW (kN n))(x:Node)(hx:wg 10000 (n+1) x=true)(h3:x.kind=3)(ks:List (aqO))(hks:ks.length<=10000)(hm:∀k∈ks,k∈x.keys)(u0:Int)(u1:aqO)(v0:Int)(v1:aqO) :
  ∀(m i:Nat) (ok:List (aqO)) (ov:List Node),ks.length-i=m->i<=ks.length->ok.length=i->ov.length=i ->
   Ev E Tryz.f14 [⟨.ah,(⟨v0,v1,ok++ks.drop i,ov++(ks.drop i).map fun k=>aQ n (aJ x k)⟩:Node)⟩] 0 (Cb ks i x.kind x.text x.keys x.kids u0 u1 v0 v1 ok ov):=by
 have fx:=Oq hx (by decide);intro m
 induction m with
 | zero =>intro i ok ov h1 h2 h3 h4;refine Xv n ih ?_;simp only[H6,Iy (show ks.length<=i by omega),cond_false,aa9 (show ks.length<=i by omega),aeb,aib]
 | succ m ih2 =>
  intro i ok ov h1 h2 h3' h4;have hi:i<ks.length:=by omega
  have e1:decide ((ok.length+[ks[i]].length)*16<=aB)=true:=dT (by rw[mb,aa8];omega);have e2:∀v:Node,decide ((ov.length+[v].length)*72<=aB)=true:=fun v=>dT (by rw[mb,aa8];omega)
  have hw:wg 10000 n (aJ x ks[i])=true:=TM hx (TK hx h3 (hm _ (aee hi)));refine Xv n ih ?_;simp only[H6,zl hi,d0,gd ks _ i hi,adM,cond_true,gB,fx,e1,e2,hw];rw[<- abl hi,aV (by omega) (by omega)];have:=gG (ih2 (i+1) (ok++[ks[i]]) (ov++[aQ n (aJ x ks[i])]) (by omega) (by omega) (by simp[h3']) (by simp[h4]));rw[abt,abt]at this;exact this
theorem apV(n:Nat)(ih:bG E qW (kN n))(x:Node)(hx:wg 10000 (n+1) x=true)(u0:Int)(u1:aqO)(v0:Int)(v1:aqO) :
  ∀(m i:Nat) (ov:List Node),x.kids.length-i=m->i<=x.kids.length->ov.length=i ->
   Ev E Tryz.f14 [⟨.ah,(⟨v0,v1,[],ov++(x.kids.drop i).map (aQ n)⟩:Node)⟩] 1 (Cc i x.kind x.text x.keys x.kids u0 u1 v0 v1 ov):=by
 have hw:=fE.1 hx;intro m
 induction m with
 | zero =>intro i ov h1 h2 h3;refine Xw n ih ?_;simp only[H7,Iy (show x.kids.length<=i by omega),cond_false,aa9 (show x.kids.length<=i by omega),aeb,aib]
 | succ m ih2 =>
  intro i ov h1 h2 h3;have hi:i<x.kids.length:=by omega
  have e2:∀v:Node,decide ((ov.length+[v].length)*72<=aB)=true:=fun v=>dT (by rw[mb,aa8];omega)
  have hk:wg 10000 n x.kids[i]=true:=hw.2.2.2 _ (aee hi);refine Xw n ih ?_;simp only[H7,zl hi,d0,gd x.kids _ i hi,adM,cond_true,gB,e2,hk];rw[<- abl hi,aV (by omega) (by omega)];have:=gG (ih2 (i+1) (ov++[aQ n x.kids[i]]) (by omega) (by omega) (by simp[h3]));rw[abt]at this;exact this
theorem H8(n:Nat):bG E qW (kN n):=by
 induction n with
 | zero=>exact abV alo fun x=>rfl
 | succ n ih =>
  refine acJ n ih fun x hk=>?_
  have hw:=fE.1 hk;simp only[QM,aQ];by_cases h3:x.kind=3
  ·have hl:nL x.keys=true:=sW.2 (by omega);have hs:=Pl.tZ x.keys;rw[iU h3,cond_true,hl,cond_true,cond_true];have:=gG (apU n ih x hk h3 (Pl.bA x.keys) (by omega) (fun k hk=>Pl.jN.1 hk) 0 [] x.kind x.text _ 0 [] [] rfl (aaG _) rfl rfl);rw[aed,aei,aei]at this;exact this
  ·rw[eT h3,cond_false,cond_false];have:=gG (apV n ih x hk 0 [] x.kind x.text _ 0 [] rfl (aaG _) rfl);rw[aed,aei]at this;exact this
def uq(g:Node->Int->Int):List Node->Int->Int
 | [],l=>l
 | k::t,l=>bif decide (g k l<0)then -1 else uq g t (g k l)
def BJ(x:Node)(deep l:Int):Bool:=bif(bif(bif decide (l<0)then true else decide (12<deep))then true else decide (x.kind<0))then true else decide (3<x.kind)
def Gt(x:Node):Bool:=bif(bif(bif x.kind != 1 then decide ((0:Int)<(x.text.length:Int))else false)then true else(bif x.kind != 3 then decide ((0:Int)<(x.keys.length:Int))else false))then true else(bif decide (x.kind<2)then decide ((0:Int)<(x.kids.length:Int))else false)
def Gu(x:Node)(l:Int):Bool:=bif x.kind==3 then(bif(bif(x.keys.length:Int)!=(x.kids.length:Int)then true else decide (l<(x.kids.length:Int)))then true else((Pl.bA x.keys).length:Int)!=(x.keys.length:Int))else false
def leftV:Nat->Node->Int->Int->Int
 | 0,_,_,_=>-1
 | n+1,x,deep,left=>bif BJ x deep (left-1)then -1 else bif Gt x then -1 else bif Gu x (left-1)then -1 else uq (fun k l=>leftV n k (deep+1) l) x.kids (left-1)
theorem QN{g:Node->Int->Int}(hg:∀k l,0<=g k l->g k l+1<=l):∀(ks:List Node) (l:Int),0<=uq g ks l->uq g ks l+ks.length<=l/\∀k∈ks, ∃l',0<=g k l'/\l'<=l
 | [],l,_=>⟨by simp[uq],fun k hk=>by cases hk⟩
 | k::t,l,h=>by
  unfold uq at h ⊢;by_cases hk:g k l<0
  ·rw[dT hk,cond_true]at h;omega
  ·rw[dF hk,cond_false]at h ⊢;obtain⟨h1,h2⟩:=QN hg t (g k l) h;have h3:=hg k l (by omega);refine⟨by rw[List.length_cons];omega,fun y hy=>?_⟩;rcases List.mem_cons.1 hy with rfl | hy
   ·exact⟨l,by omega,amd _⟩
   ·obtain⟨l',h4,h5⟩:=h2 y hy;exact⟨l',h4,by omega⟩
theorem K6:∀(n:Nat) (x:Node) (d l:Int),0<=leftV n x d l->leftV n x d l+1<=l
 | 0,_,_,_,h=>by simp[leftV]at h
 | n+1,x,d,l,h=>by
  unfold leftV at h ⊢;cases h1:BJ x d (l-1)with
  | true=>rw[h1,cond_true]at h;omega
  | false =>
   cases h2:Gt x with
   | true=>rw[h1,h2,cond_false,cond_true]at h;omega
   | false =>
    cases h3:Gu x (l-1)with
    | true=>rw[h1,h2,h3,cond_false,cond_false,cond_true]at h;omega
    | false =>rw[h1,h2,h3,cond_false,cond_false,cond_false]at h;simp only[cond_false];have:=(QN (fun k l h=>K6 n k (d+1) l h) x.kids (l-1) h).1;omega
def Uw(n:Nat)(_:Node)(deep left:Int):Bool:=decide (1<=n)&&decide (n<=13)&&decide (deep+n=14)&&decide (-10<=left)&&decide (left<=100000)
theorem V5{n:Nat}{x:Node}{d l:Int}:Uw n x d l=true↔(((1<=n/\n<=13)/\d+n=14) /\ -10<=l)/\l<=100000:=by simp[Uw]
noncomputable def Fu(n:Nat):jC E:=fn3 (E:=E) .ah .int .int .int (Uw n) (leftV n)
def left_id:FuncId:=15
noncomputable def aiJ(n:Nat):aI E:=jX [(36,MC),(15,Fu n)] [] [] []
noncomputable def asn:Hint E:={ live:=[(0,[1,2,3,7])] }
noncomputable def OB(v0 v1 v2 v3:Int)(v4:aqO)(v5:List (aqO))(v6:List Node):au E:=au.mk 105 [(1,.d (.int .i64 v0)),(2,.d (.int .i64 v1)),(3,.ptr 0 0),(7,.d (.int .i64 v2))] [(0,.box [.d (.int .i64 v3),.d (.str v4),.d (.slice .str v5),.d (.slice .ah v6)])] 1
noncomputable def aiK(_n:Nat)(G:Nat->au E->Option (List (TV E)))(x0:Node)(x1 x2:Int):Option (List (TV E)) :=
 bif(bif(bif(bif(decide ((ak (x2-(1:Int)))<(0:Int)))then true else(decide ((12:Int)<x1)))then true else(decide (x0.kind<(0:Int))))then true else(decide ((3:Int)<x0.kind)))then some [⟨.int,(-1:Int)⟩]else(bif(bif(bif(bif(x0.kind != (1:Int))then(decide ((0:Int)<(x0.text.length:Int)))else false)then true else(bif(x0.kind != (3:Int))then(decide ((0:Int)<(x0.keys.length:Int)))else false))then true else(bif(decide (x0.kind<(2:Int)))then(decide ((0:Int)<(x0.kids.length:Int)))else false))then some [⟨.int,(-1:Int)⟩]else(bif((nL x0.keys) || !((x0.kind==(3:Int))&&(!(bif((x0.keys.length:Int)!=(x0.kids.length:Int))then true else(decide ((ak (x2-(1:Int)))<(x0.kids.length:Int)))))))then(bif(bif(x0.kind==(3:Int))then(bif(bif((x0.keys.length:Int)!=(x0.kids.length:Int))then true else(decide ((ak (x2-(1:Int)))<(x0.kids.length:Int))))then true else(((Pl.bA x0.keys).length:Int)!=(x0.keys.length:Int)))else false)then some [⟨.int,(-1:Int)⟩]else G 0 (OB x1 (ak (x2-(1:Int))) 0 x0.kind x0.text x0.keys x0.kids))else none))
theorem aAY(n:Nat)(G:Nat->au E->Option (List (TV E)))(x0:Node)(x1 x2:Int):jR (aiJ n) asn G Tryz.f15 [⟨.ah,x0⟩,⟨.int,x1⟩,⟨.int,x2⟩]=aiK n G x0 x1 x2:=by kernel_rfl
noncomputable def V6(n:Nat)(G:Nat->au E->Option (List (TV E)))(v0 v1 v2 v3:Int)(v4:aqO)(v5:List (aqO))(v6:List Node):Option (List (TV E)) :=
 bif(decide (v2<(v6.length:Int)))then(bif(decide ((0:Int)<=v2)&&decide (v2<(v6.length:Int)))then(bif((Uw n) (⟨(List.getD v6 (Int.toNat v2) (dflt .ah)).kind,(List.getD v6 (Int.toNat v2) (dflt .ah)).text,(List.getD v6 (Int.toNat v2) (dflt .ah)).keys,(List.getD v6 (Int.toNat v2) (dflt .ah)).kids⟩:Node) (ak (v0+(1:Int))) v1)then(bif(decide (((leftV n) (⟨(List.getD v6 (Int.toNat v2) (dflt .ah)).kind,(List.getD v6 (Int.toNat v2) (dflt .ah)).text,(List.getD v6 (Int.toNat v2) (dflt .ah)).keys,(List.getD v6 (Int.toNat v2) (dflt .ah)).kids⟩:Node) (ak (v0+(1:Int))) v1)<(0:Int)))then some [⟨.int,(-1:Int)⟩]else G 0 (OB v0 ((leftV n) (⟨(List.getD v6 (Int.toNat v2) (dflt .ah)).kind,(List.getD v6 (Int.toNat v2) (dflt .ah)).text,(List.getD v6 (Int.toNat v2) (dflt .ah)).keys,(List.getD v6 (Int.toNat v2) (dflt .ah)).kids⟩:Node) (ak (v0+(1:Int))) v1) (ak (v2+(1:Int))) v3 v4 v5 v6))else none)else none)else some [⟨.int,v1⟩]
theorem ayI(n:Nat)(G:Nat->au E->Option (List (TV E)))(v0 v1 v2 v3:Int)(v4:aqO)(v5:List (aqO))(v6:List Node):uG (aiJ n) asn G Tryz.f15 0 (OB v0 v1 v2 v3 v4 v5 v6)=V6 n G v0 v1 v2 v3 v4 v5 v6:=by kernel_rfl
theorem aso:Tryz.prog.funcs[15]? = some Tryz.f15:=by kernel_rfl
theorem asq:(Tryz.f15.name == "runtime.NumGoroutine")=false:=by kernel_rfl
theorem asr:Tryz.f15.body.isNone=false:=by kernel_rfl
theorem ayJ:∃fn,Tryz.prog.funcs[15]? = some fn/\(fn.name == "runtime.NumGoroutine")=false/\fn.body.isNone=false:=⟨Tryz.f15,aso,asq,asr⟩
theorem amQ(n:Nat)(ih:bG E left_id (Fu n)):aK E (aiJ n):=gq (.cons aaU (.cons ih .nil)) .nil .nil .nil
theorem amR(n:Nat)(ih:bG E left_id (Fu n)){res:List (TV E)}{v0 v1 v2 v3:Int}{v4:aqO}{v5:List (aqO)}{v6:List Node}(h:V6 n (Gr E Tryz.f15 res) v0 v1 v2 v3 v4 v5 v6=some res):Ev E Tryz.f15 res 0 (OB v0 v1 v2 v3 v4 v5 v6):=Ev.step (amQ n ih) mix ((ayI n _ v0 v1 v2 v3 v4 v5 v6).trans h)
theorem apW(n:Nat)(ih:bG E left_id (Fu n))(h:∀(x0:Node) (x1:Int) (x2:Int),(Uw (n+1)) x0 x1 x2=true->aiK n (Gr E Tryz.f15 [⟨.int,(leftV (n+1)) x0 x1 x2⟩]) x0 x1 x2=some [⟨.int,(leftV (n+1)) x0 x1 x2⟩]):bG E left_id (Fu (n+1)):=Z0 (amQ n ih) mix aso asq asr (fun x0 x1 x2 hk=>(aAY n _ x0 x1 x2).trans (h x0 x1 x2 hk))
theorem asu(n:Nat)(ih:bG E left_id (Fu n))(x:Node)(d:Int)(hn1:1<=n)(hn2:n<=12)(hd:d+1+n=14):∀(m i:Nat) (l:Int),x.kids.length-i=m->i<=x.kids.length->0<=l->l+i<=100000 ->
  Ev E Tryz.f15 [⟨.int,uq (fun k l=>leftV n k (d+1) l) (x.kids.drop i) l⟩] 0 (OB d l i x.kind x.text x.keys x.kids):=by
 intro m
 induction m with
 | zero =>intro i l h1 h2 h3 h4;refine amR n ih ?_;simp only[V6,Iy (show x.kids.length<=i by omega),cond_false,aa9 (show x.kids.length<=i by omega)];rfl
 | succ m ih2 =>
  intro i l h1 h2 h3 h4;have hi:i<x.kids.length:=by omega
  have e1:ak (d+1)=d+1:=aV (by omega) (by omega);have e2:Uw n x.kids[i] (d+1) l=true:=V5.2 ⟨⟨⟨⟨hn1,by omega⟩,by omega⟩,by omega⟩,by omega⟩;have hle:=K6 n x.kids[i] (d+1) l;refine amR n ih ?_;simp only[V6,zl hi,d0,gd x.kids _ i hi,adM,cond_true,gB,e1,e2];rw[<- abl hi];simp only[uq];by_cases hk:leftV n x.kids[i] (d+1) l<0
  ·rw[dT hk];rfl
  ·rw[dF hk,cond_false,cond_false,aV (by omega) (by omega)];exact gG (ih2 (i+1) _ (by omega) (by omega) (by omega) (by have:=hle (by omega);omega))
theorem amS(n:Nat):bG E left_id (Fu n):=by
 induction n with
 | zero=>exact axQ ayJ fun x y z=>by simp[Uw]
 | succ n ih =>
  refine apW n ih fun x d l hk=>?_
  have hk:=V5.1 hk;have e1:ak (l-1)=l-1:=aV (by omega) (by omega);simp only[aiK,e1,leftV];change (bif BJ x d (l-1)then _ else bif Gt x then _ else _)=_;cases h1:BJ x d (l-1)with
  | true=>rfl
  | false =>
   cases h2:Gt x with
   | true=>rfl
   | false =>
    simp only[cond_false];have hA:¬ l-1<0/\¬ 12<d:=by
     unfold BJ at h1;by_cases a1:l-1<0
     ·rw[dT a1]at h1;cases h1
     ·by_cases a2:12<d
      ·rw[dF a1,dT a2]at h1;cases h1
      ·exact⟨a1,a2⟩
    have hcond:(nL x.keys || !(x.kind==3 && !(bif(x.keys.length:Int)!=(x.kids.length:Int)then true else decide (l-1<(x.kids.length:Int)))))=true:=by
     by_cases a1:(x.keys.length:Int)=x.kids.length
     ·by_cases a2:l-1<(x.kids.length:Int)
      ·rw[nK a1,dT a2];simp
      ·rw[sW.2 (by omega)];rfl
     ·rw[kr a1];simp
    rw[hcond,cond_true];change (bif Gu x (l-1)then _ else _)=_;cases h3:Gu x (l-1)with
    | true=>rfl
    | false =>simp only[cond_false];have:=gG (asu n ih x d (by omega) (by omega) (by omega) x.kids.length 0 (l-1) (by omega) (by omega) (by omega) (by omega));rw[aed]at this;exact this
def qL:Nat->Node->Bool
 | 0,_=>false
 | n+1,x=>decide (x.text.length<=200)&&(x.keys.all (fun k=>decide (k.length<=200))&&x.kids.all (qL n))
noncomputable def yS(n:Nat):jC E:=EO (E:=E) .ah .bool (dp n) (qL n)
def Ab:FuncId:=16
noncomputable def V7(n:Nat):aI E:=jX [(16,yS n)] [] [] []
noncomputable def acK:Hint E:={ live:=[(0,[1,3]),(1,[1,4])] }
noncomputable def K7(v0 v1:Int)(v2:aqO)(v3:List (aqO))(v4:List Node):au E:=au.mk 37 [(1,.ptr 0 0),(3,.d (.int .i64 v0))] [(0,.box [.d (.int .i64 v1),.d (.str v2),.d (.slice .str v3),.d (.slice .ah v4)])] 1
noncomputable def K8(v0 v1:Int)(v2:aqO)(v3:List (aqO))(v4:List Node):au E:=au.mk 37 [(1,.ptr 0 0),(4,.d (.int .i64 v0))] [(0,.box [.d (.int .i64 v1),.d (.str v2),.d (.slice .str v3),.d (.slice .ah v4)])] 1
noncomputable def acL(_n:Nat)(G:Nat->au E->Option (List (TV E)))(x0:Node):Option (List (TV E)) :=
 bif(decide ((200:Int)<(x0.text.length:Int)))then some [⟨.bool,false⟩]else G 0 (K7 0 x0.kind x0.text x0.keys x0.kids)
theorem ayK(n:Nat)(G:Nat->au E->Option (List (TV E)))(x0:Node):jR (V7 n) acK G Tryz.f16 [⟨.ah,x0⟩]=acL n G x0:=by kernel_rfl
noncomputable def QO(_n:Nat)(G:Nat->au E->Option (List (TV E)))(v0 v1:Int)(v2:aqO)(v3:List (aqO))(v4:List Node):Option (List (TV E)) :=
 bif(decide (v0<(v3.length:Int)))then(bif(decide ((0:Int)<=v0)&&decide (v0<(v3.length:Int)))then(bif(decide ((200:Int)<((List.getD v3 (Int.toNat v0) (dflt .str)).length:Int)))then some [⟨.bool,false⟩]else G 0 (K7 (ak (v0+(1:Int))) v1 v2 v3 v4))else none)else G 1 (K8 0 v1 v2 v3 v4)
theorem avm(n:Nat)(G:Nat->au E->Option (List (TV E)))(v0 v1:Int)(v2:aqO)(v3:List (aqO))(v4:List Node):uG (V7 n) acK G Tryz.f16 0 (K7 v0 v1 v2 v3 v4)=QO n G v0 v1 v2 v3 v4:=by kernel_rfl
noncomputable def QS(n:Nat)(G:Nat->au E->Option (List (TV E)))(v0 v1:Int)(v2:aqO)(v3:List (aqO))(v4:List Node):Option (List (TV E)) :=
 bif(decide (v0<(v4.length:Int)))then(bif(decide ((0:Int)<=v0)&&decide (v0<(v4.length:Int)))then(bif((dp n) (⟨(List.getD v4 (Int.toNat v0) (dflt .ah)).kind,(List.getD v4 (Int.toNat v0) (dflt .ah)).text,(List.getD v4 (Int.toNat v0) (dflt .ah)).keys,(List.getD v4 (Int.toNat v0) (dflt .ah)).kids⟩:Node))then(bif(!((qL n) (⟨(List.getD v4 (Int.toNat v0) (dflt .ah)).kind,(List.getD v4 (Int.toNat v0) (dflt .ah)).text,(List.getD v4 (Int.toNat v0) (dflt .ah)).keys,(List.getD v4 (Int.toNat v0) (dflt .ah)).kids⟩:Node)))then some [⟨.bool,false⟩]else G 1 (K8 (ak (v0+(1:Int))) v1 v2 v3 v4))else none)else none)else some [⟨.bool,true⟩]
theorem avn(n:Nat)(G:Nat->au E->Option (List (TV E)))(v0 v1:Int)(v2:aqO)(v3:List (aqO))(v4:List Node):uG (V7 n) acK G Tryz.f16 1 (K8 v0 v1 v2 v3 v4)=QS n G v0 v1 v2 v3 v4:=by kernel_rfl
theorem amT:Tryz.prog.funcs[16]? = some Tryz.f16:=by kernel_rfl
theorem amU:(Tryz.f16.name == "runtime.NumGoroutine")=false:=by kernel_rfl
theorem amV:Tryz.f16.body.isNone=false:=by kernel_rfl
theorem avo:∃fn,Tryz.prog.funcs[16]? = some fn/\(fn.name == "runtime.NumGoroutine")=false/\fn.body.isNone=false:=⟨Tryz.f16,amT,amU,amV⟩
theorem YN(n:Nat)(ih:bG E Ab (yS n)):aK E (V7 n):=gq (.cons ih .nil) .nil .nil .nil
theorem aiL(n:Nat)(ih:bG E Ab (yS n)){res:List (TV E)}{v0 v1:Int}{v2:aqO}{v3:List (aqO)}{v4:List Node}(h:QO n (Gr E Tryz.f16 res) v0 v1 v2 v3 v4=some res):Ev E Tryz.f16 res 0 (K7 v0 v1 v2 v3 v4):=Ev.step (YN n ih) mix ((avm n _ v0 v1 v2 v3 v4).trans h)
theorem aiM(n:Nat)(ih:bG E Ab (yS n)){res:List (TV E)}{v0 v1:Int}{v2:aqO}{v3:List (aqO)}{v4:List Node}(h:QS n (Gr E Tryz.f16 res) v0 v1 v2 v3 v4=some res):Ev E Tryz.f16 res 1 (K8 v0 v1 v2 v3 v4):=Ev.step (YN n ih) mix ((avn n _ v0 v1 v2 v3 v4).trans h)
theorem alp(n:Nat)(ih:bG E Ab (yS n))(h:∀(x0:Node),(dp (n+1)) x0=true->acL n (Gr E Tryz.f16 [⟨.bool,(qL (n+1)) x0⟩]) x0=some [⟨.bool,(qL (n+1)) x0⟩]):bG E Ab (yS (n+1)):=zK (YN n ih) mix amT amU amV (fun x0 hk=>(ayK n _ x0).trans (h x0 hk))
theorem aAZ{n:Nat}(h:n<=200):decide ((200:Int)<(n:Int))=false:=dF (by omega)
theorem awG{n:Nat}(h:¬ n<=200):decide ((200:Int)<(n:Int))=true:=dT (by omega)
theorem ayL(n:Nat)(ih:bG E Ab (yS n))(x:Node)(hl:x.kids.length<=1000000)(hd:∀y∈x.kids,dp n y=true):∀(m i:Nat),x.kids.length-i=m->i<=x.kids.length ->
  Ev E Tryz.f16 [⟨.bool,(x.kids.drop i).all (qL n)⟩] 1 (K8 i x.kind x.text x.keys x.kids):=by
 intro m
 induction m with
 | zero =>intro i h1 h2;refine aiM n ih ?_;simp only[QS,Iy (show x.kids.length<=i by omega),cond_false,aa9 (show x.kids.length<=i by omega)];rfl
 | succ m ih2 =>
  intro i h1 h2;have hi:i<x.kids.length:=by omega
  refine aiM n ih ?_;simp only[QS,zl hi,d0,gd x.kids _ i hi,adM,cond_true,gB,hd _ (aee hi)];rw[<- abl hi,aV (by omega) (by omega),aeB];cases qL n x.kids[i]with
  | false=>rfl
  | true =>simp only[adr,cond_false,aeu];exact gG (ih2 (i+1) (by omega) (by omega))
theorem ayM(n:Nat)(ih:bG E Ab (yS n))(x:Node)(hk:x.keys.length<=1000000)(hl:x.kids.length<=1000000)(hd:∀y∈x.kids,dp n y=true):∀(m i:Nat),x.keys.length-i=m->i<=x.keys.length ->
  Ev E Tryz.f16 [⟨.bool,(x.keys.drop i).all (fun k=>decide (k.length<=200))&&x.kids.all (qL n)⟩] 0 (K7 i x.kind x.text x.keys x.kids):=by
 intro m
 induction m with
 | zero =>intro i h1 h2;refine aiL n ih ?_;simp only[QO,Iy (show x.keys.length<=i by omega),cond_false,aa9 (show x.keys.length<=i by omega)];have:=gG (ayL n ih x hl hd x.kids.length 0 (by omega) (by omega));rw[aed]at this;exact this
 | succ m ih2 =>
  intro i h1 h2;have hi:i<x.keys.length:=by omega
  refine aiL n ih ?_;simp only[QO,zl hi,d0,gd x.keys _ i hi,adM,cond_true];rw[<- abl hi,aV (by omega) (by omega),aeB];by_cases h:x.keys[i].length<=200
  ·rw[aAZ h,cond_false,dT h,aeu];exact gG (ih2 (i+1) (by omega) (by omega))
  ·rw[awG h,cond_true,dF h];rfl
theorem avp(n:Nat):bG E Ab (yS n):=by
 induction n with
 | zero=>exact abV avo fun x=>rfl
 | succ n ih =>
  refine alp n ih fun x hk=>?_
  have hk:=KL.1 hk;simp only[acL,qL];by_cases h:x.text.length<=200
  ·rw[aAZ h,cond_false,dT h,aeu];have:=gG (ayM n ih x hk.1.1 hk.1.2 hk.2 x.keys.length 0 (by omega) (by omega));rw[aed]at this;exact this
  ·rw[awG h,cond_true,dF h];rfl
theorem aiN{B:Nat}(hB:B<=1000000):∀(n:Nat) (x:Node) (d l:Int),d+(n+1:Nat)=14->l<=(B:Int)+1->0<=leftV (n+1) x d l->dp n x=true/\(qL n x=true->wf B n x=true)
 | n,x,d,l,hd,hl,h=>by
  unfold leftV at h;cases h1:BJ x d (l-1)with
  | true=>rw[h1,cond_true]at h;omega
  | false =>
   cases h2:Gt x with
   | true=>rw[h1,h2,cond_false,cond_true]at h;omega
   | false =>
    cases h3:Gu x (l-1)with
    | true=>rw[h1,h2,h3,cond_false,cond_false,cond_true]at h;omega
    | false =>
     rw[h1,h2,h3,cond_false,cond_false,cond_false]at h;have hA:¬ 12<d:=by intro a2;unfold BJ at h1;rw[dT a2]at h1;cases hx:decide (l-1<0)<;>rw[hx]at h1<;>cases h1
     obtain⟨m,rfl⟩:∃m,n=m+1:=⟨n-1,by omega⟩
     obtain⟨q1,q2⟩:=QN (fun k l h=>K6 (m+1) k (d+1) l h) x.kids (l-1) h;have hrec:∀y∈x.kids,dp m y=true/\(qL m y=true->wf B m y=true):=fun y hy=>by obtain⟨l',h4,h5⟩:=q2 y hy;exact aiN hB m y (d+1) l' (by omega) (by omega) h4
     have hkeys:(x.kind=3->x.keys.length=x.kids.length)/\(x.kind≠3->x.keys.length=0):=by
      constructor
      ·intro e;unfold Gu at h3;rw[iU e,cond_true]at h3;by_cases a1:(x.keys.length:Int)=x.kids.length
       ·omega
       ·rw[kr a1]at h3;cases h3
      ·intro e;unfold Gt at h2;rw[kr e,cond_true]at h2;by_cases a1:(0:Int)<(x.keys.length:Int)
       ·rw[dT a1]at h2;cases hx:(bif x.kind != 1 then decide ((0:Int)<(x.text.length:Int))else false)<;>rw[hx]at h2<;>cases h2
       ·omega
     have hk:x.keys.length<=B:=by
      by_cases e:x.kind=3
      ·have:=hkeys.1 e;omega
      ·have:=hkeys.2 e;omega
     refine⟨KL.2 ⟨⟨by omega,by omega⟩,fun y hy=>(hrec y hy).1⟩,fun hs=>?_⟩;simp only[qL,abj,adB,ahn]at hs;exact TI.2 ⟨hk,by omega,hkeys.1,hs.1,hs.2.1,fun y hy=>(hrec y hy).2 (hs.2.2 y hy)⟩
 termination_by n=>n
def aiO(_:Node)(m:Int):Bool:=decide (0<=m)&&decide (m<=300)
def IJ(x:Node)(m:Int):Bool:=bif decide (0<=leftV 13 x 1 m)then qL 12 x else false
noncomputable def acM:jC E:=Ir (E:=E) .ah .int .bool aiO IJ
def aiP:FuncId:=5
noncomputable def amW:aI E:=jX [(15,Fu 13),(16,yS 12)] [] [] []
noncomputable def ayN:Hint E:={}
noncomputable def acN(_G:Nat->au E->Option (List (TV E)))(x0:Node)(x1:Int):Option (List (TV E)) :=
 bif((Uw 13) (⟨x0.kind,x0.text,x0.keys,x0.kids⟩:Node) (1:Int) x1)then(bif(((dp 12) (⟨x0.kind,x0.text,x0.keys,x0.kids⟩:Node)) || !(decide ((0:Int)<=((leftV 13) (⟨x0.kind,x0.text,x0.keys,x0.kids⟩:Node) (1:Int) x1))))then some [⟨.bool,(bif(decide ((0:Int)<=((leftV 13) (⟨x0.kind,x0.text,x0.keys,x0.kids⟩:Node) (1:Int) x1)))then((qL 12) (⟨x0.kind,x0.text,x0.keys,x0.kids⟩:Node))else false)⟩]else none)else none
theorem ayO(G:Nat->au E->Option (List (TV E)))(x0:Node)(x1:Int):jR amW ayN G Tryz.f5 [⟨.ah,x0⟩,⟨.int,x1⟩]=acN G x0 x1:=by kernel_rfl
theorem ayP:Tryz.prog.funcs[5]? = some Tryz.f5:=by kernel_rfl
theorem ayQ:(Tryz.f5.name == "runtime.NumGoroutine")=false:=by kernel_rfl
theorem ayR:Tryz.f5.body.isNone=false:=by kernel_rfl
theorem avq:aK E amW:=gq (.cons (amS 13) (.cons (avp 12) .nil)) .nil .nil .nil
theorem alq(h:∀(x0:Node) (x1:Int),aiO x0 x1=true->acN (Gr E Tryz.f5 [⟨.bool,IJ x0 x1⟩]) x0 x1=some [⟨.bool,IJ x0 x1⟩]):bG E aiP acM:=Iu avq mix ayP ayQ ayR (fun x0 x1 hk=>(ayO _ x0 x1).trans (h x0 x1 hk))
theorem avr:bG E aiP acM:=alq fun x m hk=>by
 have hm:0<=m/\m<=300:=by simpa[aiO]using hk
 have e1:Uw 13 x 1 m=true:=V5.2 ⟨⟨⟨by decide,by decide⟩,by omega⟩,by omega⟩;have e2:(dp 12 x || !(decide (0<=leftV 13 x 1 m)))=true:=by
  by_cases h:0<=leftV 13 x 1 m
  ·rw[(aiN (B:=300) (by decide) 12 x 1 m (by decide) (by omega) h).1];rfl
  ·rw[dF h];simp
 simp only[acN,gB,e1,e2,cond_true];rfl
def nZ(k:aqO)(v:Node):List (aqO)->List Node->List Node
 | a::t,x::w=>(bif a==k then v else x)::nZ k v t w
 | _,_=>[]
theorem Ux(k:aqO)(v:Node):∀(ks:List (aqO)) (vs:List Node),ks.length=vs.length->(nZ k v ks vs).length=ks.length
 | [],[],_=>rfl
 | a::t,x::w,h=>by simp only[nZ,List.length_cons];rw[Ux k v t w (by simpa using h)]
 | [],_::_,h=>by simp at h
 | _::_,[],h=>by simp at h
theorem aeo(k:aqO)(v:Node):∀(ks:List (aqO)) (vs:List Node) (y:Node),y∈nZ k v ks vs->y=v\/y∈vs
 | [],vs,y,h=>by simp[nZ]at h
 | _::_,[],y,h=>by simp[nZ]at h
 | a::t,x::w,y,h=>by
  simp only[nZ,List.mem_cons]at h;rcases h with h | h
  ·cases hb:a==k with
   | true=>rw[hb]at h;exact .inl h
   | false=>rw[hb]at h;exact .inr (by rw[h];exact abd)
  ·rcases aeo k v t w y h with h | h
   ·exact .inl h
   ·exact .inr (abb _ h)
def BK(th:Bool)(k:aqO):List (aqO):=bif th then[]else[k]
def newV(th:Bool)(v:Node):List Node:=bif th then[]else[v]
def aY(x:Node)(k:aqO)(v:Node):Node:=bif(bif x.kind != 0 then x.kind != 3 else false)then x else⟨3,[],x.keys++BK (eF x.keys k) k,nZ k v x.keys x.kids++newV (eF x.keys k) v⟩
def gY(x:Node)(_:aqO)(_:Node):Bool:=decide (x.keys.length<=100000)&&decide (x.keys.length=x.kids.length)
theorem aiQ{x:Node}{k:aqO}{v:Node}:gY x k v=true↔x.keys.length<=100000/\x.keys.length=x.kids.length:=by simp[gY]
noncomputable def acO:jC E:=fn3 (E:=E) .ah .str .ah .ah gY aY
def aiR:FuncId:=24
noncomputable def acP:aI E:=jX [] [] [] []
noncomputable def amX:Hint E:={ live:=[(0,[1,3,5,6,7,8,9])],oC:=[(0,[(7,some 2,true,.str),(7,some 3,true,.ah)])] }
noncomputable def Gv(v0:aqO)(v1:Bool)(v2 v3:Int)(v4:aqO)(v5:List (aqO))(v6:List Node)(v7:Int)(v8:aqO)(v9:List (aqO))(v10:List Node)(v11:Int)(v12:aqO)(v13:Int)(v14:aqO)(v15:List (aqO))(v16:List Node):au E:=au.mk 75 [(1,.d (.str v0)),(3,.ptr 0 0),(5,.ptr 1 0),(6,.ptr 2 0),(7,.ptr 3 0),(8,.d (.bool v1)),(9,.d (.int .i64 v2))] [(0,.box [.d (.int .i64 v3),.d (.str v4),.d (.slice .str v5),.d (.slice .ah v6)]),(1,.box [.d (.int .i64 v7),.d (.str v8),.d (.slice .str v9),.d (.slice .ah v10)]),(2,.box [.d (.int .i64 v11),.d (.str v12),.d (.raw (.slice none 0 0)),.d (.raw (.slice none 0 0))]),(3,.box [.d (.int .i64 v13),.d (.str v14),.grow .str v15 4,.grow .ah v16 5]),(4,.tail true),(5,.tail true)] 6
noncomputable def acQ(G:Nat->au E->Option (List (TV E)))(x0:Node)(x1:aqO)(x2:Node):Option (List (TV E)) :=
 bif(bif(x0.kind != (0:Int))then(x0.kind != (3:Int))else false)then some [⟨.ah,(⟨x0.kind,x0.text,x0.keys,x0.kids⟩:Node)⟩]else G 0 (Gv x1 false 0 x0.kind x0.text x0.keys x0.kids x2.kind x2.text x2.keys x2.kids 0 [] 3 [] [] [])
theorem ayS(G:Nat->au E->Option (List (TV E)))(x0:Node)(x1:aqO)(x2:Node):jR acP amX G Tryz.f24 [⟨.ah,x0⟩,⟨.str,x1⟩,⟨.ah,x2⟩]=acQ G x0 x1 x2:=by kernel_rfl
noncomputable def QT(G:Nat->au E->Option (List (TV E)))(v0:aqO)(v1:Bool)(v2 v3:Int)(v4:aqO)(v5:List (aqO))(v6:List Node)(v7:Int)(v8:aqO)(v9:List (aqO))(v10:List Node)(v11:Int)(v12:aqO)(v13:Int)(v14:aqO)(v15:List (aqO))(v16:List Node):Option (List (TV E)) :=
 bif(decide (v2<(v5.length:Int)))then(bif(decide ((0:Int)<=v2)&&decide (v2<(v5.length:Int)))then(bif(decide ((v15.length+([(List.getD v5 (Int.toNat v2) (dflt .str))]:List (aqO)).length)*16<=aB))then(bif(decide ((0:Int)<=v2)&&decide (v2<(v5.length:Int)))then(bif((List.getD v5 (Int.toNat v2) (dflt .str))==v0)then(bif(decide ((v16.length+([(⟨v7,v8,v9,v10⟩:Node)]:List Node).length)*72<=aB))then G 0 (Gv v0 true (ak (v2+(1:Int))) v3 v4 v5 v6 v7 v8 v9 v10 v11 v12 v13 v14 (v15++([(List.getD v5 (Int.toNat v2) (dflt .str))]:List (aqO))) (v16++([(⟨v7,v8,v9,v10⟩:Node)]:List Node)))else none)else(bif(decide ((0:Int)<=v2)&&decide (v2<(v6.length:Int)))then(bif(decide ((v16.length+([(⟨(List.getD v6 (Int.toNat v2) (dflt .ah)).kind,(List.getD v6 (Int.toNat v2) (dflt .ah)).text,(List.getD v6 (Int.toNat v2) (dflt .ah)).keys,(List.getD v6 (Int.toNat v2) (dflt .ah)).kids⟩:Node)]:List Node).length)*72<=aB))then G 0 (Gv v0 v1 (ak (v2+(1:Int))) v3 v4 v5 v6 v7 v8 v9 v10 v11 v12 v13 v14 (v15++([(List.getD v5 (Int.toNat v2) (dflt .str))]:List (aqO))) (v16++([(⟨(List.getD v6 (Int.toNat v2) (dflt .ah)).kind,(List.getD v6 (Int.toNat v2) (dflt .ah)).text,(List.getD v6 (Int.toNat v2) (dflt .ah)).keys,(List.getD v6 (Int.toNat v2) (dflt .ah)).kids⟩:Node)]:List Node)))else none)else none))else none)else none)else none)else(bif(!v1)then(bif(decide ((v15.length+([v0]:List (aqO)).length)*16<=aB))then(bif(decide ((v16.length+([(⟨v7,v8,v9,v10⟩:Node)]:List Node).length)*72<=aB))then some [⟨.ah,(⟨v13,v14,(v15++([v0]:List (aqO))),(v16++([(⟨v7,v8,v9,v10⟩:Node)]:List Node))⟩:Node)⟩]else none)else none)else some [⟨.ah,(⟨v13,v14,v15,v16⟩:Node)⟩])
theorem avt(G:Nat->au E->Option (List (TV E)))(v0:aqO)(v1:Bool)(v2 v3:Int)(v4:aqO)(v5:List (aqO))(v6:List Node)(v7:Int)(v8:aqO)(v9:List (aqO))(v10:List Node)(v11:Int)(v12:aqO)(v13:Int)(v14:aqO)(v15:List (aqO))(v16:List Node):uG acP amX G Tryz.f24 0 (Gv v0 v1 v2 v3 v4 v5 v6 v7 v8 v9 v10 v11 v12 v13 v14 v15 v16)=QT G v0 v1 v2 v3 v4 v5 v6 v7 v8 v9 v10 v11 v12 v13 v14 v15 v16:=by kernel_rfl
theorem ayT:Tryz.prog.funcs[24]? = some Tryz.f24:=by kernel_rfl
theorem ayU:(Tryz.f24.name == "runtime.NumGoroutine")=false:=by kernel_rfl
theorem ayV:Tryz.f24.body.isNone=false:=by kernel_rfl
theorem aiS:aK E acP:=gq .nil .nil .nil .nil
theorem aiT{res:List (TV E)}{v0:aqO}{v1:Bool}{v2 v3:Int}{v4:aqO}{v5:List (aqO)}{v6:List Node}{v7:Int}{v8:aqO}{v9:List (aqO)}{v10:List Node}{v11:Int}{v12:aqO}{v13:Int}{v14:aqO}{v15:List (aqO)}{v16:List Node}(h:QT (Gr E Tryz.f24 res) v0 v1 v2 v3 v4 v5 v6 v7 v8 v9 v10 v11 v12 v13 v14 v15 v16=some res):Ev E Tryz.f24 res 0 (Gv v0 v1 v2 v3 v4 v5 v6 v7 v8 v9 v10 v11 v12 v13 v14 v15 v16):=Ev.step aiS mix ((avt _ v0 v1 v2 v3 v4 v5 v6 v7 v8 v9 v10 v11 v12 v13 v14 v15 v16).trans h)
theorem alr(h:∀(x0:Node) (x1:aqO) (x2:Node),gY x0 x1 x2=true->acQ (Gr E Tryz.f24 [⟨.ah,aY x0 x1 x2⟩]) x0 x1 x2=some [⟨.ah,aY x0 x1 x2⟩]):bG E aiR acO:=Z0 aiS mix ayT ayU ayV (fun x0 x1 x2 hk=>(ayS _ x0 x1 x2).trans (h x0 x1 x2 hk))
theorem ayW(keys:List (aqO))(kids:List Node)(k:aqO)(v:Node)(hs:keys.length<=100000)(hl:keys.length=kids.length)(a0:Int)(a1:aqO)(u0:Int)(u1:aqO)(u2:Int)(u3:aqO):∀(m i:Nat) (th:Bool) (ok:List (aqO)) (ov:List Node),keys.length-i=m->i<=keys.length->ok.length=i->ov.length=i ->
  Ev E Tryz.f24 [⟨.ah,(⟨u2,u3,ok++(keys.drop i++BK (th||eF (keys.drop i) k) k),ov++(nZ k v (keys.drop i) (kids.drop i)++newV (th||eF (keys.drop i) k) v)⟩:Node)⟩] 0 (Gv k th i a0 a1 keys kids v.kind v.text v.keys v.kids u0 u1 u2 u3 ok ov):=by
 intro m
 induction m with
 | zero =>
  intro i th ok ov h1 h2 h3 h4;refine aiT ?_;simp only[QT,Iy (show keys.length<=i by omega),cond_false,aa9 (show keys.length<=i by omega)];cases th with
  | true=>simp[BK,newV,nZ]
  | false =>rw[aec,cond_true,dT (show(ok.length+[k].length)*16<=aB by rw[mb,aa8];omega),cond_true,gB,dT (show(ov.length+[v].length)*72<=aB by rw[mb,aa8];omega),cond_true];simp[BK,newV,nZ,eF]
 | succ m ih2 =>
  intro i th ok ov h1 h2 h3 h4;have hi:i<keys.length:=by omega
  have hj:i<kids.length:=by omega
  have e3:ak ((i:Int)+1)=((i+1:Nat):Int):=by rw[aV (by omega) (by omega)];omega
  refine aiT ?_;simp only[QT,zl hi,d0,gd keys _ i hi,e3,adM,cond_true,gB,zl hj,gd kids _ i hj];rw[<- abl hi];have e1:∀x:aqO,decide ((ok.length+[x].length)*16<=aB)=true:=fun x=>dT (by rw[mb,aa8];omega)
  have e2:∀x:Node,decide ((ov.length+[x].length)*72<=aB)=true:=fun x=>dT (by rw[mb,aa8];omega)
  simp only[e1,e2,cond_true];rw[<- abl hj];simp only[nZ,eF,al6];cases hb:keys[i]==k with
  | true =>simp only[cond_true];have:=gG (ih2 (i+1) true (ok++[keys[i]]) (ov++[v]) (by omega) (by omega) (by simp[h3]) (by simp[h4]));simp only[eF,ad5,ai5,abt,agI]at this ⊢;exact this
  | false =>simp only[cond_false];have:=gG (ih2 (i+1) th (ok++[keys[i]]) (ov++[kids[i]]) (by omega) (by omega) (by simp[h3]) (by simp[h4]));simp only[eF,ajH,abt,agI]at this ⊢;exact this
theorem avu:bG E aiR acO:=alr fun x k v hk=>by
 obtain⟨h1,h2⟩:=aiQ.1 hk;unfold aY;simp only[acQ,gB];cases hc:(bif x.kind != 0 then x.kind != 3 else false)with
 | true=>simp only[cond_true]
 | false =>simp only[cond_false];have:=gG (ayW x.keys x.kids k v h1 h2 x.kind x.text 0 [] 3 [] x.keys.length 0 false [] [] (by omega) (by omega) rfl rfl);rw[aed,aed,aei,aei,ajH]at this;exact this
theorem aCy(th:Bool)(k:aqO)(v:Node):(BK th k).length=(newV th v).length/\(BK th k).length<=1:=by cases th<;>exact⟨rfl,by simp[BK]⟩
theorem MG{x:Node}{k:aqO}{v:Node}(hk:x.kind=0\/x.kind=3)(h:x.keys.length=x.kids.length) :
  (aY x k v).kind=3/\(aY x k v).keys.length=(aY x k v).kids.length/\(aY x k v).keys.length<=x.keys.length+1/\∀y∈(aY x k v).kids,y=v\/y∈x.kids:=by
 have hc:(bif x.kind != 0 then x.kind != 3 else false)=false:=by rcases hk with e | e<;>rw[e]<;>rfl
 unfold aY;rw[hc];have hw:=Ux k v x.keys x.kids h;have hn:=aCy (eF x.keys k) k v;refine⟨rfl,?_,?_,fun y hy=>?_⟩
 ·simp only[cond_false,List.length_append,hw,hn.1]
 ·simp only[cond_false,List.length_append];omega
 ·simp only[cond_false,List.mem_append]at hy;rcases hy with hy | hy
  ·exact aeo k v _ _ y hy
  ·left;unfold newV at hy;cases hi:eF x.keys k with
   | true=>rw[hi]at hy;cases hy
   | false=>rw[hi]at hy;simpa using hy
def yA(x:Node):Bool:=decide (0<=leftV 13 x 1 2000)
noncomputable def YO:jC E:=EO (E:=E) .ah .bool (fun _=>true) yA
def aep:FuncId:=35
noncomputable def aiU:aI E:=jX [(15,Fu 13)] [] [] []
noncomputable def avv:Hint E:={}
noncomputable def YP(_G:Nat->au E->Option (List (TV E)))(x0:Node):Option (List (TV E)) :=
 bif((Uw 13) (⟨x0.kind,x0.text,x0.keys,x0.kids⟩:Node) (1:Int) (2000:Int))then some [⟨.bool,(decide ((0:Int)<=((leftV 13) (⟨x0.kind,x0.text,x0.keys,x0.kids⟩:Node) (1:Int) (2000:Int))))⟩]else none
theorem avw(G:Nat->au E->Option (List (TV E)))(x0:Node):jR aiU avv G Tryz.f35 [⟨.ah,x0⟩]=YP G x0:=by kernel_rfl
theorem avx:Tryz.prog.funcs[35]? = some Tryz.f35:=by kernel_rfl
theorem avy:(Tryz.f35.name == "runtime.NumGoroutine")=false:=by kernel_rfl
theorem avz:Tryz.f35.body.isNone=false:=by kernel_rfl
theorem asv:aK E aiU:=gq (.cons (amS 13) .nil) .nil .nil .nil
theorem aiV(h:∀(x0:Node),YP (Gr E Tryz.f35 [⟨.bool,yA x0⟩]) x0=some [⟨.bool,yA x0⟩]):bG E aep YO:=zK asv mix avx avy avz (fun x0 _=>(avw _ x0).trans (h x0))
theorem asw:bG E aep YO:=aiV fun x=>by have e1:Uw 13 x 1 2000=true:=V5.2 (by decide);simp only[YP,gB,e1,cond_true];rfl
section
theorem aCz:∀(n m:Nat) (b:budget) (x:Node) (d:Int),d+(n+1:Nat)=14->1<=d->dp (n+1) x=true -> -10<=b.left->b.left<=100000->(fC m b x d).isSome=true->(gv (fC m b x d)).2=decide (0<=leftV (n+1) x d b.left)/\((gv (fC m b x d)).2=true->(gv (fC m b x d)).1.left=leftV (n+1) x d b.left):=by
 intro n
 induction n with
 | zero =>
  intro m b x d hd h1 hx hb hb2
  match m with
  | 0=>intro h;cases h
  | m+1 =>
   have e:leftV (0+1) x d b.left = -1:=by
    unfold leftV;have:BJ x d (b.left-1)=true:=by unfold BJ;rw[dT (show 12<d by omega)];cases decide (b.left-1<0)<;>rfl
    rw[this,cond_true]
   refine part (t:=fB (fC m)) (s:=.e b x d) rfl (fun r=>r.2=decide (0<=leftV (0+1) x d b.left)/\(r.2=true->r.1.left=leftV (0+1) x d b.left)) (fun s=>s = .e b x d) rfl ?_;rintro s rfl;rw[e];simp only[eX,fB]
   (repeat' (first|intro _|apply And.intro))<;>grind
 | succ n ih =>
  intro m b x d hd h1 hx hb hb2
  match m with
  | 0=>intro h;cases h
  | m+1 =>
   have hx2:=KL.1 hx;have hL:leftV (n+1+1) x d b.left=bif BJ x d (b.left-1)then -1 else bif Gt x then -1 else bif Gu x (b.left-1)then -1 else uq (fun k l=>leftV (n+1) k (d+1) l) x.kids (b.left-1):=rfl
   generalize leftV (n+1+1) x d b.left=L at hL ⊢;refine part (t:=fB (fC m)) (s:=.e b x d) rfl (fun r=>r.2=decide (0<=L)/\(r.2=true->r.1.left=L)) (fun | .e y0 y1 y2=>y0=b/\y1=x/\y2=d | .h0 v0 v1 v2 v3 v4=>v0=d/\v1=x.kids/\v2=(x.kids.length:Int)/\0<=v3/\v3<=v2/\0<=v4/\v4<=100000/\uq (fun k l=>leftV (n+1) k (d+1) l) (x.kids.drop v3.toNat) v4=L) ⟨rfl,rfl,rfl⟩ ?_;have w1:=@cZ (b.left-1);have w2:=@cZ ((x.keys.length:Int)+(x.kids.length:Int));rintro(⟨y0,y1,y2⟩ | ⟨v0,v1,v2,v3,v4⟩) hs
   ·obtain⟨rfl,rfl,rfl⟩:=hs;simp only[eX,fB];rw[w1 (by omega),w2 (by omega)];have hk:y1.kids.length=0->y1.kids=[]:=fun h=>List.length_eq_zero_iff.1 h
    have ht:y1.text≠[]->0<y1.text.length:=fun h=>List.length_pos_iff.2 h
    have hn:∀l,uq (fun k l=>leftV (n+1) k (y2+1) l) [] l=l:=fun _=>rfl
    (repeat' (first|intro _|apply And.intro))<;>grind[BJ,Gt,Gu,aed]
   ·obtain⟨rfl,rfl,rfl,h2,h3,h4,h5,h6⟩:=hs;simp only[eX,fB];have e1:=@cZ (v3+1);have e2:=@cZ (v0+1);by_cases hi:v3<(x.kids.length:Int)
    ·rw[gQ x.kids Df.d h2 hi,uq]at h6;have hy:dp (n+1) (x.kids.getD v3.toNat Df.d)=true:=by
      rw[show x.kids.getD v3.toNat Df.d=x.kids[v3.toNat]'(by omega) by simp[List.getD,show v3.toNat<x.kids.length by omega]];exact hx2.2 _ (aee _)
     generalize x.kids.getD v3.toNat Df.d=y at h6 hy ⊢;have h7:=ih m ⟨v4⟩ y (v0+1) (by omega) (by omega) hy (by show -10<=v4;omega) (by show v4<=100000;omega);have h8:=K6 (n+1) y (v0+1) v4;rw[e2 (by omega),e1 (by omega)];generalize fC m ⟨v4⟩ y (v0+1)=o at h7 ⊢;generalize leftV (n+1) y (v0+1) v4=q at h6 h7 h8 ⊢;generalize hK:uq (fun k l=>leftV (n+1) k (v0+1) l) (x.kids.drop (v3+1).toNat) q=K at h6;refine⟨fun _ _ _ ho=>?_,fun h=>absurd hi h⟩;obtain⟨h9,h10⟩:=h7 ho;clear ih h7 hL w1 w2 e1 e2 hx hx2 hy;by_cases hq:0<=q
     ·rw[decide_eq_true hq]at h9;rw[decide_eq_false (show ¬ q<0 by omega),cond_false]at h6;have h11:=h10 h9;have h12:q+1<=v4:=h8 hq
      (repeat' (first|intro _|apply And.intro))<;>grind
     ·rw[decide_eq_false hq]at h9;rw[decide_eq_true (show q<0 by omega),cond_true]at h6
      (repeat' (first|intro _|apply And.intro))<;>grind
    ·rw[jw x.kids (by omega),uq]at h6
     (repeat' (first|intro _|apply And.intro))<;>grind
theorem aiW(x:Node)(h:dp 13 x=true):(zQ x).isSome=true->gv (zQ x)=yA x:=by refine iA rfl ?_;simp only[eX,E5];intro hi;exact(aCz 12 GY ⟨2000⟩ x 1 (by decide) (by decide) h (by decide) (by decide) hi).1
end
section
def Bl(b:Bool):aqO:=bif b then[116,114,117,101]else[102,97,108,115,101]
def fD(b:Bool):Node:=⟨1,Bl b,[],[]⟩
def cK:aqO:=[99,111,110,100,105,116,105,111,110]
def rK:aqO:=[114,101,113,117,105,114,101,100]
def sK:aqO:=[114,101,115,116,97,114,116]
def jU:aqO:=[116,114,117,101]
def ow:aqO:=[102,97,108,115,101]
def lZ:aqO:=[115,101,114,118,105,99,101,95,115,116,97,114,116,101,100]
def Uy:aqO:=[115,101,114,118,105,99,101,95,104,101,97,108,116,104,121]
def Uz:aqO:=[115,101,114,118,105,99,101,95,99,111,109,112,108,101,116,101,100,95,115,117,99,99,101,115,115,102,117,108,108,121]
def aM(n:Node)(k or_:aqO):aqO:=bif !(aD n k)then or_ else(aJ n k).text
def bT(n:Node)(k _:aqO):Bool:=bif !(aD n k)then true else(aJ n k).kind==1
def OC(s:aqO):Bool:=!(s==jU) && !(s==ow)
def nco(s:aqO):Bool:=(!(s==lZ) && !(s==Uy)) && !(s==Uz)
def b2(b:Bool):Int:=bif b then 1 else 0
def em(n:Node):Node:=bif n.kind==0 then⟨3,[],[],[]⟩else n
def RN(n:Node):Node:=⟨3,[],[cK,rK,sK],[dx (aM (em n) cK lZ),fD (aM (em n) rK jU==jU),fD (aM (em n) sK ow==jU)]⟩
def bdV(m:Node):Bool:=((((((m.kind != 3) || !(bT m cK [])) || !(bT m sK []))||OC (aM m sK ow)) || !(bT m rK []))||OC (aM m rK jU))||nco (aM m cK lZ)
def lfV(m:Node):Int:=(((m.keys.length:Int)-b2 (aD m cK))-b2 (aD m sK))-b2 (aD m rK)
def JA(n:Node):Bool:=!(bdV (em n))&&(lfV (em n)==0)
theorem Xx(b:Bool):kZ b=some (fD b):=dL rfl (by cases b<;>rfl)
def lQ(f:field)(k:aqO):field:=⟨f.n,f.left-b2 (aD f.n k),f.bad || !(bT f.n k [])⟩
theorem gT(f:field)(k o:aqO)(h : -1000000<=f.left/\f.left<=1000000):(aU f k o).isSome=true->gv (aU f k o)=(lQ f k,aM f.n k o):=by
 refine iA rfl ?_;simp only[eX,vD];have:=@cZ (f.left-1);obtain⟨n,l,b⟩:=f
 (repeat' (first|intro _|apply And.intro))<;>grind[lQ,b2,bT,aM]
theorem uw(f:field)(k:aqO)(o:Bool)(h : -1000000<=f.left/\f.left<=1000000):(eU f k o).isSome=true->gv (eU f k o)=(⟨f.n,f.left-b2 (aD f.n k),(f.bad || !(bT f.n k []))||OC (aM f.n k (Bl o))⟩,aM f.n k (Bl o)==jU):=by
 refine iA rfl ?_;simp only[eX,uh];have h1:=fun l b o=>gT ⟨f.n,l,b⟩ k o
 obtain⟨n,l,b⟩:=f;have h2:Bl true=[116,114,117,101]:=rfl;have h3:Bl false=[102,97,108,115,101]:=rfl
 (repeat' (first|intro _|apply And.intro))<;>grind[lQ,OC,jU,ow]
def yB(f:field)(k:aqO):Bool:=bif(bif(f.bad || !(bT f.n k []))then true else(iM (aM f.n k [48]) 65536).2 != 0)then true else(bif aD f.n k then(iM (aM f.n k [48]) 65536).1==0 else false)
theorem Ac(f:field)(k:aqO)(h : -1000000<=f.left/\f.left<=1000000)(hl:(aM f.n k [48]).length<=1000000):(ku f k).isSome=true->gv (ku f k)=(⟨f.n,f.left-b2 (aD f.n k),yB f k⟩,(iM (aM f.n k [48]) 65536).1):=by
 refine iA rfl ?_;simp only[eX,pV];have h1:=gT f k [48] h;have h2:=tJ (aM f.n k [48]) 65536 (xK.2 ⟨⟨hl,by decide⟩,by decide⟩);obtain⟨n,l,b⟩:=f
 (repeat' (first|intro _|apply And.intro))<;>grind[lQ,yB,fI]
theorem aCA:Pl.bA ([[99,111,110,100,105,116,105,111,110],[114,101,113,117,105,114,101,100],[114,101,115,116,97,114,116]]:List (aqO))=[[99,111,110,100,105,116,105,111,110],[114,101,113,117,105,114,101,100],[114,101,115,116,97,114,116]]:=Pl.xw (by unfold Pl.SS;decide) fun _=>Iff.rfl
theorem QU(n:Nat)(s:aqO)(d l:Int)(hl:1<=l)(hd:d<=12):leftV (n+1) (dx s) d l=l-1:=by unfold leftV BJ Gt Gu uq dx;simp only[decide_eq_false (show ¬ l-1<0 by omega),decide_eq_false (show ¬ 12<d by omega)];rfl
theorem aA0(a b c:aqO):yA ⟨3,[],[cK,rK,sK],[dx a,dx b,dx c]⟩=true:=by
 unfold yA leftV BJ Gt Gu;simp only[cK,rK,sK,aCA,uq];have l1:leftV 12 (dx a) (1+1) (2000-1)=1998:=by rw[QU 11 a _ _ (by decide) (by decide)];rfl
 have l2:leftV 12 (dx b) (1+1) 1998=1997:=by rw[QU 11 b _ _ (by decide) (by decide)];rfl
 have l3:leftV 12 (dx c) (1+1) 1997=1996:=by rw[QU 11 c _ _ (by decide) (by decide)];rfl
 simp only[l1,l2,l3];rfl
theorem aa0(ks:List (aqO))(l:List Node)(h:dp 13 ⟨3,[],ks,l⟩=true):(lK ks l).isSome=true->gv (lK ks l)=bif yA ⟨3,[],ks,l⟩then⟨3,[],ks,l⟩else zn:=by
 refine iA rfl ?_;simp only[eX,JV];have h1:=aiW ⟨3,[],ks,l⟩ h
 (repeat' (first|intro _|apply And.intro))<;>grind[yZ]
set_option maxHeartbeats 1000000 in
theorem Xy(n:Node)(hl:n.keys.length<=100000)(h0:n.kind=0->n=zn):(BS n).isSome=true->gv (BS n)=(RN n,JA n):=by
 refine iA rfl ?_;simp only[aN,bB,Hg,bf,Xx,aH];have hand:∀x y:Bool,(bif x then y else false)=(x&&y):=by decide
 have hor:∀x y:Bool,(bif x then true else y)=(x||y):=by decide
 have key:∀(m:Node),m=em n->m.keys.length<=100000->cl (aU ⟨m,(m.keys.length:Int),m.kind != 3⟩ cK lZ) True fun y1=>cl (eU ⟨y1.1.n,y1.1.left,y1.1.bad⟩ sK false) True fun y2=>cl (eU ⟨y2.1.n,y2.1.left,y2.1.bad⟩ rK true) True fun y3=>cl (lK [cK,rK,sK] [dx y1.2,fD y3.2,fD y2.2]) True fun y6=>(y6,(bif(!(bif(y3.1).bad then true else(bif(bif(!(y1.2==lZ))then(!(y1.2==Uy))else false)then(!(y1.2==Uz))else false)))then((y3.1).left==(0:Int))else false))=(RN n,JA n):=by
  intro m hm hml;have b1:∀x:Bool,0<=b2 x/\b2 x<=1:=fun x=>by cases x<;>decide
  have e1:=gT ⟨m,(m.keys.length:Int),m.kind != 3⟩ cK lZ ⟨by show -1000000<=(m.keys.length:Int);omega,by show(m.keys.length:Int)<=1000000;omega⟩;simp only[eX];intro i1;rw[e1 i1];have c1:=b1 (aD m cK);have e2:=uw (lQ ⟨m,(m.keys.length:Int),m.kind != 3⟩ cK) sK false ⟨by show -1000000<=(m.keys.length:Int)-b2 (aD m cK);omega,by show(m.keys.length:Int)-b2 (aD m cK)<=1000000;omega⟩;intro i2;rw[show eU ⟨(lQ ⟨m,(m.keys.length:Int),m.kind != 3⟩ cK).n,(lQ ⟨m,(m.keys.length:Int),m.kind != 3⟩ cK).left,(lQ ⟨m,(m.keys.length:Int),m.kind != 3⟩ cK).bad⟩ sK false=eU (lQ ⟨m,(m.keys.length:Int),m.kind != 3⟩ cK) sK false from rfl]at i2 ⊢;rw[e2 i2];have c2:=b1 (aD m sK);dsimp only [lQ];intro i3;rw[uw _ rK true ⟨by dsimp only;omega,by dsimp only;omega⟩ i3];intro i4;rw[aa0 _ _ (by simp[dp,dx,fD]) i4];have r3:=aA0 (aM m cK lZ) (Bl (aM m rK (Bl true)==jU)) (Bl (aM m sK (Bl false)==jU));rw[show yA ⟨3,[],[cK,rK,sK],[dx (aM m cK lZ),fD (aM m rK (Bl true)==jU),fD (aM m sK (Bl false)==jU)]⟩=true from r3,cond_true];unfold RN JA bdV lfV nco;rw[<- hm];simp only[hand,hor];rfl
 cases hz:n.kind==0 with
 | true =>have hn:=h0 (by simpa using hz);rw[cond_true];subst hn;exact key ⟨3,[],[],[]⟩ rfl (by decide)
 | false =>rw[cond_false];exact key n (by unfold em;rw[hz];rfl) hl
end
section
def pd(f:aqO->Bool):List (aqO)->List Node->Node->Bool->Node×Bool
 | s::t,y::r,o,b=>pd f t r (bD o s (RN y)) (bif b then true else(bif !(JA y)then true else !(f s)))
 | _,_,o,b=>(o,b)
def D6(n:Node):List (aqO):=bif qH n 3 then n.keys else bH n
def Bn(n:Node)(l:List (aqO)):List Node:=bif n.kind==3 then n.kids else l.map fun _=>zn
def dp0(n:Node):Bool:=bif qH n 3 then false else !(pY n)
def dpP(n:Node):Node×Bool:=pd (rU Bj yx) (D6 n) (Bn n (D6 n)) zn (dp0 n)
def dpV(n:Node):Node:=DY (dpP n).1 (dpP n).2
def dpE(n:Node):Int:=DZ (dpP n).1 (dpP n).2
theorem ayX(l:List (aqO))(i:Nat):(l.map fun _=>zn).getD i (Df.d:Node)=zn:=by
 rw[List.getD];cases e:(l.map fun _=>zn)[i]? with
 | none=>rfl
 | some x =>have:=agC e;obtain⟨_,_,h⟩:=List.mem_map.1 this;exact h.symm
theorem UA{P:Node->Prop}{l:List Node}(h:∀y∈l,P y){i:Int}(h0:0<=i)(hi:i<(l.length:Int)):P (l.getD i.toNat (Df.d:Node)):=by rw[show l.getD i.toNat (Df.d:Node)=l[i.toNat]'(by omega) by simp[List.getD,show i.toNat<l.length by omega]];exact h _ (aee _)
set_option maxHeartbeats 1000000 in
theorem als(n:Node)(hl:n.kids.length<=1000000)(hs:∀s∈D6 n,s.length<=1000000)(hn:(D6 n).length<=1000000)(hk:∀y∈n.kids,y.keys.length<=100000/\(y.kind=0->y=zn)):(yN n).isSome=true->gv (yN n)=(dpV n,dpE n):=by
 refine part rfl (fun r=>r=(dpV n,dpE n)) (fun | .e y0=>y0=n | .h0 v0 v1 v2 v3 _ _ v6=>v0=D6 n/\v1=((D6 n).length:Int)/\0<=v2/\v2<=v1/\v3=n/\pd (rU Bj yx) ((D6 n).drop v2.toNat) ((Bn n (D6 n)).drop v2.toNat) v6.n v6.bad=dpP n) rfl ?_;rintro(y0 | ⟨v0,v1,v2,v3,v4,v5,⟨o,bad⟩⟩) hs'
 ·cases hs';simp only[aN,bB,yM,rz,iE,bf,aH];simp only[eX];have h1:=zX n hl;have h2:qH n 3=(bif n.kind==3 then decide ((n.kids.length:Int)<=32)else false):=rfl
  (repeat' (first|intro _|apply And.intro))<;>grind[D6,dp0,dpP,aed,yZ]
 ·obtain⟨rfl,rfl,h1,h2,rfl,h3⟩:=hs';simp only[aN,bB,yM,iE,bf,aH];simp only[eX];have e1:=@cZ (v2+1);by_cases hi:v2<((D6 v3).length:Int)
  ·rw[gQ (D6 v3) Df.d h1 hi]at h3;have h5:=rV hs v2.toNat;generalize (D6 v3).getD v2.toNat Df.d=s at h3 h5 ⊢;rw[ru s h5];have h8:=fun b v=>iB ⟨o,b⟩ s v
   cases hkd:v3.kind==3 with
   | true =>
    have hd:Bn v3 (D6 v3)=v3.kids:=by unfold Bn;rw[hkd];rfl
    rw[hd]at h3;refine⟨fun _ _ _=>⟨fun _ _ hj=>?_,fun h=>?_⟩,fun h=>absurd hi h⟩
    ·rw[gQ v3.kids Df.d h1 hj,pd]at h3;have h6:=UA hk h1 hj;generalize v3.kids.getD v2.toNat Df.d=y at h3 h6 ⊢;have h7:=Xy y h6.1 h6.2
     (repeat' (first|intro _|apply And.intro))<;>grind[fI]
    ·cases h
   | false =>
    have hd:Bn v3 (D6 v3)=(D6 v3).map fun _=>zn:=by unfold Bn;rw[hkd];rfl
    rw[hd,gQ ((D6 v3).map fun _=>zn) Df.d h1 (by rw[List.length_map];exact hi),ayX,pd]at h3;have h7:=Xy zn (by decide) (fun _=>rfl);have h9:¬ v3.kind=3:=by simpa using hkd
    (repeat' (first|intro _|apply And.intro))<;>grind[fI,yZ]
  ·rw[jw (D6 v3) (by omega),pd]at h3;have h5:=iF ⟨o,bad⟩
   ·(repeat' (first|intro _|apply And.intro))<;>grind[dpV,dpE]
   ·intro a b c d e;cases e
def iY:aqO:=[115,101,114,118,105,99,101]
def lS:aqO:=[102,105,108,101]
def xS:aqO:=[120]
def iZ(n:Node):Node:=bif n.kind==1 then⟨3,[],[iY],[n]⟩else n
def apX(m:Node):Bool:=((m.kind != 3) || !(bT m iY [])) || !(bT m lS [])
def apY(m:Node):Int:=((m.keys.length:Int)-b2 (aD m iY))-b2 (aD m lS)
def Ng(m:Node):Bool:=(((apX m || !(apY m==0)) || !(rU Bj yx (aM m iY [])))||aM m lS xS==[])||decide ((64:Int)<((aM m lS xS).length:Int))
def exV(n:Node):Node:=bif Ng (iZ n)then zn else fP 1000 (iZ n)
def Xz(n:Node):Int:=bif Ng (iZ n)then 10 else 0
theorem aCB:Pl.bA ([[115,101,114,118,105,99,101]]:List (aqO))=[[115,101,114,118,105,99,101]]:=Pl.xw (by unfold Pl.SS;decide) fun _=>Iff.rfl
theorem aA2(a:aqO):yA ⟨3,[],[iY],[dx a]⟩=true:=by
 unfold yA leftV BJ Gt Gu;simp only[iY,aCB,uq];have l1:leftV 12 (dx a) (1+1) (2000-1)=1998:=by rw[QU 11 a _ _ (by decide) (by decide)];rfl
 simp only[l1];rfl
theorem acR(n:Node)(hl:(iZ n).keys.length<=100000)(h1:n.kind=1->n=dx n.text)(hs:(aM (iZ n) iY []).length<=1000000):(q8 n).isSome=true->gv (q8 n)=(exV n,Xz n):=by
 refine iA rfl ?_;simp only[aN,bB,AL,bf];have hand:∀x y:Bool,(bif x then y else false)=(x&&y):=by decide
 have hor:∀x y:Bool,(bif x then true else y)=(x||y):=by decide
 have b1:∀x:Bool,0<=b2 x/\b2 x<=1:=fun x=>by cases x<;>decide
 have key:∀(m:Node),m=iZ n->cl (aU ⟨m,(m.keys.length:Int),m.kind != 3⟩ iY []) True fun y2=>cl (aU ⟨y2.1.n,y2.1.left,y2.1.bad⟩ lS xS) True fun y3=>ck (((iL (y2.2)).isSome) || !(!(!(bif(!(y3.1).bad)then((y3.1).left==(0:Int))else false)))) True (bif(bif(bif(bif(!(bif(!(y3.1).bad)then((y3.1).left==(0:Int))else false))then true else(!(gv (iL (y2.2)))))then true else(y3.2==([]:aqO)))then true else(decide ((64:Int)<((y3.2).length:Int))))then(cl dW True fun y4=>(y4.1,y4.2)=(exV n,Xz n))else(ck ((wg 10000 1000) m) True ((fP 1000 m,(0:Int))=(exV n,Xz n)))):=by
  intro m hm;rw[<- hm]at hl hs;have e1:=gT ⟨m,(m.keys.length:Int),m.kind != 3⟩ iY [] ⟨by show -1000000<=(m.keys.length:Int);omega,by show(m.keys.length:Int)<=1000000;omega⟩;simp only[eX];intro i1;rw[e1 i1];have c1:=b1 (aD m iY);intro i2;have e2:=gT (lQ ⟨m,(m.keys.length:Int),m.kind != 3⟩ iY) lS xS ⟨by show -1000000<=(m.keys.length:Int)-b2 (aD m iY);omega,by show(m.keys.length:Int)-b2 (aD m iY)<=1000000;omega⟩;rw[show aU ⟨(lQ ⟨m,(m.keys.length:Int),m.kind != 3⟩ iY).n,(lQ ⟨m,(m.keys.length:Int),m.kind != 3⟩ iY).left,(lQ ⟨m,(m.keys.length:Int),m.kind != 3⟩ iY).bad⟩ lS xS=aU (lQ ⟨m,(m.keys.length:Int),m.kind != 3⟩ iY) lS xS from rfl]at i2 ⊢;rw[e2 i2];dsimp only [lQ];rw[ru _ hs,fI,jG];have hF:(bif(bif(bif(!(bif(!((m.kind != 3 || !bT m iY []) || !bT m lS []))then((m.keys.length:Int)-b2 (aD m iY)-b2 (aD m lS)==(0:Int))else false))then true else(!(rU Bj yx (aM m iY []))))then true else(aM m lS xS==([]:aqO)))then true else(decide ((64:Int)<((aM m lS xS).length:Int))))=Ng m:=by unfold Ng apX apY;simp only[hand,hor,Bool.not_and,Bool.not_not]
  refine fun _=>⟨fun hc _=>?_,fun hc _=>?_⟩
  ·have hc':Ng m=true:=hF.symm.trans hc;unfold exV Xz;rw[<- hm,hc'];rfl
  ·have hc':Ng m=false:=hF.symm.trans hc;unfold exV Xz;rw[<- hm,hc'];rfl
 cases hk:n.kind==1 with
 | true =>
  have h2:=h1 (by simpa using hk);have h3:iZ n=⟨3,[],[iY],[n]⟩:=by unfold iZ;rw[hk];rfl
  rw[cond_true,pZ];intro i;have e:=aa0 [iY] [n] (by rw[h2];simp[dp,dx]) i;rw[show yA ⟨3,[],[iY],[n]⟩=true by rw[h2];exact aA2 _,cond_true]at e;have e':gv (lK [[115,101,114,118,105,99,101]] [n])=_:=e;rw[e'];exact key _ h3.symm
 | false =>rw[cond_false];exact key n (by unfold iZ;rw[hk];rfl)
end
section
theorem wu64(n:Int):IntKind.wrap .u64 n=n%18446744073709551616:=by simp[IntKind.wrap,IntKind.bits,IntKind.signed]
theorem wu8(n:Int):IntKind.wrap .u8 n=n%256:=by simp[IntKind.wrap,IntKind.bits,IntKind.signed]
theorem awI{n:Int}(h:0<=n)(h':n<256):IntKind.wrap .u8 n=n:=by rw[wu8];omega
theorem ms:aA=4611686018427387904:=rfl
def dg(n:Nat):UInt8:=UInt8.ofNat (48+n)
def og:Nat->Nat->aqO
 | 0,_=>[]
 | f+1,u=>if u<10 then[dg u]else og f (u / 10)++[dg (u%10)]
def Jl(u:Nat):aqO:=og 20 u
theorem MH:∀(f u:Nat),(og f u).length<=f
 | 0,_=>abn _
 | f+1,u=>by
  unfold og;split
  ·simp
  ·have:=MH f (u / 10);rw[List.length_append,aa8];omega
def aZ(n:Int):aqO:=bif decide (n<0)then 45::Jl (-n).toNat else Jl n.toNat
theorem qX(n:Int):(aZ n).length<=21:=by
 unfold aZ Jl;cases decide (n<0)with
 | true=>have:=MH 20 (-n).toNat;simp only[cond_true,List.length_cons];omega
 | false=>have:=MH 20 n.toNat;simp only[cond_false];omega
def dZ(c:UInt8):Bool:=decide (48<=c.toNat)&&decide (c.toNat<=57)
def Fv(s:aqO):Bool:=match s with
 | []=>true
 | [_]=>false
 | c::_=>c==48
def dX(s:aqO):Bool:=!(Fv s)&&s.all dZ
theorem OD(c:UInt8):(bif decide ((c.toNat:Int)<48)then true else decide (57<(c.toNat:Int))) = !(dZ c):=by
 unfold dZ;by_cases h1:c.toNat<48
 ·rw[dT (by omega),dF (show ¬ 48<=c.toNat by omega)];rfl
 ·by_cases h2:57<c.toNat
  ·rw[dF (by omega),dT (by omega),dT (show 48<=c.toNat by omega),dF (by omega)];rfl
  ·rw[dF (by omega),dF (by omega),dT (show 48<=c.toNat by omega),dT (by omega)];rfl
theorem c48(c:UInt8):((c.toNat:Int)==(48:Int))=(c==48):=by
 by_cases h:c=48
 ·subst h;rfl
 ·rw[eT (fun e=>h (UInt8.toNat_inj.1 (show c.toNat=48 by have e:(c.toNat:Int)=48:=e;omega)))];simpa using h
def bn:aqO->Nat->Nat
 | [],n=>n
 | c::t,n=>bn t (n*10+(c.toNat-48))
theorem V8:∀(s:aqO) (n:Nat),n<=bn s n
 | [],n=>abn _
 | c::t,n=>Nat.le_trans (by omega) (V8 t (n*10+(c.toNat-48)))
theorem vY{c:UInt8}:dZ c=true↔48<=c.toNat/\c.toNat<=57:=by simp[dZ]
theorem amY:∀(s:aqO) (n:Nat),s.all dZ=true->bn s n<(n+1)*10 ^ s.length
 | [],n,_=>by simp[bn]
 | c::t,n,h=>by rw[aeB,abj]at h;have h1:=vY.1 h.1;have:=amY t (n*10+(c.toNat-48)) h.2;unfold bn;refine aeh this ?_;rw[List.length_cons,Nat.pow_succ,amG (10 ^ t.length) 10,<- Nat.mul_assoc];exact aeA _ (by omega)
def K9(n:Nat):Int:=bif decide (n<72057594037927936)then(n:Int)else 1152921504606846976
theorem AZ{n:Nat}(h:n<72057594037927936):K9 n=n:=by unfold K9;rw[dT h];rfl
theorem OE{n:Nat}(h:¬ n<72057594037927936):K9 n=1152921504606846976:=by unfold K9;rw[dF h];rfl
def iR(s:aqO):Int:=K9 (bn s 0)
theorem apZ(s:aqO):0<=iR s/\iR s<=1152921504606846976:=by
 unfold iR;by_cases h:bn s 0<72057594037927936
 ·rw[AZ h];omega
 ·rw[OE h];omega
def A8(most:Int)(n:Nat):Int×Int:=bif decide (most<(n:Int))then(0,9)else((n:Int),0)
theorem DF{most:Int}{n:Nat}(h:most<(n:Int)):A8 most n=(0,9):=by unfold A8;rw[dT h];rfl
theorem DI{most:Int}{n:Nat}(h:¬ most<(n:Int)):A8 most n=((n:Int),0):=by unfold A8;rw[dF h];rfl
def fH(s:aqO)(most:Int):Int×Int:=bif !(dX s)then(0,3)else A8 most (bn s 0)
def BL(s:aqO)(most:Int):Int:=(fH s most).1
def Nh(s:aqO)(most:Int):Int:=(fH s most).2
theorem IK(s:aqO)(most:Int)(h:0<=most):0<=BL s most/\BL s most<=most:=by
 unfold BL fH;cases dX s with
 | false=>exact⟨amd _,h⟩
 | true =>
  simp only[adr,cond_false];by_cases hv:most<(bn s 0:Int)
  ·rw[DF hv];exact⟨amd _,h⟩
  ·rw[DI hv];exact⟨Int.natCast_nonneg _,by simp only;omega⟩
theorem aA3{c:UInt8}(h:dZ c=true):vX c=((c.toNat-48:Nat):Int)/\c.toNat-48<=9:=by have:=vY.1 h;unfold vX;omega
theorem YQ(c:UInt8):(bif decide (vX c<0)then true else decide (9<vX c)) = !(dZ c):=by rw[<- OD];have e1:decide (vX c<0)=decide ((c.toNat:Int)<48):=decide_eq_decide.2 (by unfold vX;omega);have e2:decide (9<vX c)=decide (57<(c.toNat:Int)):=decide_eq_decide.2 (by unfold vX;omega);rw[e1,e2]
theorem aiY(most:Int):∀(s:aqO) (n:Int) (over:Bool),s.all dZ=false->Oy most s n over=(0,3)
 | [],_,_,h=>by cases h
 | c::t,n,over,h=>by
  unfold Oy;rw[YQ];cases hc:dZ c with
  | false=>rfl
  | true =>
   rw[aeB,hc,aeu]at h;simp only[adr,cond_false];cases KZ most (vX c) n over with
   | true=>exact aiY most t _ _ h
   | false=>exact aiY most t _ _ h
theorem aiZ(most:Int):∀(s:aqO) (n:Int),s.all dZ=true->Oy most s n true=(0,9)
 | [],_,_=>rfl
 | c::t,n,h=>by rw[aeB,abj]at h;unfold Oy;rw[YQ,h.1];exact aiZ most t n h.2
theorem asy(most:Int)(h0:0<=most):∀(s:aqO) (n:Nat),s.all dZ=true->(n:Int)<=most->Oy most s n false=A8 most (bn s n)
 | [],n,_,hn=>by rw[bn,DI (by omega)];rfl
 | c::t,n,h,hn=>by
  rw[aeB,abj]at h;obtain⟨e,hd⟩:=aA3 h.1;unfold Oy bn;rw[YQ,h.1];simp only[adr,cond_false];rw[e];generalize hq:c.toNat-48=d at hd ⊢;by_cases hm:((n*10+d:Nat):Int)<=most
  ·have ho:KZ most (d:Int) n false=false:=by
    unfold KZ;rw[cond_false,aeI (by omega),dF (by omega),dF (by omega)];rfl
   rw[ho,aec,cond_true,show(n:Int)*10+(d:Int)=((n*10+d:Nat):Int) by omega];exact asy most h0 t _ h.2 hm
  ·have ho:KZ most (d:Int) n false=true:=by
    unfold KZ;rw[cond_false];by_cases hmd:most<(d:Int)
    ·rw[dT hmd];cases decide ((most-(d:Int)).tdiv 10<(n:Int))<;>rfl
    ·rw[aeI (by omega),dT (by omega)];rfl
   rw[ho,adr,cond_false,aiZ most t _ h.2];have:=V8 t (n*10+d);rw[DF (by omega)]
theorem avB(s:aqO):aaM s=Fv s:=by
 unfold aaM
 match s with
 | []=>rfl
 | [c]=>rfl
 | c::d::t =>have e1:(c::d::t==([]:aqO))=false:=rfl;rw[e1,cond_false,dT (show(1:Int)<((c::d::t).length:Int) by simp only[List.length_cons];omega),cond_true];exact c48 c
theorem count_eq(s:aqO){most:Int}(h0:0<=most):iM s most=fH s most:=by
 unfold iM fH dX;rw[avB];cases Fv s with
 | true=>rfl
 | false =>
  simp only[cond_false,aec,aeu];cases hd:s.all dZ with
  | false=>rw[aiY most s _ _ hd];rfl
  | true=>rw[show(0:Int)=((0:Nat):Int)from rfl,asy most h0 s 0 hd (by omega)];rfl
theorem aev(s:aqO){most:Int}(h0:0<=most):amI s most=BL s most:=congrArg Prod.fst (count_eq s h0)
theorem UC(s:aqO){most:Int}(h0:0<=most):VZ s most=Nh s most:=congrArg Prod.snd (count_eq s h0)
theorem ai0:∀(s t:aqO) (n:Nat),bn (s++t) n=bn t (bn s n)
 | [],_,_=>rfl
 | _::s,t,_=>ai0 s t _
theorem aa1{n:Nat}(h:n<10):(dg n).toNat=48+n:=by unfold dg;rw[UInt8.toNat_ofNat',Nat.mod_eq_of_lt (by omega)]
theorem asz{n:Nat}(h:n<10):dZ (dg n)=true:=vY.2 (by rw[aa1 h];omega)
theorem UD:∀(f u:Nat),(og f u).all dZ=true
 | 0,_=>rfl
 | f+1,u=>by
  unfold og;split
  ·rename_i h;simp[asz h]
  ·rw[List.all_append,UD f];simp[asz (Nat.mod_lt u (by decide))]
theorem aew:∀(f u:Nat),u<10 ^ f->bn (og f u) 0=u
 | 0,u,h=>by simp at h;subst h;rfl
 | f+1,u,h=>by
  unfold og;split
  ·rename_i hu;show 0*10+((dg u).toNat-48)=u;rw[aa1 hu];omega
  ·have h10:10 ^ (f+1)=10*10 ^ f:=by rw[Nat.pow_succ,amG]
   rw[ai0,aew f (u / 10) (by omega)];show u / 10*10+((dg (u%10)).toNat-48)=u;rw[aa1 (Nat.mod_lt u (by decide))];omega
theorem asA{s:aqO}(t:aqO)(h:Fv s=false)(h2:s≠[48]):Fv (s++t)=false:=by
 match s,h,h2 with
 | [c],_,h2 =>
  cases t with
  | nil=>rfl
  | cons d t =>show(c==48)=false;simpa using fun e=>h2 (by rw[e])
 | c::d::s,h,_=>exact h
theorem aa2:∀(f u:Nat),1<=f->u<10 ^ f->Fv (og f u)=false/\(1<=u->∀c t,og f u=c::t->c≠48)
 | 0,_,h,_=>absurd h (by decide)
 | f+1,u,_,h=>by
  unfold og;split
  ·rename_i hu;refine⟨rfl,fun h1 c t e=>?_⟩;cases e;intro e;have:=aa1 hu;rw[e]at this;have h48:(48:UInt8).toNat=48:=rfl;omega
  ·rename_i hu;have h10:10 ^ (f+1)=10*10 ^ f:=by rw[Nat.pow_succ,amG]
   have hf:1<=f:=by
    rcases Nat.eq_zero_or_pos f with rfl | h
    ·simp at h;omega
    ·exact h
   obtain⟨q1,q2⟩:=aa2 f (u / 10) hf (by omega);have q2:=q2 (by omega);refine⟨asA _ q1 fun e=>q2 _ _ e rfl,fun _ c t e=>?_⟩;cases hd:og f (u / 10)with
   | nil=>rw[hd]at q1;cases q1
   | cons a s =>rw[hd]at e;cases e;exact q2 _ _ hd
theorem aCC{u:Nat}(h:u<9223372036854775808):u<10 ^ 20:=aeh h (by decide)
theorem xL{n:Int}(h0:0<=n)(h1:n<9223372036854775808):dX (aZ n)=true/\(bn (aZ n) 0:Int)=n/\(aZ n).all dZ=true:=by
 have e:aZ n=Jl n.toNat:=by unfold aZ;rw[dF (by omega)];rfl
 rw[e];unfold Jl;have hp:=aCC (u:=n.toNat) (by omega);refine⟨?_,by rw[aew 20 _ hp];omega,UD 20 _⟩;unfold dX;rw[UD,(aa2 20 _ (by decide) hp).1];rfl
theorem YR{n most:Int}(h0:0<=n)(h1:n<=most)(h2:n<9223372036854775808):fH (aZ n) most=(n,0):=by obtain⟨q1,q2,_⟩:=xL h0 h2;unfold fH;rw[q1,adr,cond_false,DI (by omega),q2]
end
section
theorem ap0{n:Int}(h:0<=n)(h':n<10):UInt8.ofNat (Int.toNat (IntKind.wrap .u8 (IntKind.wrap .u64 (48+n))))=dg n.toNat:=by rw[zU (by omega) (by omega),awI (by omega) (by omega)];unfold dg;rw[show(48+n).toNat=48+n.toNat from by omega]
theorem set_drop{α:Type}(l:List α)(i:Nat)(a:α)(h:i<l.length):(l.set i a).drop i=a::l.drop (i+1):=by rw[<- abl (by rw[ame];exact h),List.getElem_set_self,List.drop_set_of_lt (by omega)]
def byt(l:List Int):aqO:=l.map fun y=>UInt8.ofNat (Int.toNat y)
theorem amZ{α:Type}(l:List α)(a:Nat)(h:l.length=20)(h2:a<=20):cut l (a:Int) 20=l.drop a:=by unfold cut;rw[aaE];exact aej (by rw[adH];omega)
theorem avC{f u:Nat}(h:u<10):og (f+1) u=[dg u]:=by unfold og;rw[if_pos h]
theorem avD{f u:Nat}(h:¬ u<10):og (f+1) u=og f (u / 10)++[dg (u%10)]:=by rw[og,if_neg h]
theorem Ad(x:Int)(hx : -9223372036854775808<=x/\x<=9223372036854775807):(pW x).isSome=true->gv (pW x)=aZ x:=by
 refine part rfl (fun r=>r=aZ x) (fun | .e y=>y=x | .h0 v0 v1 v2 v3=>v1=decide (x<0)/\1<=v0/\v0<=20/\0<=v2/\v2<=9223372036854775808/\v3.length=20/\v2.toNat<10 ^ v0.toNat/\og v0.toNat v2.toNat++byt (v3.drop v0.toNat)=Jl x.natAbs) rfl ?_;have hT:aZ x=bif decide (x<0)then 45::Jl x.natAbs else Jl x.natAbs:=by
  unfold aZ;by_cases h:x<0
  ·rw[dT h,cond_true,cond_true,show(-x).toNat=x.natAbs by omega]
  ·rw[dF h,cond_false,cond_false,show x.toNat=x.natAbs by omega]
 rintro(y | ⟨v0,v1,v2,v3⟩) hs
 ·cases hs;simp only[eX,vQ,wu64];refine⟨fun h=>⟨trivial,by decide,by decide,by omega,by omega,rfl,Nat.lt_of_le_of_lt (show _<=9223372036854775808 by omega) (by decide),?_⟩,fun h=>⟨trivial,by decide,by decide,by omega,by omega,rfl,Nat.lt_of_le_of_lt (show _<=9223372036854775808 by omega) (by decide),?_⟩⟩
  ·rw[show((0-x%18446744073709551616)%18446744073709551616).toNat=x.natAbs by omega];show og 20 x.natAbs++[]=_;rw[aeb];rfl
  ·rw[show(x%18446744073709551616).toNat=x.natAbs by omega];show og 20 x.natAbs++[]=_;rw[aeb];rfl
 ·obtain⟨rfl,h1,h2,h3,h4,h5,h7,h6⟩:=hs;obtain⟨a,rfl⟩:∃a:Nat,v0=((a+1:Nat):Int):=⟨(v0-1).toNat,by omega⟩
  obtain⟨u,rfl⟩:∃u:Nat,v2=(u:Int):=⟨v2.toNat,by omega⟩
  have w1:ak (((a+1:Nat):Int)-1)=(a:Int):=by rw[cZ (by omega)];omega
  have e1:Int.tmod (u:Int) 10=((u%10:Nat):Int):=rfl;have e2:Int.tdiv (u:Int) 10=((u / 10:Nat):Int):=rfl;have e3:mQ (a:Int)=a:=by rw[ahp];omega
  have e4:IntKind.wrap .u64 ((u / 10:Nat):Int)=((u / 10:Nat):Int):=zU (by omega) (by omega);rw[aaE,aaE]at h6 h7;simp only[aN,bB,vQ,w1,e1,e2,e3,e4];have hd:∀t:List Int,byt ((v3.set a (IntKind.wrap .u8 (IntKind.wrap .u64 (48+((u%10:Nat):Int))))).drop a)=dg (u%10)::byt (v3.drop (a+1)):=fun _=>by rw[set_drop v3 a _ (by omega)];show UInt8.ofNat (Int.toNat (IntKind.wrap .u8 (IntKind.wrap .u64 (48+((u%10:Nat):Int)))))::byt _=_;rw[ap0 (by omega) (by omega),aaE]
  have hd:=hd [];simp only[eX];intro _ _ _ _;refine⟨fun hz=>?_,fun hz=>?_⟩
  ·have hu:u<10:=by
    have:((u / 10:Nat):Int)=0:=hz;omega
   rw[avC hu,agI]at h6;rw[Nat.mod_eq_of_lt hu]at hd;refine⟨fun hn=>?_,fun hn=>?_⟩
   ·intro i1 i2 i3;have hn':decide (x<0)=true:=decide_eq_true hn;have ha:1<=a:=by
     have:=i1.1;by_cases h0:a=0
     ·subst h0;exact absurd this (by decide)
     ·omega
    obtain⟨c,rfl⟩:∃c,a=c+1:=⟨a-1,by omega⟩
    have w2:ak (((c+1:Nat):Int)-1)=(c:Int):=by rw[cZ (by omega)];omega
    have e5:mQ (c:Int)=c:=by rw[ahp];omega
    rw[w2,e5,amZ _ c (by rw[ame,ame];exact h5) (by omega),set_drop _ c _ (by rw[ame];omega)];rw[hT,hn',cond_true,<- h6];show _::byt _=_;rw[Nat.mod_eq_of_lt hu,hd];rfl
   ·intro i1;have hn':decide (x<0)=false:=decide_eq_false hn;rw[amZ _ a (by rw[ame];exact h5) (by omega),hT,hn',cond_false,<- h6,Nat.mod_eq_of_lt hu];exact hd
  ·have hu:¬ u<10:=fun h=>by
    have h0:u / 10=0:=by omega
    rw[h0]at hz;cases hz
   rw[avD hu,abt,agI]at h6;have ha:1<=a:=by
    by_cases h0:a=0
    ·subst h0;omega
    ·omega
   refine⟨trivial,by omega,by omega,by omega,by omega,by rw[ame];exact h5,?_,?_⟩
   ·rw[aaE,aaE];rw[Nat.pow_succ]at h7;omega
   rw[aaE,aaE,hd];exact h6
end
section
def rW(x0:aqO):Te (Bool) Empty:=.q ((bV 0 0&&bV 0 2&&bV 2 (aC x0)) || !(bV 2 (aC x0))) (.k (aab (bV 2 (aC x0)) (cut x0 0 2==[120,45])))
def rX(x0:aqO):=(rW x0).o
def La:=(tX.e (E:=E) mix).f0 21 [.str] [.bool] (fun a=>rW a) Tryz.func21
inductive Bp where
 | e (x0:aqO)
 | h0 (v0:aqO) (v1:List (aqO)) (v2:Int)
def sM:Bp->Te (Int) Bp
 | .e x0=>.g (.h0 x0 [[114,101,115,116,97,114,116],[99,112,117,115],[109,101,109,95,108,105,109,105,116],[115,99,97,108,101],[105,109,97,103,101],[99,111,109,109,97,110,100],[101,110,118,105,114,111,110,109,101,110,116],[108,97,98,101,108,115],[110,101,116,119,111,114,107,115],[112,111,114,116,115],[118,111,108,117,109,101,115],[100,101,112,101,110,100,115,95,111,110],[101,120,116,101,110,100,115],[104,101,97,108,116,104,99,104,101,99,107]] 0)
 | .h0 v0 v1 v2=>.b (aF v2 (aC v1)) (.i v1 v2 fun y1=>.b (y1==v0) (.k v2) (.g (.h0 v0 v1 (ak (v2+1))))) (.b (v0==[112,114,111,102,105,108,101,115]) (.k 8) (.k (-1)))
def Bq(x0:aqO):=mu sM (.e x0)
def LU:=La.fl 22 [.str] [.int] sM (fun a=>.e a) (fun | .e x0=>.e [⟨.str,x0⟩] | .h0 v0 v1 v2=>.h 0 ⟨21,[(0,.d (.str v0)),(3,.d (.slice .str v1)),(4,.d (.int .i64 v2))],[],0⟩) { live:=[(0,[0,3,4])] } Tryz.func22
inductive Ce where
 | e (x0:aqO)
 | h0 (v0:aqO) (v1:Int)
def lu:Ce->Te (Bool) Ce
 | .e x0=>.q ((bV 0 0&&aF 0 (aC x0)) || !((!(aC x0==0))&&aF 1 (aC x0))) (.b (aL (aC x0==0) (aab (aF 1 (aC x0)) (sH x0 0==48))) (.k false) (.g (.h0 x0 0)))
 | .h0 v0 v1=>.b (aF v1 (aC v0)) (.s v0 v1 fun y1=>.q ((bV 0 v1&&aF v1 (aC v0)) || !(!(aF y1 48))) (.b (aL (aF y1 48) (aF 57 y1)) (.k false) (.g (.h0 v0 (ak (v1+1)))))) (.k true)
def lC(x0:aqO):=mu lu (.e x0)
def Ni:=LU.fl 164 [.str] [.bool] lu (fun a=>.e a) (fun | .e x0=>.e [⟨.str,x0⟩] | .h0 v0 v1=>.h 0 ⟨33,[(0,.d (.str v0)),(3,.d (.int .i64 v1))],[],0⟩) { live:=[(0,[0,3])] } Tryz.func164
inductive Cg where
 | e (x0:aqO) (x1:Int)
 | h0 (v0:aqO) (v1:Int) (v2:Int) (v3:Int)
def oP:Cg->Te (Int×Int) Cg
 | .e x0 x1=>.b (aF x1 0) (.k (0,2)) (.c (lC x0) fun y1=>.b (!y1) (.k (0,3)) (.b (aF 19 (aC x0)) (.k (0,9)) (.g (.h0 x0 x1 0 0))))
 | .h0 v0 v1 v2 v3=>.b (aF v3 (aC v0)) (.s v0 v3 fun y1=>.g (.h0 v0 v1 (IntKind.wrap .u64 ((IntKind.wrap .u64 ((IntKind.wrap .u64 (v2*10))+(IntKind.wrap .u64 y1)))-48)) (ak (v3+1)))) (.b (aF (IntKind.wrap .u64 v1) v2) (.k (0,9)) (.k (ak v2,0)))
def dI(x0:aqO)(x1:Int):=mu oP (.e x0 x1)
def Nj:=Ni.fl 126 [.str,.int] [.int,.aW] oP (fun a=>.e a.1 a.2) (fun | .e x0 x1=>.e [⟨.str,x0⟩,⟨.int,x1⟩] | .h0 v0 v1 v2 v3=>.h 0 ⟨36,[(0,.d (.str v0)),(1,.d (.int .i64 v1)),(6,.d (.int .u64 v2)),(7,.d (.int .i64 v3))],[],0⟩) { live:=[(0,[0,1,6,7])] } Tryz.func126
def uJ(x0:aqO):Te (Bool) Empty:=.q ((bV 0 0&&bV 0 11&&bV 11 (aC x0)) || !(aF 11 (aC x0))) (.b (aab (aF 11 (aC x0)) (cut x0 0 11==[111,110,45,102,97,105,108,117,114,101,58])) (.q (bN x0 11 (aC x0)) (.c (dI (cut x0 11 (aC x0)) 10) fun y1=>.k (aab (y1.2==0) (aF 0 y1.1)))) (.k (aL (aL (aL (x0==[110,111]) (x0==[97,108,119,97,121,115])) (x0==[117,110,108,101,115,115,45,115,116,111,112,112,101,100])) (x0==[111,110,45,102,97,105,108,117,114,101]))))
def Ch(x0:aqO):=(uJ x0).o
def Nk:=Nj.f0 121 [.str] [.bool] (fun a=>uJ a) Tryz.func121
inductive Ci where
 | e (x0:aqO)
 | h0 (v0:aqO) (v1:Int) (v2:Int)
def uK:Ci->Te (Int) Ci
 | .e x0=>.g (.h0 x0 0 0)
 | .h0 v0 v1 v2=>.b (aF v2 (aC v0)) (.s v0 v2 fun y1=>.l (ak (ak (ak (v1*10)+ak y1)-48)) fun z1=>.b (bV 72057594037927936 z1) (.k 1152921504606846976) (.g (.h0 v0 z1 (ak (v2+1))))) (.k v1)
def lD(x0:aqO):=mu uK (.e x0)
def Nl:=Nk.fl 165 [.str] [.int] uK (fun a=>.e a) (fun | .e x0=>.e [⟨.str,x0⟩] | .h0 v0 v1 v2=>.h 0 ⟨22,[(0,.d (.str v0)),(3,.d (.int .i64 v1)),(4,.d (.int .i64 v2))],[],0⟩) { live:=[(0,[0,3,4])] } Tryz.func165
inductive oQ where
 | e (x0:aqO)
 | h0 (v0:aqO) (v1:Int)
 | h1 (v0:aqO) (v1:Int) (v2:aqO) (v3:Int)
 | h2 (v0:aqO) (v1:Int) (v2:aqO)
def lF:oQ->Te (Int×Int) oQ
 | .e x0=>.g (.h0 x0 0)
 | .h0 v0 v1=>.l (ak (v1+1)) fun z4=>.l (aF v1 (aC v0)) fun z3=>.l (lC (cut v0 0 v1)) fun z2=>.l (cut v0 z4 (aC v0)) fun z1=>.l (ak (aC z1-1)) fun z6=>.l (aL (aF (aC z1) 1) (aF 3 (aC z1))) fun z5=>.q ((bV 0 v1&&aF v1 (aC v0)) || !z3) (.b (aab z3 (sH v0 v1 != 46)) (.g (.h0 v0 z4)) (.b z3 (.q (bN v0 z4 (aC v0)) (.q ((bV 0 z6&&aF z6 (aC z1)) || !(!z5)) (.b (aL z5 (sH z1 z6==48)) (.k (0,3)) (.q (bN v0 0 v1) (.c z2 fun y1=>.b (!y1) (.k (0,3)) (.g (.h1 v0 v1 z1 0))))))) (.q (bN v0 0 v1) (.c z2 fun y2=>.b (!y2) (.k (0,3)) (.g (.h1 v0 v1 [] 0))))))
 | .h1 v0 v1 v2 v3=>.b (aF v3 (aC v2)) (.s v2 v3 fun y1=>.q ((bV 0 v3&&aF v3 (aC v2)) || !(!(aF y1 48))) (.b (aL (aF y1 48) (aF 57 y1)) (.k (0,3)) (.g (.h1 v0 v1 v2 (ak (v3+1)))))) (.g (.h2 v0 v1 v2))
 | .h2 v0 v1 v2=>.l (lD v2) fun z1=>.b (aF (aC v2) 3) (.q (decide (v2.length+([48]:aqO).length<=aA)) (.g (.h2 v0 v1 (v2++([48]:aqO))))) (.q (bN v0 0 v1) (.c (lD (cut v0 0 v1)) fun y1=>.l (aF 9007199254740 y1) fun z2=>.q ((z1.isSome) || !(!z2)) (.b (aL z2 (aF 9007199254740992 (ak (ak (y1*1000)+gv z1)))) (.k (0,9)) (.c z1 fun y2=>.k (ak (ak (y1*1000)+y2),0)))))
def uL(x0:aqO):=mu lF (.e x0)
def Nn:=Nl.fl 122 [.str] [.int,.aW] lF (fun a=>.e a) (fun | .e x0=>.e [⟨.str,x0⟩] | .h0 v0 v1=>.h 0 ⟨89,[(0,.d (.str v0)),(4,.d (.int .i64 v1))],[],0⟩ | .h1 v0 v1 v2 v3=>.h 1 ⟨89,[(0,.d (.str v0)),(4,.d (.int .i64 v1)),(5,.d (.str v2)),(6,.d (.int .i64 v3))],[],0⟩ | .h2 v0 v1 v2=>.h 2 ⟨89,[(0,.d (.str v0)),(4,.d (.int .i64 v1)),(5,.d (.str v2))],[],0⟩) { live:=[(0,[0,4]),(1,[0,4,5,6]),(2,[0,4,5])] } Tryz.func122
def vZ(x0:aqO):Te (Int) Empty:=.b (aL (x0==[]) (x0==[98])) (.k 1) (.b (aL (x0==[107]) (x0==[107,98])) (.k 1024) (.b (aL (x0==[109]) (x0==[109,98])) (.k 1048576) (.b (aL (x0==[103]) (x0==[103,98])) (.k 1073741824) (.k 0))))
def D7(x0:aqO):=(vZ x0).o
def OG:=Nn.f0 166 [.str] [.int] (fun a=>vZ a) Tryz.func166
inductive Cj where
 | e (x0:aqO)
 | h0 (v0:aqO) (v1:Int)
def uM:Cj->Te (Int×Int) Cj
 | .e x0=>.g (.h0 x0 0)
 | .h0 v0 v1=>.l (bV 0 v1&&aF v1 (aC v0)) fun z3=>.l (lC (cut v0 0 v1)) fun z2=>.l (aab (aF v1 (aC v0)) (bV 48 (sH v0 v1))) fun z1=>.q (z3 || !(aF v1 (aC v0))) (.q (z3 || !z1) (.b (aab z1 (bV (sH v0 v1) 57)) (.g (.h0 v0 (ak (v1+1)))) (.q (bN v0 v1 (aC v0)) (.c (D7 (cut v0 v1 (aC v0))) fun y1=>.l (y1==0) fun z4=>.q ((bV 0 0&&bV 0 v1&&bV v1 (aC v0)) || !(!z4)) (.q ((z2.isSome) || !(!z4)) (.b (aL z4 (!(gv z2))) (.k (0,3)) (.q (bN v0 0 v1) (.c (lD (cut v0 0 v1)) fun y2=>.q (!z4) (.b (aF (ak (Int.tdiv 1125899906842624 y1)) y2) (.k (0,9)) (.k (ak (y2*y1),0)))))))))))
def uN(x0:aqO):=mu uM (.e x0)
def Np:=OG.fl 123 [.str] [.int,.aW] uM (fun a=>.e a) (fun | .e x0=>.e [⟨.str,x0⟩] | .h0 v0 v1=>.h 0 ⟨49,[(0,.d (.str v0)),(4,.d (.int .i64 v1))],[],0⟩) { live:=[(0,[0,4])] } Tryz.func123
def wh(x0:Int):Te (Int) Empty:=.b (aL (aF x0 0) (aF 1125899906842624 x0)) (.k 0) (.q ((!((1024:Int)==0)) || !(!(x0==0))) (.b (aL (x0==0) ((Int.tmod x0 1024)!=0)) (.k 1) (.q (!((1048576:Int)==0)) (.b ((Int.tmod x0 1048576)!=0) (.k 1024) (.q (!((1073741824:Int)==0)) (.b ((Int.tmod x0 1073741824)!=0) (.k 1048576) (.k 1073741824)))))))
def D8(x0:Int):=(wh x0).o
def OH:=Np.f0 167 [.int] [.int] (fun a=>wh a) Tryz.func167
inductive Br where
 | e (x0:Int)
 | h0 (v0:Int) (v1:aqO)
def sN:Br->Te ((aqO)) Br
 | .e x0=>.g (.h0 x0 [])
 | .h0 v0 v1=>.l (!((10:Int)==0)) fun z3=>.l (IntKind.wrap .u8 (IntKind.wrap .u64 (48+v0))) fun z2=>.l (IntKind.wrap .u8 (IntKind.wrap .u64 (48+(Int.tmod v0 10)))) fun z1=>.b (bV 10 v0) (.q z3 (.q (decide ((List.map (fun y=>UInt8.ofNat (Int.toNat y)) [z1]).length+v1.length<=aA)) (.q z3 (.g (.h0 (IntKind.wrap .u64 (Int.tdiv v0 10)) ((List.map (fun y=>UInt8.ofNat (Int.toNat y)) [z1])++v1)))))) (.q (decide ((List.map (fun y=>UInt8.ofNat (Int.toNat y)) [z2]).length+v1.length<=aA)) (.k ((List.map (fun y=>UInt8.ofNat (Int.toNat y)) [z2])++v1)))
def sO(x0:Int):=mu sN (.e x0)
def LV:=OH.fl 178 [.u64] [.str] sN (fun a=>.e a) (fun | .e x0=>.e [⟨.u64,x0⟩] | .h0 v0 v1=>.h 0 ⟨23,[(0,.d (.int .u64 v0)),(3,.d (.str v1))],[],0⟩) { live:=[(0,[0,3])] } Tryz.func178
def wm(x0:Int):Te ((aqO)) Empty:=.l (IntKind.wrap .u64 x0) fun z1=>.b (aF x0 0) (.c (sO (IntKind.wrap .u64 (0-z1))) fun y1=>.q (decide (([45]:aqO).length+y1.length<=aA)) (.k (([45]:aqO)++y1))) (.c (sO z1) fun y2=>.k y2)
def fK(x0:Int):=(wm x0).o
def OI:=LV.f0 139 [.int] [.str] (fun a=>wm a) Tryz.func139
def wo(x0:Int):Te ((aqO)) Empty:=.c (D8 x0) fun y1=>.b (y1==0) (.k []) (.q (!(y1==0)) (.c (fK (ak (Int.tdiv x0 y1))) fun y2=>.b (y1==1024) (.q (decide (y2.length+([107]:aqO).length<=aA)) (.k (y2++([107]:aqO)))) (.b (y1==1048576) (.q (decide (y2.length+([109]:aqO).length<=aA)) (.k (y2++([109]:aqO)))) (.b (y1==1073741824) (.q (decide (y2.length+([103]:aqO).length<=aA)) (.k (y2++([103]:aqO)))) (.k y2)))))
def D9(x0:Int):=(wo x0).o
def OJ:=OI.f0 125 [.int] [.str] (fun a=>wo a) Tryz.func125
def Ea(x0:aqO):Te (Node) Empty:=.k ⟨1,x0,[],[]⟩
def ay(x0:aqO):=(Ea x0).o
def OL:=OJ.f0 124 [.str] [.ah] (fun a=>Ea a) Tryz.func124
def xM(x0:Node)(x1:Int):Te (Node×Bool) Empty:=.l (aj x0) fun z1=>.b (x0.kind != 1) (.k (⟨0,[],[],[]⟩,false)) (.b (x1==0) (.c (Ch x0.text) fun y1=>.b (!y1) (.k (⟨0,[],[],[]⟩,false)) (.k (z1,true))) (.b (x1==1) (.c (uL x0.text) fun y2=>.b (!(aab (y2.2==0) (aF 0 y2.1))) (.k (⟨0,[],[],[]⟩,false)) (.k (z1,true))) (.b (x1==2) (.c (uN x0.text) fun y3=>.c (D9 (y3.1)) fun y4=>.c (ay y4) fun y5=>.b (!(aab (y3.2==0) (aF 0 y3.1))) (.k (⟨0,[],[],[]⟩,false)) (.k (aj y5,true))) (.b (x1==3) (.c (dI x0.text 8) fun y6=>.b (!(y6.2==0)) (.k (⟨0,[],[],[]⟩,false)) (.k (z1,true))) (.b (!(aab (bV 1 (aC x0.text)) (bV (aC x0.text) 64))) (.k (⟨0,[],[],[]⟩,false)) (.k (z1,true)))))))
def Fw(x0:Node)(x1:Int):=(xM x0 x1).o
def QV:=OL.f0 54 [.ah,.int] [.ah,.bool] (fun a=>xM a.1 a.2) Tryz.func54
inductive Ck where
 | e (x0:Node)
 | h0 (v0:Nat) (v1:Int) (v2:Node) (v3:List (aqO))
def oU:Ck->Te ((List (aqO))×Bool) Ck
 | .e x0=>.b (aL (x0.kind != 2) (aF 32 (aC x0.kids))) (.k ([],false)) (.g (.h0 0 0 x0 []))
 | .h0 _ v1 v2 v3=>.b (aF v1 (aC v2.kids)) (.i v2.kids v1 fun y1=>.l (v3.length+([y1.text]:List (aqO)).length) fun z1=>.b (y1.kind != 1) (.k (v3,false)) (.q (fZ v2.kids v1) (.q (decide (z1*16<=aB)) (.g (.h0 z1 (ak (v1+1)) v2 (v3++([y1.text]:List (aqO)))))))) (.k (v3,true))
def jK(x0:Node):=mu oU (.e x0)
def Nq:=QV.fl 80 [.ah] [.cu,.bool] oU (fun a=>.e a) (fun | .e x0=>.e [⟨.ah,x0⟩] | .h0 v0 v1 v2 v3=>.h 0 ⟨42,[(1,.ptr 0 0),(4,.row .str v0 1),(5,.d (.int .i64 v1))],[(0,.box [.d (.int .i64 v2.kind),.d (.str v2.text),.d (.slice .str v2.keys),.d (.slice .ah v2.kids)]),(1,.row .str v3)],2⟩) { live:=[(0,[1,4,5])] } Tryz.func80
def Cm(x0:Int):Te (Bool) Empty:=.k (aL (x0==32) (x0==9))
def uO(x0:Int):=(Cm x0).o
def Nr:=Nq.f0 168 [.byte] [.bool] (fun a=>Cm a) Tryz.func168
inductive oW where
 | e (x0:aqO) (x1:Int)
 | h0 (v0:aqO) (v1:Int) (v2:Int)
 | h1 (v0:aqO) (v1:Int) (v2:aqO)
def lG:oW->Te ((aqO)×Int) oW
 | .e x0 x1=>.l (ak (x1+2)) fun z2=>.l (ak (x1+1)) fun z1=>.s x0 x1 fun y1=>.b (y1==92) (.b (z1==aC x0) (.k ([],(-1))) (.q (bN x0 z1 z2) (.k (cut x0 z1 z2,z2)))) (.b (y1==39) (.g (.h0 x0 x1 z1)) (.b (y1 != 34) (.q (bN x0 x1 z1) (.k (cut x0 x1 z1,z1))) (.g (.h1 x0 z1 []))))
 | .h0 v0 v1 v2=>.b (aF v2 (aC v0)) (.s v0 v2 fun y1=>.b (y1==39) (.q (bN v0 (ak (v1+1)) v2) (.k (cut v0 (ak (v1+1)) v2,ak (v2+1)))) (.g (.h0 v0 v1 (ak (v2+1))))) (.k ([],(-1)))
 | .h1 v0 v1 v2=>.l (ak (v1+1)) fun z1=>.l (v2++cut v0 v1 z1) fun z4=>.l (decide (v2.length+(cut v0 v1 z1).length<=aA)) fun z3=>.l (ak (z1+1)) fun z2=>.l (cut v0 z1 z2) fun z5=>.b (aF v1 (aC v0)) (.s v0 v1 fun y1=>.b (y1==34) (.k (v2,z1)) (.q (fZ v0 v1) (.b (y1==92) (.b (z1==aC v0) (.k ([],(-1))) (.s v0 z1 fun y3=>.q ((bV 0 z1&&aF z1 (aC v0)) || !(y3 != 34)) (.b (aab (y3 != 34) (y3 != 92)) (.q (bN v0 v1 z1) (.q z3 (.q (bN v0 z1 z2) (.q (decide (z4.length+z5.length<=aA)) (.g (.h1 v0 z2 (z4++z5))))))) (.q (bN v0 z1 z2) (.q (decide (v2.length+z5.length<=aA)) (.g (.h1 v0 z2 (v2++z5)))))))) (.q (bN v0 v1 z1) (.q z3 (.g (.h1 v0 z1 z4))))))) (.k ([],(-1)))
def Cn(x0:aqO)(x1:Int):=mu lG (.e x0 x1)
def Ns:=Nr.fl 169 [.str,.int] [.str,.int] lG (fun a=>.e a.1 a.2) (fun | .e x0 x1=>.e [⟨.str,x0⟩,⟨.int,x1⟩] | .h0 v0 v1 v2=>.h 0 ⟨109,[(0,.d (.str v0)),(1,.d (.int .i64 v1)),(7,.d (.int .i64 v2))],[],0⟩ | .h1 v0 v1 v2=>.h 1 ⟨109,[(0,.d (.str v0)),(1,.d (.int .i64 v1)),(8,.d (.str v2))],[],0⟩) { live:=[(0,[0,1,7]),(1,[0,1,8])] } Tryz.func169
inductive oZ where
 | e (x0:aqO)
 | h0 (v0:aqO) (v1:Nat) (v2:Int) (v3:List (aqO))
 | h1 (v0:aqO) (v1:Nat) (v2:Int) (v3:aqO) (v4:List (aqO))
def o7:oZ->Te ((List (aqO))×Int) oZ
 | .e x0=>.g (.h0 x0 0 0 [])
 | .h0 v0 v1 v2 v3=>.b (aF v2 (aC v0)) (.s v0 v2 fun y1=>.c (uO y1) fun y2=>.b y2 (.g (.h0 v0 v1 (ak (v2+1)) v3)) (.g (.h1 v0 v1 v2 [] v3))) (.b (aF 32 ((v1:Nat):Int)) (.k ([],9)) (.k (v3,0)))
 | .h1 v0 v1 v2 v3 v4=>.l (aF v2 (aC v0)) fun z3=>.l (uO (sH v0 v2)) fun z2=>.l (v4.length+([v3]:List (aqO)).length) fun z1=>.q ((bV 0 v2&&aF v2 (aC v0)) || !z3) (.q ((z2.isSome) || !z3) (.b (aab z3 (!(gv z2))) (.c (Cn v0 v2) fun y1=>.b (aF y1.2 0) (.k ([],3)) (.q (decide (v3.length+(y1.1).length<=aA)) (.g (.h1 v0 v1 (y1.2) (v3++y1.1) v4)))) (.q (decide (z1*16<=aB)) (.g (.h0 v0 z1 v2 (v4++([v3]:List (aqO))))))))
def uP(x0:aqO):=mu o7 (.e x0)
def Nt:=Ns.fl 127 [.str] [.cu,.aW] o7 (fun a=>.e a) (fun | .e x0=>.e [⟨.str,x0⟩] | .h0 v0 v1 v2 v3=>.h 0 ⟨51,[(0,.d (.str v0)),(4,.row .str v1 0),(5,.d (.int .i64 v2))],[(0,.row .str v3)],1⟩ | .h1 v0 v1 v2 v3 v4=>.h 1 ⟨51,[(0,.d (.str v0)),(4,.row .str v1 0),(5,.d (.int .i64 v2)),(6,.d (.str v3))],[(0,.row .str v4)],1⟩) { live:=[(0,[0,4,5]),(1,[0,4,5,6])] } Tryz.func127
inductive Co where
 | e (x0:Node)
 | h0 (v0:List (aqO)) (v1:Int) (v2:Int) (v3:aqO) (v4:Int) (v5:aqO) (v6:List Node)
def o8:Co->Te (Node×Bool) Co
 | .e x0=>.c (jK (aj x0)) fun y1=>.b (x0.kind==1) (.c (uP x0.text) fun y2=>.b (!(y2.2==0)) (.k (⟨0,[],[],[]⟩,false)) (.g (.h0 (y2.1) 0 0 [] 2 [] []))) (.b (!y1.2) (.k (⟨0,[],[],[]⟩,false)) (.g (.h0 (y1.1) 0 0 [] 2 [] [])))
 | .h0 v0 v1 v2 v3 v4 v5 v6=>.b (aF v1 (aC v0)) (.i v0 v1 fun y1=>.c (ay y1) fun y2=>.q (decide ((v6.length+([y2]:List Node).length)*72<=aB)) (.g (.h0 v0 (ak (v1+1)) v2 v3 v4 v5 (v6++([y2]:List Node))))) (.k (⟨v4,v5,[],v6⟩,true))
def Cq(x0:Node):=mu o8 (.e x0)
def Nu:=Nt.fl 55 [.ah] [.ah,.bool] o8 (fun a=>.e a) (fun | .e x0=>.e [⟨.ah,x0⟩] | .h0 v0 v1 v2 v3 v4 v5 v6=>.h 0 ⟨48,[(2,.ptr 0 0),(4,.d (.slice .str v0)),(8,.ptr 1 0),(9,.d (.int .i64 v1))],[(0,.box [.d (.int .i64 v2),.d (.str v3),.d (.raw (.slice none 0 0)),.d (.raw (.slice none 0 0))]),(1,.box [.d (.int .i64 v4),.d (.str v5),.d (.raw (.slice none 0 0)),.grow .ah v6 2]),(2,.tail true)],3⟩) { live:=[(0,[2,4,8,9])],oC:=[(0,[(8,some 3,true,.ah)])] } Tryz.func55
def Fx(x0:aqO)(x1:Bool):Te (Bool) Empty:=.b x1 (.k ((cO K4) x0)) (.k ((cO gJ) x0))
def xO(x0:aqO)(x1:Bool):=(Fx x0 x1).o
def QW:=((Nu.W 78 QC alb).W 170 Na aiz).f0 128 [.str,.bool] [.bool] (fun a=>Fx a.1 a.2) Tryz.func128
def wu(x0:Node)(x1:Bool):Te (Node×Bool) Empty:=.b (aL (!x1) (aF 32 (aC x0.keys))) (.k (⟨0,[],[],[]⟩,false)) (.q ((wg 10000 12) ⟨3,x0.text,x0.keys,x0.kids⟩) (.k (aj ((aQ 12) ⟨3,x0.text,x0.keys,x0.kids⟩),true)))
def aG(x0:Node)(x1:Bool):=(wu x0 x1).o
def OM:=(QW.W 14 (kN 12) (H8 12)).f0 81 [.ah,.bool] [.ah,.bool] (fun a=>wu a.1 a.2) Tryz.func81
inductive o9 where
 | e (x0:Node) (x1:Bool)
 | h0 (v0:Bool) (v1:List (aqO)) (v2:Int) (v3:Int) (v4:aqO) (v5:Node)
 | h1 (v0:Bool) (v1:List (aqO)) (v2:Int) (v3:Int) (v4:Int) (v5:aqO) (v6:Node)
 | h2 (v0:Bool) (v1:Int) (v2:Node) (v3:Int) (v4:aqO) (v5:Node)
def jL:o9->Te (Node×Bool) o9
 | .e x0 x1=>.c (jK (aj x0)) fun y1=>.b y1.2 (.g (.h0 x1 (y1.1) 0 0 [] ⟨0,[],[],[]⟩)) (.b (x0.kind != 3) (.k (⟨0,[],[],[]⟩,false)) (.g (.h2 x1 0 x0 0 [] ⟨0,[],[],[]⟩)))
 | .h0 v0 v1 v2 v3 v4 v5=>.b (aF v2 (aC v1)) (.g (.h1 v0 v1 v2 0 v3 v4 v5)) (.c (aG (aj v5) true) fun y1=>.k (aj (y1.1),y1.2))
 | .h1 v0 v1 v2 v3 v4 v5 v6=>.l (ak (v3+1)) fun z3=>.l (aj v6) fun z2=>.l (fZ v1 v2) fun z1=>.i v1 v2 fun y1=>.l (aF v3 (aC y1)) fun z5=>.l (cut y1 0 v3) fun z4=>.l (xO z4 v0) fun z7=>.l ((fun l _=>nL l) v6.keys z4) fun z6=>.q ((bV 0 v2&&aF v2 (aC v1)) || !z5) (.q ((bV 0 v3&&aF v3 (aC y1)) || !z5) (.b (aab z5 (sH y1 v3 != 61)) (.g (.h1 v0 v1 v2 z3 v4 v5 v6)) (.q z1 (.b z5 (.q z1 (.q (bN y1 z3 (aC y1)) (.q z1 (.q (bN y1 0 v3) (.c z7 fun y5=>.q (z6 || !(!(!y5))) (.b (aL (!y5) (eF v6.keys z4)) (.k (⟨0,[],[],[]⟩,false)) (.c (ay (cut y1 z3 (aC y1))) fun y6=>.q (gY z2 z4 y6) (.g (.h0 v0 v1 (ak (v2+1)) v4 v5 (aY z2 z4 y6)))))))))) (.q z1 (.q (bN y1 0 v3) (.c z7 fun y8=>.q (z6 || !(!(!y8))) (.b (aL (!y8) (eF v6.keys z4)) (.k (⟨0,[],[],[]⟩,false)) (.c (ay []) fun y9=>.q (gY z2 z4 y9) (.g (.h0 v0 v1 (ak (v2+1)) v4 v5 (aY z2 z4 y9))))))))))))
 | .h2 v0 v1 v2 v3 v4 v5=>.l (aj v5) fun z1=>.b (aF v1 (aC v2.keys)) (.i v2.keys v1 fun y1=>.c (xO y1 v0) fun y2=>.q ((bV 0 v1&&aF v1 (aC v2.kids)) || !(!(!y2))) (.b (aL (!y2) (aF 1 (zL v2.kids v1 (dflt .ah)).kind)) (.k (⟨0,[],[],[]⟩,false)) (.q (fZ v2.keys v1) (.i v2.kids v1 fun y4=>.c (ay (y4.text)) fun y5=>.q (gY z1 y1 y5) (.g (.h2 v0 (ak (v1+1)) v2 v3 v4 (aY z1 y1 y5))))))) (.c (aG z1 true) fun y6=>.k (aj (y6.1),y6.2))
def Cr(x0:Node)(x1:Bool):=mu jL (.e x0 x1)
def Nv:=((OM.W 10 apM aAR).W 24 acO avu).fl 56 [.ah,.bool] [.ah,.bool] jL (fun a=>.e a.1 a.2) (fun | .e x0 x1=>.e [⟨.ah,x0⟩,⟨.bool,x1⟩] | .h0 v0 v1 v2 v3 v4 v5=>.h 0 ⟨132,[(1,.d (.bool v0)),(4,.ptr 0 0),(6,.ptr 1 0),(7,.d (.slice .str v1)),(9,.d (.int .i64 v2))],[(0,.box [.d (.int .i64 v3),.d (.str v4),.d (.raw (.slice none 0 0)),.d (.raw (.slice none 0 0))]),(1,.box [.d (.int .i64 v5.kind),.d (.str v5.text),.d (.slice .str v5.keys),.d (.slice .ah v5.kids)])],2⟩ | .h1 v0 v1 v2 v3 v4 v5 v6=>.h 1 ⟨132,[(1,.d (.bool v0)),(4,.ptr 0 0),(6,.ptr 1 0),(7,.d (.slice .str v1)),(9,.d (.int .i64 v2)),(10,.d (.int .i64 v3))],[(0,.box [.d (.int .i64 v4),.d (.str v5),.d (.raw (.slice none 0 0)),.d (.raw (.slice none 0 0))]),(1,.box [.d (.int .i64 v6.kind),.d (.str v6.text),.d (.slice .str v6.keys),.d (.slice .ah v6.kids)])],2⟩ | .h2 v0 v1 v2 v3 v4 v5=>.h 2 ⟨132,[(1,.d (.bool v0)),(2,.ptr 0 0),(4,.ptr 1 0),(6,.ptr 2 0),(13,.d (.int .i64 v1))],[(0,.box [.d (.int .i64 v2.kind),.d (.str v2.text),.d (.slice .str v2.keys),.d (.slice .ah v2.kids)]),(1,.box [.d (.int .i64 v3),.d (.str v4),.d (.raw (.slice none 0 0)),.d (.raw (.slice none 0 0))]),(2,.box [.d (.int .i64 v5.kind),.d (.str v5.text),.d (.slice .str v5.keys),.d (.slice .ah v5.kids)])],3⟩) { live:=[(0,[1,4,6,7,9]),(1,[1,4,6,7,9,10]),(2,[1,2,4,6,13])],oC:=[(0,[(6,some 2,false,.str),(6,some 3,false,.ah)]),(2,[(6,some 2,false,.str),(6,some 3,false,.ah)])] } Tryz.func56
inductive Fy where
 | e (x0:Node)
 | h0 (v0:List (aqO)) (v1:Bool) (v2:Int) (v3:Node) (v4:Int) (v5:aqO)
 | h1 (v0:List (aqO)) (v1:Bool) (v2:Int) (v3:Int) (v4:aqO) (v5:Node)
def nA:Fy->Te (Node×Bool) Fy
 | .e x0=>.c (jK (aj x0)) fun y1=>.b (aab (x0.kind==3) (bV (aC x0.keys) 32)) (.g (.h0 x0.keys true 0 x0 0 [])) (.g (.h1 (y1.1) (y1.2) 0 0 [] ⟨0,[],[],[]⟩))
 | .h0 v0 v1 v2 v3 v4 v5=>.l (bV 0 v2&&aF v2 (aC v3.kids)) fun z1=>.b (aF v2 (aC v3.kids)) (.i v3.kids v2 fun y1=>.l (y1.kind != 0) fun z2=>.q (z1 || !z2) (.q (z1 || !(z2&&(!(y1.kind != 3)))) (.b (aab z2 (aL (y1.kind != 3) (aF 0 (aC (y1.keys))))) (.g (.h0 v0 false (ak (v2+1)) v3 v4 v5)) (.g (.h0 v0 v1 (ak (v2+1)) v3 v4 v5))))) (.g (.h1 v0 v1 0 v4 v5 ⟨0,[],[],[]⟩))
 | .h1 v0 v1 v2 v3 v4 v5=>.l (aj v5) fun z1=>.b (aab (aF v2 (aC v0)) v1) (.i v0 v2 fun y1=>.q (fZ v0 v2) (.q (gY z1 y1 ⟨0,[],[],[]⟩) (.g (.h1 v0 ((cO gJ) y1) (ak (v2+1)) v3 v4 (aY z1 y1 ⟨0,[],[],[]⟩))))) (.c (aG z1 v1) fun y3=>.k (aj (y3.1),y3.2))
def xP(x0:Node):=mu nA (.e x0)
def QX:=Nv.fl 34 [.ah] [.ah,.bool] nA (fun a=>.e a) (fun | .e x0=>.e [⟨.ah,x0⟩] | .h0 v0 v1 v2 v3 v4 v5=>.h 0 ⟨85,[(1,.ptr 0 0),(2,.ptr 1 0),(4,.d (.slice .str v0)),(5,.d (.bool v1)),(6,.d (.int .i64 v2))],[(0,.box [.d (.int .i64 v3.kind),.d (.str v3.text),.d (.slice .str v3.keys),.d (.slice .ah v3.kids)]),(1,.box [.d (.int .i64 v4),.d (.str v5),.d (.raw (.slice none 0 0)),.d (.raw (.slice none 0 0))])],2⟩ | .h1 v0 v1 v2 v3 v4 v5=>.h 1 ⟨85,[(2,.ptr 0 0),(4,.d (.slice .str v0)),(5,.d (.bool v1)),(7,.ptr 1 0),(8,.d (.int .i64 v2))],[(0,.box [.d (.int .i64 v3),.d (.str v4),.d (.raw (.slice none 0 0)),.d (.raw (.slice none 0 0))]),(1,.box [.d (.int .i64 v5.kind),.d (.str v5.text),.d (.slice .str v5.keys),.d (.slice .ah v5.kids)])],2⟩) { live:=[(0,[1,2,4,5,6]),(1,[2,4,5,7,8])],oC:=[(1,[(7,some 2,false,.str),(7,some 3,false,.ah)])] } Tryz.func34
inductive FB where
 | e (x0:aqO) (x1:Int)
 | h0 (v0:aqO) (v1:Int) (v2:Nat) (v3:Int) (v4:Int) (v5:List (aqO))
def xQ:FB->Te ((List (aqO))) FB
 | .e x0 x1=>.g (.h0 x0 x1 0 0 0 [])
 | .h0 v0 v1 v2 v3 v4 v5=>.l (cut v0 v3 (aC v0)) fun z3=>.l (ak (v4+1)) fun z2=>.l (v5.length+([cut v0 v3 v4]:List (aqO)).length) fun z1=>.b (aF v4 (aC v0)) (.s v0 v4 fun y1=>.b (y1==v1) (.q (bN v0 v3 v4) (.q (decide (z1*16<=aB)) (.g (.h0 v0 v1 z1 z2 z2 (v5++([cut v0 v3 v4]:List (aqO))))))) (.g (.h0 v0 v1 v2 v3 z2 v5))) (.q (bN v0 v3 (aC v0)) (.q (decide ((v5.length+([z3]:List (aqO)).length)*16<=aB)) (.k (v5++([z3]:List (aqO))))))
def jB(x0:aqO)(x1:Int):=mu xQ (.e x0 x1)
def QY:=QX.fl 203 [.str,.byte] [.cu] xQ (fun a=>.e a.1 a.2) (fun | .e x0 x1=>.e [⟨.str,x0⟩,⟨.byte,x1⟩] | .h0 v0 v1 v2 v3 v4 v5=>.h 0 ⟨35,[(0,.d (.str v0)),(1,.d (.int .u8 v1)),(5,.row .str v2 0),(6,.d (.int .i64 v3)),(7,.d (.int .i64 v4))],[(0,.row .str v5)],1⟩) { live:=[(0,[0,1,5,6,7])] } Tryz.func203
inductive Ae where
 | e (x0:aqO)
 | h0 (v0:List (aqO)) (v1:Int)
def nC:Ae->Te (Bool) Ae
 | .e x0=>.c (jB x0 46) fun y1=>.b (aC y1 != 4) (.k false) (.g (.h0 y1 0))
 | .h0 v0 v1=>.b (aF v1 4) (.i v0 v1 fun y1=>.c (dI y1 255) fun y2=>.b (y2.2 != 0) (.k false) (.g (.h0 v0 (ak (v1+1))))) (.k true)
def Af(x0:aqO):=mu nC (.e x0)
def Lb:=QY.fl 230 [.str] [.bool] nC (fun a=>.e a) (fun | .e x0=>.e [⟨.str,x0⟩] | .h0 v0 v1=>.h 0 ⟨26,[(3,.d (.slice .str v0)),(4,.d (.int .i64 v1))],[],0⟩) { live:=[(0,[3,4])] } Tryz.func230
def uQ(x0:Port):Te (Bool) Empty:=.l (aC x0.host==0) fun z2=>.l (Af x0.host) fun z1=>.b (aL (aL (aL (aF x0.iP 1) (aF 65535 x0.iP)) (aF x0.out 0)) (aF 65535 x0.out)) (.k false) (.b (aab (!(x0.proto==[116,99,112])) (!(x0.proto==[117,100,112]))) (.k false) (.q ((z1.isSome) || !(!z2)) (.k (aL z2 (gv z1)))))
def bE(x0:Port):=(uQ x0).o
def Nw:=Lb.f0 204 [.jl] [.bool] (fun a=>uQ a) Tryz.func204
def uR(x0:aqO):Te (Port×Int) Empty:=.l (ak (aC x0-3)) fun z5=>.l (dflt .str) fun z4=>.l (aF 4 (aC x0)) fun z3=>.l (ak (aC x0-4)) fun z2=>.l (cut x0 z2 (aC x0)) fun z8=>.l (aab z3 (z8==[47,116,99,112])) fun z7=>.l (bV 0 z2&&bV z2 (aC x0)&&bV (aC x0) (aC x0)) fun z6=>.l (cut x0 z5 (aC x0)) fun z1=>.q (z6 || !z3) (.q (z6 || !((!z7)&&z3)) (.b (aL z7 (aab z3 (z8==[47,117,100,112]))) (.q (bN x0 z5 (aC x0)) (.q (bN x0 0 z2) (.c (jB (cut x0 0 z2) 58) fun y1=>.l (aC y1==3) fun z9=>.q ((bV 0 0&&aF 0 (aC y1)) || !((!(aF 3 (aC y1)))&&z9)) (.b (aL (aF 3 (aC y1)) (aab z9 (aC (zL y1 0 z4)==0))) (.k (⟨[],0,0,[]⟩,3)) (.i y1 (ak (aC y1-1)) fun y2=>.c (dI y2 65535) fun y3=>.l (bE ⟨[],0,y3.1,z1⟩) fun zP=>.l (y3.2 != 0) fun rJ=>.q ((bV 0 1&&aF 1 (aC y1)) || !(aF 1 (aC y1)&&(!(aC y1==2)))) (.b (aab (aF 1 (aC y1)) (aL (aC y1==2) (aF 0 (aC (zL y1 1 z4))))) (.i y1 (ak (aC y1-2)) fun y4=>.c (dI y4 65535) fun y5=>.l (bE ⟨[],y5.1,y3.1,z1⟩) fun z12=>.b (aL (y5.2 != 0) (y5.1==0)) (.k (⟨[],0,0,[]⟩,3)) (.b z9 (.i y1 0 fun y6=>.l (bE ⟨y6,y5.1,y3.1,z1⟩) fun z13=>.q ((z13.isSome) || !(!rJ)) (.b (aL rJ (!(gv z13))) (.k (⟨[],0,0,[]⟩,3)) (.k (⟨y6,y5.1,y3.1,z1⟩,0)))) (.q ((z12.isSome) || !(!rJ)) (.b (aL rJ (!(gv z12))) (.k (⟨[],0,0,[]⟩,3)) (.k (⟨[],y5.1,y3.1,z1⟩,0)))))) (.b z9 (.i y1 0 fun y7=>.l (bE ⟨y7,0,y3.1,z1⟩) fun z14=>.q ((z14.isSome) || !(!rJ)) (.b (aL rJ (!(gv z14))) (.k (⟨[],0,0,[]⟩,3)) (.k (⟨y7,0,y3.1,z1⟩,0)))) (.q ((zP.isSome) || !(!rJ)) (.b (aL rJ (!(gv zP))) (.k (⟨[],0,0,[]⟩,3)) (.k (⟨[],0,y3.1,z1⟩,0))))))))))) (.c (jB x0 58) fun y8=>.l (aC y8==3) fun jv=>.q ((bV 0 0&&aF 0 (aC y8)) || !((!(aF 3 (aC y8)))&&jv)) (.b (aL (aF 3 (aC y8)) (aab jv (aC (zL y8 0 z4)==0))) (.k (⟨[],0,0,[]⟩,3)) (.i y8 (ak (aC y8-1)) fun y9=>.c (dI y9 65535) fun ig=>.l (bE ⟨[],0,ig.1,[116,99,112]⟩) fun z17=>.l (ig.2 != 0) fun jD=>.q ((bV 0 1&&aF 1 (aC y8)) || !(aF 1 (aC y8)&&(!(aC y8==2)))) (.b (aab (aF 1 (aC y8)) (aL (aC y8==2) (aF 0 (aC (zL y8 1 z4))))) (.i y8 (ak (aC y8-2)) fun wW=>.c (dI wW 65535) fun mX=>.l (bE ⟨[],mX.1,ig.1,[116,99,112]⟩) fun jZ=>.b (aL (mX.2 != 0) (mX.1==0)) (.k (⟨[],0,0,[]⟩,3)) (.b jv (.i y8 0 fun y13=>.l (bE ⟨y13,mX.1,ig.1,[116,99,112]⟩) fun yu=>.q ((yu.isSome) || !(!jD)) (.b (aL jD (!(gv yu))) (.k (⟨[],0,0,[]⟩,3)) (.k (⟨y13,mX.1,ig.1,[116,99,112]⟩,0)))) (.q ((jZ.isSome) || !(!jD)) (.b (aL jD (!(gv jZ))) (.k (⟨[],0,0,[]⟩,3)) (.k (⟨[],mX.1,ig.1,[116,99,112]⟩,0)))))) (.b jv (.i y8 0 fun zu=>.l (bE ⟨zu,0,ig.1,[116,99,112]⟩) fun z20=>.q ((z20.isSome) || !(!jD)) (.b (aL jD (!(gv z20))) (.k (⟨[],0,0,[]⟩,3)) (.k (⟨zu,0,ig.1,[116,99,112]⟩,0)))) (.q ((z17.isSome) || !(!jD)) (.b (aL jD (!(gv z17))) (.k (⟨[],0,0,[]⟩,3)) (.k (⟨[],0,ig.1,[116,99,112]⟩,0)))))))))))
def Ct(x0:aqO):=(uR x0).o
def Ny:=Nw.f0 171 [.str] [.jl,.aW] (fun a=>uR a) Tryz.func171
def wz(x0:Port):Te ((aqO)) Empty:=.l (fK x0.out) fun z6=>.l (aF 0 (aC x0.host)) fun z5=>.l (([]:aqO)++([58]:aqO)) fun z4=>.l (x0.proto==[117,100,112]) fun z3=>.l (fK x0.iP) fun z2=>.l (x0.host++([58]:aqO)) fun z1=>.l (z1++([58]:aqO)) fun z7=>.c (bE x0) fun y1=>.b (!y1) (.k []) (.b z5 (.q (decide (x0.host.length+([58]:aqO).length<=aA)) (.b (aF 0 x0.out) (.c z6 fun y2=>.l ((z1++y2)++([58]:aqO)) fun z8=>.q (decide (z1.length+y2.length<=aA)) (.q (decide ((z1++y2).length+([58]:aqO).length<=aA)) (.c z2 fun y3=>.q (decide (z8.length+y3.length<=aA)) (.b z3 (.q (decide ((z8++y3).length+([47,117,100,112]:aqO).length<=aA)) (.k ((z8++y3)++([47,117,100,112]:aqO)))) (.k (z8++y3)))))) (.b z5 (.q (decide (z1.length+([58]:aqO).length<=aA)) (.c z2 fun y4=>.q (decide (z7.length+y4.length<=aA)) (.b z3 (.q (decide ((z7++y4).length+([47,117,100,112]:aqO).length<=aA)) (.k ((z7++y4)++([47,117,100,112]:aqO)))) (.k (z7++y4))))) (.c z2 fun y5=>.q (decide (z1.length+y5.length<=aA)) (.b z3 (.q (decide ((z1++y5).length+([47,117,100,112]:aqO).length<=aA)) (.k ((z1++y5)++([47,117,100,112]:aqO)))) (.k (z1++y5))))))) (.b (aF 0 x0.out) (.c z6 fun y6=>.l (([]:aqO)++y6) fun rJ=>.l (rJ++([58]:aqO)) fun z9=>.q (decide (([]:aqO).length+y6.length<=aA)) (.q (decide (rJ.length+([58]:aqO).length<=aA)) (.c z2 fun y7=>.q (decide (z9.length+y7.length<=aA)) (.b z3 (.q (decide ((z9++y7).length+([47,117,100,112]:aqO).length<=aA)) (.k ((z9++y7)++([47,117,100,112]:aqO)))) (.k (z9++y7)))))) (.b z5 (.q (decide (([]:aqO).length+([58]:aqO).length<=aA)) (.c z2 fun y8=>.q (decide (z4.length+y8.length<=aA)) (.b z3 (.q (decide ((z4++y8).length+([47,117,100,112]:aqO).length<=aA)) (.k ((z4++y8)++([47,117,100,112]:aqO)))) (.k (z4++y8))))) (.c z2 fun y9=>.l (([]:aqO)++y9) fun zP=>.q (decide (([]:aqO).length+y9.length<=aA)) (.b z3 (.q (decide (zP.length+([47,117,100,112]:aqO).length<=aA)) (.k (zP++([47,117,100,112]:aqO)))) (.k zP))))))
def wD(x0:Port):=(wz x0).o
def OO:=Ny.f0 172 [.jl] [.str] (fun a=>wz a) Tryz.func172
inductive Eb where
 | e (x0:Node) (x1:List (aqO))
 | h0 (v0:List (aqO)) (v1:Int) (v2:Node)
def qj:Eb->Te (Bool) Eb
 | .e x0 x1=>.b (x0.kind != 3) (.k false) (.g (.h0 x1 0 x0))
 | .h0 v0 v1 v2=>.b (aF v1 (aC v2.keys)) (.i v2.keys v1 fun y1=>.q ((fun l _=>nL l) v0 y1) (.b (!(eF v0 y1)) (.k false) (.g (.h0 v0 (ak (v1+1)) v2)))) (.k true)
def fM(x0:Node)(x1:List (aqO)):=mu qj (.e x0 x1)
def OP:=OO.fl 133 [.ah,.cu] [.bool] qj (fun a=>.e a.1 a.2) (fun | .e x0 x1=>.e [⟨.ah,x0⟩,⟨.cu,x1⟩] | .h0 v0 v1 v2=>.h 0 ⟨24,[(1,.d (.slice .str v0)),(2,.ptr 0 0),(5,.d (.int .i64 v1))],[(0,.box [.d (.int .i64 v2.kind),.d (.str v2.text),.d (.slice .str v2.keys),.d (.slice .ah v2.kids)])],1⟩) { live:=[(0,[1,2,5])] } Tryz.func133
def uS(x0:Node)(x1 x2:aqO):Te ((aqO)×Bool) Empty:=.l (aj x0) fun z1=>.q ((fun n _=>fit n) z1 x1) (.b (!(aD z1 x1)) (.k (x2,true)) (.k ((aJ z1 x1).text,((aJ z1 x1).kind==1))))
def bJ(x0:Node)(x1 x2:aqO):=(uS x0 x1 x2).o
def Nz:=(OP.W 37 aaV amP).f0 134 [.ah,.str,.str] [.str,.bool] (fun a=>uS a.1 a.2.1 a.2.2) Tryz.func134
def sP(x0:Node)(x1:aqO):Te (Int×Bool) Empty:=.l (aj x0) fun z1=>.q ((fun n _=>fit n) z1 x1) (.b (!(aD z1 x1)) (.k (0,true)) (.c (bJ z1 x1 []) fun y1=>.c (dI (y1.1) 65536) fun y2=>.k (y2.1,aab (aab y1.2 (y2.2==0)) (aF 0 y2.1))))
def oh(x0:Node)(x1:aqO):=(sP x0 x1).o
def LW:=Nz.f0 138 [.ah,.str] [.int,.bool] (fun a=>sP a.1 a.2) Tryz.func138
def rY(x0:Node):Te ((aqO)) Empty:=.l (aj x0) fun z1=>.b (x0.kind==1) (.c (Ct x0.text) fun y1=>.b (y1.2 != 0) (.k []) (.c (wD (y1.1)) fun y2=>.k y2)) (.c (fM z1 [[116,97,114,103,101,116],[112,117,98,108,105,115,104,101,100],[104,111,115,116,95,105,112],[112,114,111,116,111,99,111,108]]) fun y3=>.b (!y3) (.k []) (.c (oh z1 [116,97,114,103,101,116]) fun y4=>.c (oh z1 [112,117,98,108,105,115,104,101,100]) fun y5=>.c (bJ z1 [104,111,115,116,95,105,112] []) fun y6=>.c (bJ z1 [112,114,111,116,111,99,111,108] [116,99,112]) fun y7=>.b (aL (aL (aL (!y4.2) (!y5.2)) (!y6.2)) (!y7.2)) (.k []) (.c (wD ⟨y6.1,y5.1,y4.1,y7.1⟩) fun y8=>.k y8)))
def rZ(x0:Node):=(rY x0).o
def Lc:=LW.f0 129 [.ah] [.str] (fun a=>rY a) Tryz.func129
inductive uT where
 | e (x0:Node)
 | h0 (v0:Int) (v1:Node) (v2:Int) (v3:aqO) (v4:Node)
def pq:uT->Te (Node×Bool) uT
 | .e x0=>.b (aL (aF 32 (aC x0.kids)) (aF x0.kind 2)) (.k (⟨0,[],[],[]⟩,false)) (.g (.h0 0 x0 0 [] ⟨0,[],[],[]⟩))
 | .h0 v0 v1 v2 v3 v4=>.l (zL v1.keys v0 (dflt .str)) fun z5=>.l (bV 0 v0&&aF v0 (aC v1.keys)) fun z4=>.l (uT.h0 (ak (v0+1)) v1 v2 v3) fun z3=>.l (aj v4) fun z2=>.l (ay z5) fun z1=>.l (rZ (gv z1)) fun z6=>.b (aF v0 (aC v1.kids)) (.b (v1.kind==2) (.i v1.kids v0 fun y1=>.c (rZ (aj y1)) fun y2=>.b (y2==[]) (.k (⟨0,[],[],[]⟩,false)) (.q (gY z2 y2 ⟨0,[],[],[]⟩) (.g (z3 (aY z2 y2 ⟨0,[],[],[]⟩))))) (.i v1.kids v0 fun y3=>.l (y3.kind==0) fun z7=>.q (z4 || !z7) (.q ((z1.isSome) || !z7) (.q ((z6.isSome) || !z7) (.q (z4 || !z7) (.b (aab z7 (gv z6==z5)) (.i v1.keys v0 fun y4=>.b (y4==[]) (.k (⟨0,[],[],[]⟩,false)) (.q (gY z2 y4 ⟨0,[],[],[]⟩) (.g (z3 (aY z2 y4 ⟨0,[],[],[]⟩))))) (.b (([]:aqO)==[]) (.k (⟨0,[],[],[]⟩,false)) (.q (gY z2 [] ⟨0,[],[],[]⟩) (.g (z3 (aY z2 [] ⟨0,[],[],[]⟩))))))))))) (.c (aG z2 true) fun y5=>.k (aj (y5.1),y5.2))
def Cu(x0:Node):=mu pq (.e x0)
def NA:=Lc.fl 57 [.ah] [.ah,.bool] pq (fun a=>.e a) (fun | .e x0=>.e [⟨.ah,x0⟩] | .h0 v0 v1 v2 v3 v4=>.h 0 ⟨72,[(1,.ptr 0 0),(2,.ptr 1 0),(4,.ptr 2 0),(5,.d (.int .i64 v0))],[(0,.box [.d (.int .i64 v1.kind),.d (.str v1.text),.d (.slice .str v1.keys),.d (.slice .ah v1.kids)]),(1,.box [.d (.int .i64 v2),.d (.str v3),.d (.raw (.slice none 0 0)),.d (.raw (.slice none 0 0))]),(2,.box [.d (.int .i64 v4.kind),.d (.str v4.text),.d (.slice .str v4.keys),.d (.slice .ah v4.kids)])],3⟩) { live:=[(0,[1,2,4,5])],oC:=[(0,[(4,some 2,false,.str),(4,some 3,false,.ah)])] } Tryz.func57
inductive Ec where
 | e (x0:aqO)
 | h0 (v0:aqO) (v1:Int)
def ql:Ec->Te (Bool) Ec
 | .e x0=>.b (aL (aF (aC x0) 1) (aF 64 (aC x0))) (.k false) (.g (.h0 x0 0))
 | .h0 v0 v1=>.b (aF v1 (aC v0)) (.s v0 v1 fun y1=>.q ((bV 0 v1&&aF v1 (aC v0)) || !(y1 != 47)) (.b (aab (y1 != 47) (kM y1==0)) (.k false) (.g (.h0 v0 (ak (v1+1)))))) (.k true)
def wE(x0:aqO):=mu ql (.e x0)
def OQ:=(NA.W 79 Kg QB).fl 206 [.str] [.bool] ql (fun a=>.e a) (fun | .e x0=>.e [⟨.str,x0⟩] | .h0 v0 v1=>.h 0 ⟨29,[(0,.d (.str v0)),(3,.d (.int .i64 v1))],[],0⟩) { live:=[(0,[0,3])] } Tryz.func206
inductive Bt where
 | e (x0:aqO)
 | h0 (v0:aqO) (v1:Int) (v2:Int)
def om:Bt->Te (Bool) Bt
 | .e x0=>.c (wE x0) fun y1=>.q ((bV 0 0&&aF 0 (aC x0)) || !(!(!y1))) (.b (aL (!y1) (sH x0 0 != 47)) (.k false) (.b (x0==[47]) (.k true) (.g (.h0 x0 1 1))))
 | .h0 v0 v1 v2=>.l (cut v0 v1 v2) fun z2=>.l (ak (v2+1)) fun z1=>.b (bV v2 (aC v0)) (.q ((bV 0 v2&&aF v2 (aC v0)) || !(aF v2 (aC v0))) (.b (aab (aF v2 (aC v0)) (sH v0 v2 != 47)) (.g (.h0 v0 v1 z1)) (.q (bN v0 v1 v2) (.b (aL (aL (z2==[]) (z2==[46])) (z2==[46,46])) (.k false) (.g (.h0 v0 z1 z1)))))) (.k true)
def Bu(x0:aqO):=mu om (.e x0)
def LX:=OQ.fl 205 [.str] [.bool] om (fun a=>.e a) (fun | .e x0=>.e [⟨.str,x0⟩] | .h0 v0 v1 v2=>.h 0 ⟨48,[(0,.d (.str v0)),(3,.d (.int .i64 v1)),(4,.d (.int .i64 v2))],[],0⟩) { live:=[(0,[0,3,4])] } Tryz.func205
def uU(x0:fO):Te (Bool) Empty:=.l (sH x0.source 0) fun z2=>.l (bV 0 0&&aF 0 (aC x0.source)) fun z1=>.c (Bu x0.target) fun y1=>.b (!y1) (.k false) (.b (aL (aC x0.source==0) ((cO gJ) x0.source)) (.k true) (.c (wE x0.source) fun y2=>.q (z1 || !y2) (.q (z1 || !(y2&&(!(z2==47)))) (.k (aab y2 (aL (z2==47) (z2==46)))))))
def iq(x0:fO):=(uU x0).o
def NC:=LX.f0 174 [.gZ] [.bool] (fun a=>uU a) Tryz.func174
inductive uV where
 | e (x0:aqO)
 | h0 (v0:aqO) (v1:Int) (v2:Int) (v3:Int) (v4:fO) (v5:fO)
def lH:uV->Te (fO×Int) uV
 | .e x0=>.l (bV 3 (aC x0)) fun z2=>.l (ak (aC x0-3)) fun z1=>.l (cut x0 z1 (aC x0)) fun z5=>.l (z5==[58,114,111]) fun z4=>.l (bV 0 z1&&bV z1 (aC x0)&&bV (aC x0) (aC x0)) fun z3=>.q (z3 || !z2) (.q (z3 || !(z2&&(!z4))) (.b (aab z2 (aL z4 (z5==[58,114,119]))) (.s x0 (ak (aC x0-1)) fun y1=>.q (bN x0 0 z1) (.g (.h0 (cut x0 0 z1) (-1) 0 0 ⟨[],[],false⟩ ⟨[],[],(y1==111)⟩))) (.g (.h0 x0 (-1) 0 0 ⟨[],[],false⟩ ⟨[],[],false⟩))))
 | .h0 v0 v1 v2 v3 v4 v5=>.l (bN v0 (ak (v1+1)) (aC v0)) fun z2=>.l (cut v0 (ak (v1+1)) (aC v0)) fun z1=>.b (aF v3 (aC v0)) (.s v0 v3 fun y1=>.b (y1==58) (.g (.h0 v0 v3 (ak (v2+1)) (ak (v3+1)) v4 v5)) (.g (.h0 v0 v1 v2 (ak (v3+1)) v4 v5))) (.b (aL (aF 1 v2) (v1==0)) (.k (⟨[],[],false⟩,3)) (.b (v2==1) (.q (bN v0 0 v1) (.q z2 (.c (iq ⟨cut v0 0 v1,z1,v5.readOnly⟩) fun y2=>.b (!y2) (.k (⟨[],[],false⟩,3)) (.k (⟨cut v0 0 v1,z1,v5.readOnly⟩,0))))) (.q z2 (.c (iq ⟨v5.source,z1,v5.readOnly⟩) fun y3=>.b (!y3) (.k (⟨[],[],false⟩,3)) (.k (⟨v5.source,z1,v5.readOnly⟩,0))))))
def Cv(x0:aqO):=mu lH (.e x0)
def ND:=NC.fl 173 [.str] [.gZ,.aW] lH (fun a=>.e a) (fun | .e x0=>.e [⟨.str,x0⟩] | .h0 v0 v1 v2 v3 v4 v5=>.h 0 ⟨74,[(0,.d (.str v0)),(2,.ptr 0 0),(4,.ptr 1 0),(6,.d (.int .i64 v1)),(7,.d (.int .i64 v2)),(8,.d (.int .i64 v3))],[(0,.box [.d (.str v4.source),.d (.str v4.target),.d (.bool v4.readOnly)]),(1,.box [.d (.str v5.source),.d (.str v5.target),.d (.bool v5.readOnly)])],2⟩) { live:=[(0,[0,2,4,6,7,8])] } Tryz.func173
def uW(x0:Node)(x1 x2:aqO):Te ((aqO)×Bool) Empty:=.c (bJ (aj x0) x1 x2) fun y1=>.k (y1.1,aab y1.2 (aL (y1.1==[116,114,117,101]) (y1.1==[102,97,108,115,101])))
def fV(x0:Node)(x1 x2:aqO):=(uW x0 x1 x2).o
def NG:=ND.f0 135 [.ah,.str,.str] [.str,.bool] (fun a=>uW a.1 a.2.1 a.2.2) Tryz.func135
def qP(x0:Node):Te (fO×Bool) Empty:=.l (aj x0) fun z1=>.b (x0.kind==1) (.c (Cv x0.text) fun y1=>.k ((y1.1),(y1.2==0))) (.c (fM z1 [[115,111,117,114,99,101],[116,97,114,103,101,116],[114,101,97,100,95,111,110,108,121],[116,121,112,101]]) fun y2=>.b (!y2) (.k (⟨[],[],false⟩,false)) (.c (bJ z1 [115,111,117,114,99,101] []) fun y3=>.c (bJ z1 [116,97,114,103,101,116] []) fun y4=>.c (fV z1 [114,101,97,100,95,111,110,108,121] [102,97,108,115,101]) fun y5=>.l (aab (aab y3.2 y4.2) y5.2) fun z4=>.l (y5.1==[116,114,117,101]) fun z3=>.l (iq ⟨y3.1,y4.1,z3⟩) fun z2=>.c (bJ z1 [116,121,112,101] [98,105,110,100]) fun y6=>.q ((z2.isSome) || !(aab z4 y6.2)) (.k (⟨y3.1,y4.1,z3⟩,aab (aab (aab z4 y6.2) (gv z2)) (aL (aL (y6.1==[118,111,108,117,109,101]) (y6.1==[98,105,110,100])) (y6.1==[116,109,112,102,115]))))))
def zw(x0:Node):=(qP x0).o
def J4:=NG.f0 130 [.ah] [.gZ,.bool] (fun a=>qP a) Tryz.func130
def wF(x0:fO):Te ((aqO)) Empty:=.l (x0.source++([58]:aqO)) fun z1=>.l (z1++x0.target) fun z2=>.c (iq x0) fun y1=>.b (!y1) (.k []) (.b (aF 0 (aC x0.source)) (.q (decide (x0.source.length+([58]:aqO).length<=aA)) (.q (decide (z1.length+x0.target.length<=aA)) (.b x0.readOnly (.q (decide (z2.length+([58,114,111]:aqO).length<=aA)) (.k (z2++([58,114,111]:aqO)))) (.k z2)))) (.b x0.readOnly (.q (decide (x0.target.length+([58,114,111]:aqO).length<=aA)) (.k (x0.target++([58,114,111]:aqO)))) (.k x0.target)))
def Ed(x0:fO):=(wF x0).o
def OT:=J4.f0 131 [.gZ] [.str] (fun a=>wF a) Tryz.func131
inductive Bv where
 | e (x0:Node)
 | h0 (v0:Int) (v1:Node) (v2:Int) (v3:aqO) (v4:Node)
def oo:Bv->Te (Node×Bool) Bv
 | .e x0=>.b (aL (aF 32 (aC x0.kids)) (aF x0.kind 2)) (.k (⟨0,[],[],[]⟩,false)) (.g (.h0 0 x0 0 [] ⟨0,[],[],[]⟩))
 | .h0 v0 v1 v2 v3 v4=>.l (aj v4) fun z3=>.l (bV 0 v0&&aF v0 (aC v1.kids)) fun z2=>.l (v1.kind==3) fun z1=>.b (aF v0 (aC v1.kids)) (.i v1.kids v0 fun y1=>.l (y1.kind != 1) fun z4=>.c (zw (aj y1)) fun y2=>.l ((!(!y2.2))&&z1) fun z5=>.c (Ed (y2.1)) fun y3=>.l (aL z4 (!(y1.text==y3))) fun z6=>.q (z2 || !z5) (.q (z2 || !(z5&&(!z4))) (.q ((bV 0 v0&&aF v0 (aC v1.keys)) || !(z5&&(!z6))) (.b (aL (!y2.2) (aab z1 (aL z6 (!(zL v1.keys v0 (dflt .str)==(y2.1).target))))) (.k (⟨0,[],[],[]⟩,false)) (.c (ay y3) fun y4=>.q (gY z3 ((y2.1).target) y4) (.g (.h0 (ak (v0+1)) v1 v2 v3 (aY z3 ((y2.1).target) y4)))))))) (.c (aG z3 true) fun y5=>.k (aj (y5.1),y5.2))
def Bw(x0:Node):=mu oo (.e x0)
def LY:=OT.fl 58 [.ah] [.ah,.bool] oo (fun a=>.e a) (fun | .e x0=>.e [⟨.ah,x0⟩] | .h0 v0 v1 v2 v3 v4=>.h 0 ⟨85,[(1,.ptr 0 0),(2,.ptr 1 0),(4,.ptr 2 0),(5,.d (.int .i64 v0))],[(0,.box [.d (.int .i64 v1.kind),.d (.str v1.text),.d (.slice .str v1.keys),.d (.slice .ah v1.kids)]),(1,.box [.d (.int .i64 v2),.d (.str v3),.d (.raw (.slice none 0 0)),.d (.raw (.slice none 0 0))]),(2,.box [.d (.int .i64 v4.kind),.d (.str v4.text),.d (.slice .str v4.keys),.d (.slice .ah v4.kids)])],3⟩) { live:=[(0,[1,2,4,5])],oC:=[(0,[(4,some 2,false,.str),(4,some 3,false,.ah)])] } Tryz.func58
def wG(x0:Node):Te (Node×Bool) Empty:=.l (aj x0) fun z1=>.b (x0.kind==0) (.c (fM ⟨3,[],[],[]⟩ [[99,111,110,100,105,116,105,111,110],[114,101,115,116,97,114,116],[114,101,113,117,105,114,101,100]]) fun y1=>.b (!y1) (.k (⟨0,[],[],[]⟩,false)) (.c (bJ ⟨3,[],[],[]⟩ [99,111,110,100,105,116,105,111,110] [115,101,114,118,105,99,101,95,115,116,97,114,116,101,100]) fun y2=>.c (fV ⟨3,[],[],[]⟩ [114,101,115,116,97,114,116] [102,97,108,115,101]) fun y3=>.c (fV ⟨3,[],[],[]⟩ [114,101,113,117,105,114,101,100] [116,114,117,101]) fun y4=>.c (ay (y2.1)) fun y5=>.c (ay (y4.1)) fun y6=>.c (ay (y3.1)) fun y7=>.k (⟨3,[],[[99,111,110,100,105,116,105,111,110],[114,101,113,117,105,114,101,100],[114,101,115,116,97,114,116]],[y5,y6,y7]⟩,aab (aab (aab y2.2 y3.2) y4.2) (aL (aL (y2.1==[115,101,114,118,105,99,101,95,115,116,97,114,116,101,100]) (y2.1==[115,101,114,118,105,99,101,95,104,101,97,108,116,104,121])) (y2.1==[115,101,114,118,105,99,101,95,99,111,109,112,108,101,116,101,100,95,115,117,99,99,101,115,115,102,117,108,108,121]))))) (.c (fM z1 [[99,111,110,100,105,116,105,111,110],[114,101,115,116,97,114,116],[114,101,113,117,105,114,101,100]]) fun y8=>.b (!y8) (.k (⟨0,[],[],[]⟩,false)) (.c (bJ z1 [99,111,110,100,105,116,105,111,110] [115,101,114,118,105,99,101,95,115,116,97,114,116,101,100]) fun y9=>.c (fV z1 [114,101,115,116,97,114,116] [102,97,108,115,101]) fun ig=>.c (fV z1 [114,101,113,117,105,114,101,100] [116,114,117,101]) fun wW=>.c (ay (y9.1)) fun mX=>.c (ay (wW.1)) fun y13=>.c (ay (ig.1)) fun zu=>.k (⟨3,[],[[99,111,110,100,105,116,105,111,110],[114,101,113,117,105,114,101,100],[114,101,115,116,97,114,116]],[mX,y13,zu]⟩,aab (aab (aab y9.2 ig.2) wW.2) (aL (aL (y9.1==[115,101,114,118,105,99,101,95,115,116,97,114,116,101,100]) (y9.1==[115,101,114,118,105,99,101,95,104,101,97,108,116,104,121])) (y9.1==[115,101,114,118,105,99,101,95,99,111,109,112,108,101,116,101,100,95,115,117,99,99,101,115,115,102,117,108,108,121])))))
def wH(x0:Node):=(wG x0).o
def OU:=LY.f0 132 [.ah] [.ah,.bool] (fun a=>wG a) Tryz.func132
inductive Ee where
 | e (x0:Node)
 | h0 (v0:List (aqO)) (v1:Bool) (v2:Int) (v3:Node) (v4:Int) (v5:aqO) (v6:Node)
def qm:Ee->Te (Node×Bool) Ee
 | .e x0=>.c (jK (aj x0)) fun y1=>.b (aab (x0.kind==3) (bV (aC x0.keys) 32)) (.g (.h0 x0.keys true 0 x0 0 [] ⟨0,[],[],[]⟩)) (.g (.h0 (y1.1) (y1.2) 0 x0 0 [] ⟨0,[],[],[]⟩))
 | .h0 v0 v1 v2 v3 v4 v5 v6=>.l (bV 0 v2&&aF v2 (aC v0)) fun z2=>.l (aj v6) fun z1=>.b (aab (aF v2 (aC v0)) v1) (.b (v3.kind==3) (.i v3.kids v2 fun y1=>.c (wH (aj y1)) fun y2=>.q (z2 || !y2.2) (.i v0 v2 fun y3=>.q (gY z1 y3 (aj (y2.1))) (.g (.h0 v0 (aab y2.2 ((cO gJ) y3)) (ak (v2+1)) v3 v4 v5 (aY z1 y3 (aj (y2.1))))))) (.c (wH ⟨0,[],[],[]⟩) fun y4=>.q (z2 || !y4.2) (.i v0 v2 fun y5=>.q (gY z1 y5 (aj (y4.1))) (.g (.h0 v0 (aab y4.2 ((cO gJ) y5)) (ak (v2+1)) v3 v4 v5 (aY z1 y5 (aj (y4.1)))))))) (.c (aG z1 v1) fun y6=>.k (aj (y6.1),y6.2))
def Ef(x0:Node):=mu qm (.e x0)
def OV:=OU.fl 59 [.ah] [.ah,.bool] qm (fun a=>.e a) (fun | .e x0=>.e [⟨.ah,x0⟩] | .h0 v0 v1 v2 v3 v4 v5 v6=>.h 0 ⟨71,[(1,.ptr 0 0),(2,.ptr 1 0),(4,.d (.slice .str v0)),(5,.d (.bool v1)),(6,.ptr 2 0),(7,.d (.int .i64 v2))],[(0,.box [.d (.int .i64 v3.kind),.d (.str v3.text),.d (.slice .str v3.keys),.d (.slice .ah v3.kids)]),(1,.box [.d (.int .i64 v4),.d (.str v5),.d (.raw (.slice none 0 0)),.d (.raw (.slice none 0 0))]),(2,.box [.d (.int .i64 v6.kind),.d (.str v6.text),.d (.slice .str v6.keys),.d (.slice .ah v6.kids)])],3⟩) { live:=[(0,[1,2,4,5,6,7])],oC:=[(0,[(6,some 2,false,.str),(6,some 3,false,.ah)])] } Tryz.func59
def r9(x0:Node):Te (Node×Bool) Empty:=.l (aj x0) fun z1=>.b (x0.kind==1) (.c (fM ⟨3,[],[[115,101,114,118,105,99,101]],[z1]⟩ [[115,101,114,118,105,99,101],[102,105,108,101]]) fun y1=>.b (!y1) (.k (⟨0,[],[],[]⟩,false)) (.c (bJ ⟨3,[],[[115,101,114,118,105,99,101]],[z1]⟩ [115,101,114,118,105,99,101] []) fun y2=>.c (bJ ⟨3,[],[[115,101,114,118,105,99,101]],[z1]⟩ [102,105,108,101] [120]) fun y3=>.b (aL (aL (aL (aL (!y2.2) (!y3.2)) (!((cO gJ) (y2.1)))) (aF (aC (y3.1)) 1)) (aF 64 (aC (y3.1)))) (.k (⟨0,[],[],[]⟩,false)) (.c (aG ⟨3,[],[[115,101,114,118,105,99,101]],[z1]⟩ true) fun y4=>.k (aj (y4.1),y4.2)))) (.c (fM z1 [[115,101,114,118,105,99,101],[102,105,108,101]]) fun y5=>.b (!y5) (.k (⟨0,[],[],[]⟩,false)) (.c (bJ z1 [115,101,114,118,105,99,101] []) fun y6=>.c (bJ z1 [102,105,108,101] [120]) fun y7=>.b (aL (aL (aL (aL (!y6.2) (!y7.2)) (!((cO gJ) (y6.1)))) (aF (aC (y7.1)) 1)) (aF 64 (aC (y7.1)))) (.k (⟨0,[],[],[]⟩,false)) (.c (aG z1 true) fun y8=>.k (aj (y8.1),y8.2))))
def Ag(x0:Node):=(r9 x0).o
def Ld:=OV.f0 60 [.ah] [.ah,.bool] (fun a=>r9 a) Tryz.func60
inductive qo where
 | e (x0:aqO)
 | h0 (v0:aqO) (v1:aqO) (v2:Int)
 | h1 (v0:aqO) (v1:aqO) (v2:Int) (v3:Int) (v4:Bool) (v5:Int)
def qp:qo->Te (Bool) qo
 | .e x0=>.g (.h0 x0 [46,95,45,47,58,61,44,43,64,37] 0)
 | .h0 v0 v1 v2=>.b (aF v2 (aC v0)) (.s v0 v2 fun y1=>.g (.h1 v0 v1 v2 y1 (aL (aL (aab (bV 97 y1) (bV y1 122)) (aab (bV 65 y1) (bV y1 90))) (aab (bV 48 y1) (bV y1 57))) 0)) (.k (aF 0 (aC v0)))
 | .h1 v0 v1 v2 v3 v4 v5=>.b (aF v5 (aC v1)) (.q ((bV 0 v5&&aF v5 (aC v1)) || !(!v4)) (.g (.h1 v0 v1 v2 v3 (aL v4 (sH v1 v5==v3)) (ak (v5+1))))) (.b (!v4) (.k false) (.g (.h0 v0 v1 (ak (v2+1)))))
def wJ(x0:aqO):=mu qp (.e x0)
def OW:=Ld.fl 207 [.str] [.bool] qp (fun a=>.e a) (fun | .e x0=>.e [⟨.str,x0⟩] | .h0 v0 v1 v2=>.h 0 ⟨58,[(0,.d (.str v0)),(3,.d (.str v1)),(4,.d (.int .i64 v2))],[],0⟩ | .h1 v0 v1 v2 v3 v4 v5=>.h 1 ⟨58,[(0,.d (.str v0)),(3,.d (.str v1)),(4,.d (.int .i64 v2)),(5,.d (.int .u8 v3)),(6,.d (.bool v4)),(7,.d (.int .i64 v5))],[],0⟩) { live:=[(0,[0,3,4]),(1,[0,3,4,5,6,7])] } Tryz.func207
inductive qw where
 | e (x0:List (aqO))
 | h0 (v0:List (aqO)) (v1:aqO) (v2:Int)
 | h1 (v0:List (aqO)) (v1:aqO) (v2:Int) (v3:Int)
def qx:qw->Te ((aqO)) qw
 | .e x0=>.g (.h0 x0 [] 0)
 | .h0 v0 v1 v2=>.l (v1++([32]:aqO)) fun z1=>.b (aF v2 (aC v0)) (.b (aF 0 v2) (.q (decide (v1.length+([32]:aqO).length<=aA)) (.i v0 v2 fun y1=>.c (wJ y1) fun y2=>.b y2 (.q (fZ v0 v2) (.q (decide (z1.length+y1.length<=aA)) (.g (.h0 v0 (z1++y1) (ak (v2+1)))))) (.q (decide (z1.length+([39]:aqO).length<=aA)) (.g (.h1 v0 (z1++([39]:aqO)) v2 0))))) (.i v0 v2 fun y4=>.c (wJ y4) fun y5=>.b y5 (.q (fZ v0 v2) (.q (decide (v1.length+y4.length<=aA)) (.g (.h0 v0 (v1++y4) (ak (v2+1)))))) (.q (decide (v1.length+([39]:aqO).length<=aA)) (.g (.h1 v0 (v1++([39]:aqO)) v2 0))))) (.k v1)
 | .h1 v0 v1 v2 v3=>.l (fZ v0 v2) fun z3=>.l (v1++([39,92,39]:aqO)) fun z2=>.l (ak (v3+1)) fun z1=>.i v0 v2 fun y1=>.l (cut y1 v3 z1) fun z4=>.b (aF v3 (aC y1)) (.q z3 (.s y1 v3 fun y3=>.b (y3==39) (.q (decide (v1.length+([39,92,39]:aqO).length<=aA)) (.q z3 (.q (bN y1 v3 z1) (.q (decide (z2.length+z4.length<=aA)) (.g (.h1 v0 (z2++z4) v2 z1)))))) (.q z3 (.q (bN y1 v3 z1) (.q (decide (v1.length+z4.length<=aA)) (.g (.h1 v0 (v1++z4) v2 z1))))))) (.q (decide (v1.length+([39]:aqO).length<=aA)) (.g (.h0 v0 (v1++([39]:aqO)) (ak (v2+1)))))
def Eh(x0:List (aqO)):=mu qx (.e x0)
def OX:=OW.fl 175 [.cu] [.str] qx (fun a=>.e a) (fun | .e x0=>.e [⟨.cu,x0⟩] | .h0 v0 v1 v2=>.h 0 ⟨60,[(0,.d (.slice .str v0)),(3,.d (.str v1)),(4,.d (.int .i64 v2))],[],0⟩ | .h1 v0 v1 v2 v3=>.h 1 ⟨60,[(0,.d (.slice .str v0)),(3,.d (.str v1)),(4,.d (.int .i64 v2)),(5,.d (.int .i64 v3))],[],0⟩) { live:=[(0,[0,3,4]),(1,[0,3,4,5])] } Tryz.func175
def wL(x0:Node):Te ((aqO)×Int) Empty:=.b (x0.kind==1) (.k (x0.text,1)) (.c (jK (aj x0)) fun y1=>.l (aC (y1.1)) fun z1=>.b (aL (!y1.2) (z1==0)) (.k ([],0)) (.i y1.1 0 fun y2=>.b (aab (y2==[78,79,78,69]) (z1==1)) (.k ([],2)) (.q (fZ y1.1 0) (.b (aab (y2==[67,77,68,45,83,72,69,76,76]) (z1==2)) (.i y1.1 1 fun y4=>.k (y4,1)) (.q (fZ y1.1 0) (.b (aab (y2==[67,77,68]) (aF 1 z1)) (.q (bN (y1.1) 1 z1) (.c (Eh (cut (y1.1) 1 z1)) fun y6=>.k (y6,1))) (.k ([],0))))))))
def wM(x0:Node):=(wL x0).o
def OY:=OX.f0 136 [.ah] [.str,.int] (fun a=>wL a) Tryz.func136
inductive Cw where
 | e (x0:aqO)
 | h0 (v0:aqO) (v1:Int)
def uX:Cw->Te ((aqO)×Int×(aqO)×Bool) Cw
 | .e x0=>.g (.h0 x0 0)
 | .h0 v0 v1=>.l (bV 0 v1&&aF v1 (aC v0)) fun z5=>.l (aab (aF v1 (aC v0)) (bV 48 (sH v0 v1))) fun z4=>.l (cut v0 0 v1) fun z3=>.l (lC z3) fun z2=>.l (cut v0 v1 (aC v0)) fun z1=>.l (sH z1 0) fun z12=>.l (bV 0 0&&aF 0 (aC z1)) fun zP=>.l (cut z1 1 (aC z1)) fun rJ=>.l (bN z1 1 (aC z1)) fun z9=>.l (aab (bV 2 (aC z1)) (z12==109)) fun z8=>.l (bV 1 (aC z1)) fun z7=>.l (zP || !z7) fun z6=>.q (z5 || !(aF v1 (aC v0))) (.q (z5 || !z4) (.b (aab z4 (bV (sH v0 v1) 57)) (.g (.h0 v0 (ak (v1+1)))) (.q (bN v0 0 v1) (.q (bN v0 v1 (aC v0)) (.q (zP || !(bV 2 (aC z1))) (.q ((bV 0 1&&aF 1 (aC z1)) || !z8) (.b (aab z8 (sH z1 1==115)) (.q (bN z1 2 (aC z1)) (.c z2 fun y1=>.k (z3,3,cut z1 2 (aC z1),y1))) (.q z6 (.b (aab z7 (z12==104)) (.q z9 (.c z2 fun y2=>.k (z3,0,rJ,y2))) (.q z6 (.b (aab z7 (z12==109)) (.q z9 (.c z2 fun y3=>.k (z3,1,rJ,y3))) (.q z6 (.b (aab z7 (z12==115)) (.q z9 (.c z2 fun y4=>.k (z3,2,rJ,y4))) (.k ([],0,[],false)))))))))))))))
def Cx(x0:aqO):=mu uX (.e x0)
def NH:=OY.fl 208 [.str] [.str,.int,.str,.bool] uX (fun a=>.e a) (fun | .e x0=>.e [⟨.str,x0⟩] | .h0 v0 v1=>.h 0 ⟨90,[(0,.d (.str v0)),(6,.d (.int .i64 v1))],[],0⟩) { live:=[(0,[0,6])] } Tryz.func208
def Cy:Te (aaj) Empty:=.k ⟨3600000,60000,1000,1⟩
def uY:=(Cy).o
def NI:=NH.f0 209 [] [.ug] (fun _=>Cy) Tryz.func209
inductive pE where
 | e (x0:aqO)
 | h0 (v0:aqO) (v1:Bool) (v2:Int) (v3:List Int)
 | h1 (v0:Bool) (v1:Int) (v2:Int) (v3:List Int) (v4:List Int)
def jM:pE->Te (Int×Int) pE
 | .e x0=>.b (aC x0==0) (.k (0,3)) (.g (.h0 x0 false (-1) [0,0,0,0]))
 | .h0 v0 v1 v2 v3=>.b (aF 0 (aC v0)) (.c (Cx v0) fun y1=>.l (bV 0 y1.2.1&&aF y1.2.1 4) fun z2=>.l (mQ (y1.2.1)) fun z1=>.b (aL (aL (!y1.2.2.2) (bV y1.2.1 v2)) (aab (y1.1==[48]) (aL (bV 0 v2) (aF 0 (aC (y1.2.2.1)))))) (.k (0,3)) (.c (lD (y1.1)) fun y2=>.b (aF 1099511627776 y2) (.q z2 (.q (Nat.blt z1 v3.length) (.g (.h0 (y1.2.2.1) true (y1.2.1) (List.set v3 z1 0))))) (.q z2 (.q (Nat.blt z1 v3.length) (.g (.h0 (y1.2.2.1) v1 (y1.2.1) (List.set v3 z1 y2))))))) (.c uY fun y3=>.g (.h1 v1 0 0 v3 [y3.e0,y3.e1,y3.e2,y3.e3]))
 | .h1 v0 v1 v2 v3 v4=>.l (ak (v2+1)) fun z4=>.l (dflt .int) fun z3=>.l (ak (v1+ak ((List.getD v3 (mQ v2) z3)*(List.getD v4 (mQ v2) z3)))) fun z2=>.l (bV 0 v2&&aF v2 4) fun z1=>.b (aF v2 4) (.q z1 (.q (Nat.blt (mQ v2) v3.length) (.q z1 (.q (Nat.blt (mQ v2) v4.length) (.q (!((List.getD v4 (mQ v2) z3)==0)) (.b (aF (ak (Int.tdiv 1099511627776 (List.getD v4 (mQ v2) z3))) (List.getD v3 (mQ v2) z3)) (.b (!true) (.q z1 (.q (Nat.blt (mQ v2) v3.length) (.q z1 (.q (Nat.blt (mQ v2) v4.length) (.g (.h1 true z2 z4 v3 v4)))))) (.g (.h1 true v1 z4 v3 v4))) (.b (!v0) (.q z1 (.q (Nat.blt (mQ v2) v3.length) (.q z1 (.q (Nat.blt (mQ v2) v4.length) (.g (.h1 v0 z2 z4 v3 v4)))))) (.g (.h1 v0 v1 z4 v3 v4))))))))) (.b (aL v0 (aF 1099511627776 v1)) (.k (0,9)) (.k (v1,0)))
def Cz(x0:aqO):=mu jM (.e x0)
def NJ:=NI.fl 176 [.str] [.int,.aW] jM (fun a=>.e a) (fun | .e x0=>.e [⟨.str,x0⟩] | .h0 v0 v1 v2 v3=>.h 0 ⟨87,[(0,.d (.str v0)),(4,.ptr 0 0),(5,.d (.bool v1)),(6,.d (.int .i64 v2))],[(0,.arr .int v3 false)],1⟩ | .h1 v0 v1 v2 v3 v4=>.h 1 ⟨87,[(4,.ptr 0 0),(5,.d (.bool v0)),(12,.ptr 1 0),(13,.d (.int .i64 v1)),(14,.d (.int .i64 v2))],[(0,.arr .int v3 false),(1,.arr .int v4 false)],2⟩) { live:=[(0,[0,4,5,6]),(1,[4,5,12,13,14])],arr:=[(2,[(4,some .int)]),(18,[(12,some .int)])] } Tryz.func176
def CB:Te (aai) Empty:=.k ⟨[104],[109],[115],[109,115]⟩
def CF:=(CB).o
def NK:=NJ.f0 210 [] [.uf] (fun _=>CB) Tryz.func210
inductive Ei where
 | e (x0:Int)
 | h0 (v0:Int) (v1:aqO) (v2:Int) (v3:List Int) (v4:List (aqO))
def qy:Ei->Te ((aqO)) Ei
 | .e x0=>.b (aL (aF x0 0) (aF 1099511627776 x0)) (.k []) (.b (x0==0) (.k [48,115]) (.c uY fun y1=>.c CF fun y2=>.g (.h0 x0 [] 0 [y1.e0,y1.e1,y1.e2,y1.e3] [y2.e0,y2.e1,y2.e2,y2.e3])))
 | .h0 v0 v1 v2 v3 v4=>.l (dflt .int) fun z4=>.l (ak (Int.tdiv v0 (List.getD v3 (mQ v2) z4))) fun z3=>.l (bV 0 v2&&aF v2 4) fun z2=>.l (!((List.getD v3 (mQ v2) z4)==0)) fun z1=>.b (aF v2 4) (.q z2 (.q (Nat.blt (mQ v2) v3.length) (.q z1 (.b (aF 0 z3) (.q z2 (.q (Nat.blt (mQ v2) v3.length) (.q z1 (.c (fK z3) fun y1=>.q (decide (v1.length+y1.length<=aA)) (.q z2 (.q (Nat.blt (mQ v2) v4.length) (.q (decide ((v1++y1).length+(List.getD v4 (mQ v2) (dflt .str)).length<=aA)) (.q z2 (.q (Nat.blt (mQ v2) v3.length) (.q z1 (.g (.h0 (Int.tmod v0 (List.getD v3 (mQ v2) z4)) ((v1++y1)++(List.getD v4 (mQ v2) (dflt .str))) (ak (v2+1)) v3 v4)))))))))))) (.q z2 (.q (Nat.blt (mQ v2) v3.length) (.q z1 (.g (.h0 (Int.tmod v0 (List.getD v3 (mQ v2) z4)) v1 (ak (v2+1)) v3 v4))))))))) (.k v1)
def Ej(x0:Int):=mu qy (.e x0)
def OZ:=NK.fl 177 [.int] [.str] qy (fun a=>.e a) (fun | .e x0=>.e [⟨.int,x0⟩] | .h0 v0 v1 v2 v3 v4=>.h 0 ⟨45,[(0,.d (.int .i64 v0)),(3,.d (.str v1)),(4,.ptr 0 0),(5,.ptr 1 0),(6,.d (.int .i64 v2))],[(0,.arr .int v3 false),(1,.arr .str v4 false)],2⟩) { live:=[(0,[0,3,4,5,6])],arr:=[(8,[(4,some .int),(5,some .str)])] } Tryz.func177
def wN(x0:Node)(x1:aqO)(x2:Int):Te ((aqO)×Bool) Empty:=.l (aj x0) fun z1=>.q ((fun n _=>fit n) z1 x1) (.b (!(aD z1 x1)) (.k ([],true)) (.c (bJ z1 x1 []) fun y1=>.c (Cz (y1.1)) fun y2=>.c (Ej (y2.1)) fun y3=>.k (y3,aab (aab y1.2 (y2.2==0)) (bV x2 y2.1))))
def wO(x0:Node)(x1:aqO)(x2:Int):=(wN x0 x1 x2).o
def O1:=OZ.f0 137 [.ah,.str,.int] [.str,.bool] (fun a=>wN a.1 a.2.1 a.2.2) Tryz.func137
def sQ(x0:Node):Te (Node×Bool) Empty:=.l (aj x0) fun z5=>.l (ay [116,114,117,101]) fun z4=>.l (oh z5 [114,101,116,114,105,101,115]) fun z3=>.l (wO z5 [105,110,116,101,114,118,97,108] 1) fun z2=>.l (wO z5 [115,116,97,114,116,95,112,101,114,105,111,100] 0) fun z1=>.c (fM z5 [[116,101,115,116],[105,110,116,101,114,118,97,108],[115,116,97,114,116,95,112,101,114,105,111,100],[114,101,116,114,105,101,115],[100,105,115,97,98,108,101]]) fun y1=>.b (!y1) (.k (⟨0,[],[],[]⟩,false)) (.c (fV z5 [100,105,115,97,98,108,101] [102,97,108,115,101]) fun y2=>.l (y2.1==[116,114,117,101]) fun z6=>.q ((fun n _=>fit n) z5 [116,101,115,116]) (.b (aD z5 [116,101,115,116]) (.c (wM (aj (aJ z5 [116,101,115,116]))) fun y3=>.l (ay (y3.1)) fun z7=>.b (y3.2==0) (.k (⟨0,[],[],[]⟩,false)) (.b (y3.2==2) (.c z7 fun y4=>.l (aj (aY ⟨0,[],[],[]⟩ [116,101,115,116] y4)) fun z8=>.q (gY ⟨0,[],[],[]⟩ [116,101,115,116] y4) (.c z2 fun y5=>.c z1 fun y6=>.l (ay (y6.1)) fun z9=>.c z3 fun y7=>.l (aF 0 y7.1) fun zP=>.l (fK (y7.1)) fun rJ=>.b (aL (aL (aL (aL (!y2.2) (!y5.2)) (!y6.2)) (!y7.2)) (aF 10 y7.1)) (.k (⟨0,[],[],[]⟩,false)) (.b (([116,114,117,101]:aqO)==[116,114,117,101]) (.c z4 fun y8=>.k (⟨3,[],[[100,105,115,97,98,108,101]],[y8]⟩,true)) (.b (!(y5.1==[])) (.c (ay (y5.1)) fun y9=>.l (aj (aY z8 [105,110,116,101,114,118,97,108] y9)) fun z12=>.q (gY z8 [105,110,116,101,114,118,97,108] y9) (.b (!(y6.1==[])) (.c z9 fun ig=>.l (aj (aY z12 [115,116,97,114,116,95,112,101,114,105,111,100] ig)) fun z13=>.q (gY z12 [115,116,97,114,116,95,112,101,114,105,111,100] ig) (.b zP (.c rJ fun wW=>.c (ay wW) fun mX=>.q (gY z13 [114,101,116,114,105,101,115] mX) (.c (aG (aj (aY z13 [114,101,116,114,105,101,115] mX)) true) fun y13=>.k (aj (y13.1),y13.2))) (.c (aG z13 true) fun zu=>.k (aj (zu.1),zu.2)))) (.b zP (.c rJ fun y15=>.c (ay y15) fun Ua=>.q (gY z12 [114,101,116,114,105,101,115] Ua) (.c (aG (aj (aY z12 [114,101,116,114,105,101,115] Ua)) true) fun Ub=>.k (aj (Ub.1),Ub.2))) (.c (aG z12 true) fun Uc=>.k (aj (Uc.1),Uc.2))))) (.b (!(y6.1==[])) (.c z9 fun y19=>.l (aj (aY z8 [115,116,97,114,116,95,112,101,114,105,111,100] y19)) fun z14=>.q (gY z8 [115,116,97,114,116,95,112,101,114,105,111,100] y19) (.b zP (.c rJ fun y20=>.c (ay y20) fun y21=>.q (gY z14 [114,101,116,114,105,101,115] y21) (.c (aG (aj (aY z14 [114,101,116,114,105,101,115] y21)) true) fun y22=>.k (aj (y22.1),y22.2))) (.c (aG z14 true) fun y23=>.k (aj (y23.1),y23.2)))) (.b zP (.c rJ fun y24=>.c (ay y24) fun y25=>.q (gY z8 [114,101,116,114,105,101,115] y25) (.c (aG (aj (aY z8 [114,101,116,114,105,101,115] y25)) true) fun y26=>.k (aj (y26.1),y26.2))) (.c (aG z8 true) fun y27=>.k (aj (y27.1),y27.2)))))))) (.c z7 fun y28=>.l (aj (aY ⟨0,[],[],[]⟩ [116,101,115,116] y28)) fun jv=>.q (gY ⟨0,[],[],[]⟩ [116,101,115,116] y28) (.c z2 fun y29=>.c z1 fun Xj=>.l (ay (Xj.1)) fun jD=>.c z3 fun y31=>.l (aF 0 y31.1) fun jZ=>.l (fK (y31.1)) fun z17=>.b (aL (aL (aL (aL (!y2.2) (!y29.2)) (!Xj.2)) (!y31.2)) (aF 10 y31.1)) (.k (⟨0,[],[],[]⟩,false)) (.b z6 (.c z4 fun y32=>.k (⟨3,[],[[100,105,115,97,98,108,101]],[y32]⟩,true)) (.b (!(y29.1==[])) (.c (ay (y29.1)) fun y33=>.l (aj (aY jv [105,110,116,101,114,118,97,108] y33)) fun yu=>.q (gY jv [105,110,116,101,114,118,97,108] y33) (.b (!(Xj.1==[])) (.c jD fun y34=>.l (aj (aY yu [115,116,97,114,116,95,112,101,114,105,111,100] y34)) fun z20=>.q (gY yu [115,116,97,114,116,95,112,101,114,105,111,100] y34) (.b jZ (.c z17 fun y35=>.c (ay y35) fun y36=>.q (gY z20 [114,101,116,114,105,101,115] y36) (.c (aG (aj (aY z20 [114,101,116,114,105,101,115] y36)) true) fun y37=>.k (aj (y37.1),y37.2))) (.c (aG z20 true) fun y38=>.k (aj (y38.1),y38.2)))) (.b jZ (.c z17 fun y39=>.c (ay y39) fun y40=>.q (gY yu [114,101,116,114,105,101,115] y40) (.c (aG (aj (aY yu [114,101,116,114,105,101,115] y40)) true) fun y41=>.k (aj (y41.1),y41.2))) (.c (aG yu true) fun y42=>.k (aj (y42.1),y42.2))))) (.b (!(Xj.1==[])) (.c jD fun y43=>.l (aj (aY jv [115,116,97,114,116,95,112,101,114,105,111,100] y43)) fun z21=>.q (gY jv [115,116,97,114,116,95,112,101,114,105,111,100] y43) (.b jZ (.c z17 fun y44=>.c (ay y44) fun y45=>.q (gY z21 [114,101,116,114,105,101,115] y45) (.c (aG (aj (aY z21 [114,101,116,114,105,101,115] y45)) true) fun y46=>.k (aj (y46.1),y46.2))) (.c (aG z21 true) fun y47=>.k (aj (y47.1),y47.2)))) (.b jZ (.c z17 fun y48=>.c (ay y48) fun y49=>.q (gY jv [114,101,116,114,105,101,115] y49) (.c (aG (aj (aY jv [114,101,116,114,105,101,115] y49)) true) fun y50=>.k (aj (y50.1),y50.2))) (.c (aG jv true) fun y51=>.k (aj (y51.1),y51.2)))))))))) (.c z2 fun y52=>.c z1 fun y53=>.l (ay (y53.1)) fun z22=>.c z3 fun y54=>.l (aF 0 y54.1) fun z24=>.l (fK (y54.1)) fun z23=>.b (aL (aL (aL (aL (!y2.2) (!y52.2)) (!y53.2)) (!y54.2)) (aF 10 y54.1)) (.k (⟨0,[],[],[]⟩,false)) (.b z6 (.c z4 fun y55=>.k (⟨3,[],[[100,105,115,97,98,108,101]],[y55]⟩,true)) (.b (!(y52.1==[])) (.c (ay (y52.1)) fun y56=>.l (aj (aY ⟨0,[],[],[]⟩ [105,110,116,101,114,118,97,108] y56)) fun z25=>.q (gY ⟨0,[],[],[]⟩ [105,110,116,101,114,118,97,108] y56) (.b (!(y53.1==[])) (.c z22 fun y57=>.l (aj (aY z25 [115,116,97,114,116,95,112,101,114,105,111,100] y57)) fun z26=>.q (gY z25 [115,116,97,114,116,95,112,101,114,105,111,100] y57) (.b z24 (.c z23 fun y58=>.c (ay y58) fun y59=>.q (gY z26 [114,101,116,114,105,101,115] y59) (.c (aG (aj (aY z26 [114,101,116,114,105,101,115] y59)) true) fun y60=>.k (aj (y60.1),y60.2))) (.c (aG z26 true) fun y61=>.k (aj (y61.1),y61.2)))) (.b z24 (.c z23 fun y62=>.c (ay y62) fun y63=>.q (gY z25 [114,101,116,114,105,101,115] y63) (.c (aG (aj (aY z25 [114,101,116,114,105,101,115] y63)) true) fun y64=>.k (aj (y64.1),y64.2))) (.c (aG z25 true) fun y65=>.k (aj (y65.1),y65.2))))) (.b (!(y53.1==[])) (.c z22 fun y66=>.l (aj (aY ⟨0,[],[],[]⟩ [115,116,97,114,116,95,112,101,114,105,111,100] y66)) fun z27=>.q (gY ⟨0,[],[],[]⟩ [115,116,97,114,116,95,112,101,114,105,111,100] y66) (.b z24 (.c z23 fun y67=>.c (ay y67) fun y68=>.q (gY z27 [114,101,116,114,105,101,115] y68) (.c (aG (aj (aY z27 [114,101,116,114,105,101,115] y68)) true) fun y69=>.k (aj (y69.1),y69.2))) (.c (aG z27 true) fun y70=>.k (aj (y70.1),y70.2)))) (.b z24 (.c z23 fun y71=>.c (ay y71) fun y72=>.q (gY ⟨0,[],[],[]⟩ [114,101,116,114,105,101,115] y72) (.c (aG (aj (aY ⟨0,[],[],[]⟩ [114,101,116,114,105,101,115] y72)) true) fun y73=>.k (aj (y73.1),y73.2))) (.c (aG ⟨0,[],[],[]⟩ true) fun y74=>.k (aj (y74.1),y74.2)))))))))
def Bz(x0:Node):=(sQ x0).o
def LZ:=O1.f0 61 [.ah] [.ah,.bool] (fun a=>sQ a) Tryz.func61
def uZ(x0:Node)(x1:Int):Te (Node×Bool) Empty:=.l (aj x0) fun z1=>.b (aF x1 5) (.c (Fw z1 x1) fun y1=>.k (aj (y1.1),y1.2)) (.b (x1==5) (.c (Cq z1) fun y2=>.k (aj (y2.1),y2.2)) (.b (aL (x1==6) (x1==7)) (.c (Cr z1 (x1==6)) fun y3=>.k (aj (y3.1),y3.2)) (.b (x1==8) (.c (xP z1) fun y4=>.k (aj (y4.1),y4.2)) (.b (x1==9) (.c (Cu z1) fun y5=>.k (aj (y5.1),y5.2)) (.b (x1==10) (.c (Bw z1) fun y6=>.k (aj (y6.1),y6.2)) (.b (x1==11) (.c (Ef z1) fun y7=>.k (aj (y7.1),y7.2)) (.b (x1==12) (.c (Ag z1) fun y8=>.k (aj (y8.1),y8.2)) (.c (Bz z1) fun y9=>.k (aj (y9.1),y9.2)))))))))
def CG(x0:Node)(x1:Int):=(uZ x0 x1).o
def NM:=LZ.f0 23 [.ah,.int] [.ah,.bool] (fun a=>uZ a.1 a.2) Tryz.func23
inductive sj where
 | e (x0:Node)
 | h0 (v0:Int) (v1:Node) (v2:Int) (v3:aqO) (v4:aqO) (v5:Int) (v6:Node)
def nD:sj->Te (BP) sj
 | .e x0=>.b (aab (x0.kind != 0) (x0.kind != 3)) (.k ⟨⟨0,[],[],[]⟩,[],10⟩) (.g (.h0 0 x0 0 [] [] 0 ⟨3,[],[],[]⟩))
 | .h0 v0 v1 v2 v3 v4 v5 v6=>.l (aj v6) fun z3=>.l (fZ v1.keys v0) fun z2=>.l (sj.h0 (ak (v0+1)) v1 v2 v3 v4 v5) fun z1=>.b (aF v0 (aC v1.keys)) (.i v1.keys v0 fun y1=>.c (rX y1) fun y2=>.b y2 (.g (z1 v6)) (.q z2 (.c (Bq y1) fun y4=>.b (aF y4 0) (.q z2 (.k ⟨⟨0,[],[],[]⟩,y1,10⟩)) (.i v1.kids v0 fun y6=>.b (y6.kind==0) (.g (z1 v6)) (.q (fZ v1.kids v0) (.c (CG (aj y6) y4) fun y8=>.b (!y8.2) (.q z2 (.k ⟨⟨0,[],[],[]⟩,y1,10⟩)) (.q z2 (.q (gY z3 y1 (aj (y8.1))) (.g (z1 (aY z3 y1 (aj (y8.1))))))))))))) (.q ((wg 10000 13) z3) (.k ⟨aj ((aQ 13) z3),[],0⟩))
def nE(x0:Node):=mu nD (.e x0)
def Le:=(NM.W 14 (kN 13) (H8 13)).fl 8 [.ah] [.gL] nD (fun a=>.e a) (fun | .e x0=>.e [⟨.ah,x0⟩] | .h0 v0 v1 v2 v3 v4 v5 v6=>.h 0 ⟨81,[(1,.ptr 0 0),(2,.ptr 1 0),(3,.ptr 2 0),(4,.d (.int .i64 v0))],[(0,.box [.d (.int .i64 v1.kind),.d (.str v1.text),.d (.slice .str v1.keys),.d (.slice .ah v1.kids)]),(1,.box [.d (.int .i64 v2),.d (.str v3),.d (.raw (.slice none 0 0)),.d (.raw (.slice none 0 0)),.d (.str v4),.d (.int .i64 v5)]),(2,.box [.d (.int .i64 v6.kind),.d (.str v6.text),.d (.slice .str v6.keys),.d (.slice .ah v6.kids)])],3⟩) { live:=[(0,[1,2,3,4])],oC:=[(0,[(3,some 2,false,.str),(3,some 3,false,.ah)])] } Tryz.func8
inductive zx where
 | e (x0:Node)
 | h0 (v0:Int) (v1:Node) (v2:Int) (v3:aqO) (v4:aqO) (v5:Int) (v6:Node)
def zy:zx->Te (BP) zx
 | .e x0=>.b (x0.kind != 3) (.k ⟨⟨0,[],[],[]⟩,[115,101,114,118,105,99,101,115],10⟩) (.g (.h0 0 x0 0 [] [] 0 ⟨3,[],[],[]⟩))
 | .h0 v0 v1 v2 v3 v4 v5 v6=>.l (aj v6) fun z2=>.l (fZ v1.keys v0) fun z1=>.b (aF v0 (aC v1.keys)) (.i v1.keys v0 fun y1=>.l (decide (([115,101,114,118,105,99,101,115,46]:aqO).length+y1.length<=aA)) fun z4=>.l (([115,101,114,118,105,99,101,115,46]:aqO)++y1) fun z3=>.l (z3++([46]:aqO)) fun z5=>.b (!((cO gJ) y1)) (.q z1 (.q z4 (.q z1 (.b (y1==[]) (.k ⟨⟨0,[],[],[]⟩,[115,101,114,118,105,99,101,115],10⟩) (.k ⟨⟨0,[],[],[]⟩,z3,10⟩))))) (.i v1.kids v0 fun y4=>.c (nE (aj y4)) fun y5=>.b (y5.e != 0) (.q z1 (.q z4 (.b (!(y5.path==[])) (.q (decide (z3.length+([46]:aqO).length<=aA)) (.q (decide (z5.length+(y5.path).length<=aA)) (.k ⟨⟨0,[],[],[]⟩,(z5++y5.path),y5.e⟩))) (.k ⟨⟨0,[],[],[]⟩,z3,y5.e⟩)))) (.q z1 (.q (gY z2 y1 (aj (y5.n))) (.g (.h0 (ak (v0+1)) v1 v2 v3 v4 v5 (aY z2 y1 (aj (y5.n))))))))) (.b (aF 16 (aC v6.keys)) (.k ⟨⟨0,[],[],[]⟩,[115,101,114,118,105,99,101,115],9⟩) (.q ((wg 10000 14) z2) (.k ⟨aj ((aQ 14) z2),[],0⟩)))
def J5(x0:Node):=mu zy (.e x0)
def J6:=(Le.W 14 (kN 14) (H8 14)).fl 32 [.ah] [.gL] zy (fun a=>.e a) (fun | .e x0=>.e [⟨.ah,x0⟩] | .h0 v0 v1 v2 v3 v4 v5 v6=>.h 0 ⟨85,[(1,.ptr 0 0),(2,.ptr 1 0),(3,.ptr 2 0),(4,.d (.int .i64 v0))],[(0,.box [.d (.int .i64 v1.kind),.d (.str v1.text),.d (.slice .str v1.keys),.d (.slice .ah v1.kids)]),(1,.box [.d (.int .i64 v2),.d (.str v3),.d (.raw (.slice none 0 0)),.d (.raw (.slice none 0 0)),.d (.str v4),.d (.int .i64 v5)]),(2,.box [.d (.int .i64 v6.kind),.d (.str v6.text),.d (.slice .str v6.keys),.d (.slice .ah v6.kids)])],3⟩) { live:=[(0,[1,2,3,4])],oC:=[(0,[(3,some 2,false,.str),(3,some 3,false,.ah)])] } Tryz.func32
inductive wP where
 | e (x0:Node)
 | h0 (v0:Int) (v1:Node) (v2:Int) (v3:aqO) (v4:aqO) (v5:Int) (v6:Node)
def O4:wP->Te (BP) wP
 | .e x0=>.b (aab (x0.kind != 0) (x0.kind != 3)) (.k ⟨⟨0,[],[],[]⟩,[],10⟩) (.g (.h0 0 x0 0 [] [] 0 ⟨3,[],[],[]⟩))
 | .h0 v0 v1 v2 v3 v4 v5 v6=>.l (aj v6) fun z2=>.l (aj ((aQ 15) z2)) fun z3=>.l (wP.h0 (ak (v0+1)) v1 v2 v3 v4 v5) fun z1=>.b (aF v0 (aC v1.keys)) (.i v1.keys v0 fun y1=>.l (y1==[110,97,109,101]) fun z5=>.l (y1==[115,101,114,118,105,99,101,115]) fun z4=>.i v1.kids v0 fun y2=>.l (aj y2) fun z6=>.c (rX y1) fun y3=>.b y3 (.g (z1 v6)) (.b (aab (aab (aab (!z5) (!z4)) (!(y1==[110,101,116,119,111,114,107,115]))) (!(y1==[118,111,108,117,109,101,115]))) (.k ⟨⟨0,[],[],[]⟩,y1,10⟩) (.b (y2.kind==0) (.g (z1 v6)) (.b z4 (.c (J5 z6) fun y4=>.l (aj (y4.n)) fun z7=>.b (y4.e != 0) (.k ⟨z7,y4.path,y4.e⟩) (.q (gY z2 y1 z7) (.g (z1 (aY z2 y1 z7))))) (.b z5 (.b (aL (y2.kind != 1) (!((cO YJ) (y2.text)))) (.k ⟨⟨0,[],[],[]⟩,y1,10⟩) (.q (gY z2 y1 z6) (.g (z1 (aY z2 y1 z6))))) (.c (xP z6) fun y5=>.b (!y5.2) (.k ⟨⟨0,[],[],[]⟩,y1,10⟩) (.q (gY z2 y1 (aj (y5.1))) (.g (z1 (aY z2 y1 (aj (y5.1)))))))))))) (.q ((wg 10000 15) z2) (.b (!(yA z3)) (.k ⟨⟨0,[],[],[]⟩,[],9⟩) (.k ⟨z3,[],0⟩)))
def O5:=(((J6.W 33 QF ald).W 35 YO asw).W 14 (kN 15) (H8 15)).fl 13 [.ah] [.gL] O4 (fun a=>.e a) (fun | .e x0=>.e [⟨.ah,x0⟩] | .h0 v0 v1 v2 v3 v4 v5 v6=>.h 0 ⟨104,[(1,.ptr 0 0),(2,.ptr 1 0),(3,.ptr 2 0),(4,.d (.int .i64 v0))],[(0,.box [.d (.int .i64 v1.kind),.d (.str v1.text),.d (.slice .str v1.keys),.d (.slice .ah v1.kids)]),(1,.box [.d (.int .i64 v2),.d (.str v3),.d (.raw (.slice none 0 0)),.d (.raw (.slice none 0 0)),.d (.str v4),.d (.int .i64 v5)]),(2,.box [.d (.int .i64 v6.kind),.d (.str v6.text),.d (.slice .str v6.keys),.d (.slice .ah v6.kids)])],3⟩) { live:=[(0,[1,2,3,4])],oC:=[(0,[(3,some 2,false,.str),(3,some 3,false,.ah)])] } Tryz.func13
end
end Go.Proofs.YtclnniijooeajaaGreatDoor.Rf
