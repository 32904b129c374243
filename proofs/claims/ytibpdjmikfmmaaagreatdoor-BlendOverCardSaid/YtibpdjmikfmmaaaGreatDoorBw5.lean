/- Part 5 of a proof: the texts I4 M2 P2 M3 V2, one behind the other. -/
import Derived.Test.YtibpdjmikfmmaaaGreatDoorBw1
import Derived.Test.YtibpdjmikfmmaaaGreatDoorBw4
import Derived.WalkKit
import Derived.Sort.Walk0
noncomputable section
namespace Go.Proofs.YtibpdjmikfmmaaaGreatDoor.Rf
open Go Go.RowKit Go.Sort Go.Proofs.YtibpdjmikfmmaaaGreatDoor.bB
def Vr:iU E:=PI (E:=E) [.str] [.bool] fun a=>iX a
theorem agu:aV E 245 Vr:=Vh.top (by kernel_rfl)
theorem ayR {f:FuncId} {a t:E.Ty} {ok:E.Den a->Bool} {F:E.Den a->E.Den t} (ex:∃fn,Tryz.prog.funcs[f]? = some fn/\(fn.name == "runtime.NumGoroutine")=false/\fn.body.isNone=false) (h:∀x,ok x=true->EU E f [⟨a,x⟩] [⟨t,F x⟩]):aV E f (Ga a t ok F) :=
 ⟨ex,fun args r hr=>by
  unfold Ga at hr;split at hr
  ·split at hr
   ·rename_i x hx;injection hr with hr
    injection hr with h1 h2
    subst h2;rw[iI hx];exact h _ h1
   ·cases hr
  ·cases hr⟩
section
noncomputable abbrev PO:Func:=Tryz.f243
noncomputable def ahm:Code:=.seq (.region 9 (i7 9) false) .ret
theorem ayS:PO.body=some (.seq (.region 0 (i7 0) false) (.seq (.seq (.region 1 (i7 1) false) (.cond (.tmp 11) (.seq (.region 2 (i7 2) false) .ret) .skip)) (.seq (.seq (.region 3 (i7 3) false) (.cond (.tmp 13) (.seq (.region 4 (i7 4) false) .ret) .skip))
  (.seq (.seq (.region 5 (i7 5) false) (.block 0 (.rangeFunc (.tmp 16) #[17] A3 B4))) ahm)))):=by kernel_rfl
noncomputable def mT:List (FuncId×Func):=[(265,Tryz.f265),(273,Tryz.f273)]
noncomputable def mO:aR E:=Rk (iV [(245,Vr)]) mT
theorem Xv:aJ E mO:=aiE (eU (.cons agu .nil) .nil .nil .nil) mix (.cons (by kernel_rfl) (by kernel_rfl) (by kernel_rfl) (.cons (by kernel_rfl) (by kernel_rfl) (by kernel_rfl) .nil))
def bx0:List (Nat×aU E):=[(0,.box [.d (.bool false)])]
def X5(r:anY):aI E:=⟨28,[(2,.ptr 0 0),(16,.fn 275 [] [.ptr 36 0,.ptr 35 0,.ptr 37 0])],[(0,.box [.d (.bool false)]),(35,.box [.d (.str r)]),(36,.box [.d (.str [47])]),(37,.box [.d (.int .i64 0)])],60⟩
def c1(p:Bool)(s:anY):Bool:=bif(!p)then true else((((List.getD s (Int.toNat (0:Int)) 0).toNat:Nat):Int)!=(47:Int))
theorem aEG(s:anY):nI mO (i7 0) 28 [(0,.d (.str s))] (i7 0).toList [] [] 0 (pk [0,2] [0] 10)=some ⟨28,[(0,.d (.str s)),(2,.ptr 0 0)],bx0,10⟩:=by kernel_rfl
theorem aEH(s:anY):nI mO (i7 1) 28 [(0,.d (.str s)),(2,.ptr 0 0)] (i7 1).toList [] bx0 10 (pk [11,0,2] [0] 20)=bif(iX s).isSome then bif((decide ((0:Int)<=0)&&decide ((0:Int)<(s.length:Int)))||!(!(!(gv (iX s)))))then some ⟨28,[(11,.d (.bool (c1 (gv (iX s)) s))),(0,.d (.str s)),(2,.ptr 0 0)],bx0,20⟩else none else none:=by kernel_rfl
theorem aEI(s:anY)(b:Bool):nI mO (i7 3) 28 [(11,.d (.bool b)),(0,.d (.str s)),(2,.ptr 0 0)] (i7 3).toList [] bx0 20 (pk [13,0,2] [0] 30)=some ⟨28,[(13,.d (.bool (s==[47]))),(0,.d (.str s)),(2,.ptr 0 0)],bx0,30⟩:=by kernel_rfl
theorem aEJ(s:anY)(b:Bool):nI mO (i7 5) 28 [(13,.d (.bool b)),(0,.d (.str s)),(2,.ptr 0 0)] (i7 5).toList [] bx0 30 (pk [2,16] [0,35,36,37] 60) =
  bif decide ((0:Int)<=1)&&decide ((1:Int)<=(s.length:Int))&&decide ((s.length:Int)<=(s.length:Int))then some (X5 (List.take (Int.toNat (s.length:Int)-Int.toNat 1) (List.drop (Int.toNat 1) s)))else none:=by kernel_rfl
noncomputable def ahn(e:dN)(S:aI E):Option (List (TV E)):=match e with | .ret=>LJ PO .ret S | _=>none
theorem e2(s:anY)(b:Bool):evU mO {} 1 (.seq (.region 2 (i7 2) false) .ret) ⟨28,[(11,.d (.bool b)),(0,.d (.str s)),(2,.ptr 0 0)],bx0,20⟩ ahn=some [⟨.bool,false⟩]:=by kernel_rfl
theorem e4(s:anY)(b:Bool):evU mO {} 1 (.seq (.region 4 (i7 4) false) .ret) ⟨28,[(13,.d (.bool b)),(0,.d (.str s)),(2,.ptr 0 0)],bx0,30⟩ ahn=some [⟨.bool,true⟩]:=by kernel_rfl
theorem e9(r:anY):evU mO {} 1 ahm ⟨28,[(2,.ptr 0 0)],lU r,210⟩ (LJ PO)=some [⟨.bool,true⟩]:=by kernel_rfl
theorem avV{w:World}{ro:Nat->Nat->Prop}(s:anY)(kR:∀k o,ro k o->k<w.heap.size):bO E ⟨w,none,none,[],fun _=>none⟩ ro ⟨28,[(0,.d (.str s))],[],0⟩ { tmps:=#[.string ⟨s.toArray⟩]++Array.replicate (28-1) undef,defers:=[] } w (fun _=>none) ro where
 base:=⟨⟨rfl,rfl,rfl,ab8 _,fun _ _ _=>rfl⟩,kR,fun k o h=>.inl h,(fun id gh k h=>by cases h),rfl,(fun q h=>by cases h),(fun k o h=>by cases h)⟩
 size:=by simp
 tmps:=fun t x hl=>by
  simp only[bB.look]at hl;cases hb:Nat.beq 0 t with
  | true =>rw[hb]at hl;have:=abe hb;subst this;cases hl;exact⟨.string ⟨s.toArray⟩,by rw[Array.getElem?_append_left (by simp)];rfl,aO.d _ _ (.str s)⟩
  | false=>rw[hb]at hl;cases hl
 objs:=fun id o hl=>by cases hl
 inj:=fun id id' o o' gh bE k hl=>by cases hl
 fresh:=fun _ _=>rfl
 ids:=fun id o hl=>by cases hl
theorem asG{w w':World}{k:Nat}(h:w'.heap[k]? = w.heap[k]?)(o:Nat):w'.cell? ⟨k,o,none⟩=w.cell? ⟨k,o,none⟩:=by unfold World.cell?;rw[h]
def RB(W:World)(aP:Nat->Nat->Prop)(res:List (TV E))(e:Ending)(w':World):Prop:=∃v,e = .returned v/\Below W.heap.size W w'/\qz E w' (fun k o=>aP k o\/(W.heap.size<=k/\k<w'.heap.size)) v res
theorem leave0{W:World}{aP:Nat->Nat->Prop}{res:List (TV E)}{e:dN}{S':aI E}{a':Act}{w':World}{ι':Nat->Option Gh}{ro':Nat->Nat->Prop}(nc':aS S'.tmps)(g':bO E ⟨W,none,none,[],fun _=>none⟩ aP S' a' w' ι' ro')(hk:LJ PO e S'=some res) :
  bodyPostM Fence.wide 0 Tryz.prog PO (RB W aP res) e.toExit a' w':=by
 have q4:=F9 nc' g' hk;have hd:a'.defers=[]:=g'.base.defers;cases e with
 | normal=>show LeavesInM _ _ _ _ _ _ a'.defers _ _;rw[hd];exact q4.2
 | ret=>show LeavesInM _ _ _ _ _ _ a'.defers _ _;rw[hd];exact q4.2
 | exit id=>cases hk
 | goto l=>cases hk
theorem leave1{W:World}{D:Nat}{aP:Nat->Nat->Prop}{res:List (TV E)}{e:dN}{S':aI E}{a':Act}{w':World}{ι':Nat->Option Gh}{ro':Nat->Nat->Prop}(hWw:W.heap.size<=D)(nc':aS S'.tmps)
  (g':bO E ⟨W,none,none,[{ target:=.collected D,args:=#[] }],fun k=>if k=D then some (.deferred (some []))else none⟩ aP S' a' w' ι' ro') (hk:LJ PO e S'=some res) :
  bodyPostM Fence.wide 0 Tryz.prog PO (RB W aP res) e.toExit a' w':=by
 have hdD:=(g'.base.held D (.deferred (some [])) (if_pos rfl)).1;have hdf:a'.defers=[{ target:=.collected D,args:=#[] }]:=g'.base.defers;obtain⟨q1,q2⟩:=g'.anC rfl (l:=D) (o:=.deferred (some [])) (o':=.deferred none) (if_pos rfl) hWw rfl rfl;have q3:bO E ⟨W,none,none,[],fun _=>none⟩ aP S' { a' with defers:=[] } (w'.putObj D (.deferred none)) ι' ro' :=
  q1.turn rfl (H:=fun _=>none) (dl:=[]) rfl rfl rfl rfl rfl (ab8 _) (fun _ _=>.inr rfl) (fun _ _ _=>rfl) (fun k o hk=>by cases hk)
 have q4:=F9 nc' q3 hk;cases e with
 | normal=>show LeavesInM _ _ _ _ _ _ a'.defers _ _;rw[hdf];exact⟨by simp,.inl ⟨D,_,rfl,run_takeDeferred hdD,q4.2⟩⟩
 | ret=>show LeavesInM _ _ _ _ _ _ a'.defers _ _;rw[hdf];exact⟨by simp,.inl ⟨D,_,rfl,run_takeDeferred hdD,q4.2⟩⟩
 | exit id=>cases hk
 | goto l=>cases hk
def rD(s:anY):Bool:=gv (iX s)&&(s.headD 0==47)&&((s==[47])||!(tX (s.drop 1)).any j6)
theorem asH(s:anY)(hs:s.length<=1000000)(p:Bool)(hp:iX s=some p)(h0:p=true->0<s.length):EU E 243 [⟨.str,s⟩] [⟨.bool,rD s⟩]:=by
 intro W aP vals hargs kR
 match vals,hargs with
 | [u],⟨h1,_⟩ =>
 have eu:u = .string ⟨s.toArray⟩:=by
  rcases h1 with⟨ha,_⟩ | ⟨_,d,hd,hr⟩
  ·cases ha
  ·have hd:([.str s]:List (bQ E.Den))=[d]:=hd;injection hd with hd _
   subst hd;cases hr;rfl
 subst eu;refine(callsIn_wide (n:=0)).1 (callsIn_of_wp_marks (show Tryz.prog.funcs[243]? = some PO by kernel_rfl) ayS trivial ?_);have hnt:PO.ntmps=28:=by kernel_rfl
 rw[hnt,show([Value.string ⟨s.toArray⟩].toArray:Array Value) = #[.string ⟨s.toArray⟩]from rfl,show(#[Value.string ⟨s.toArray⟩]:Array Value).size=1 from rfl];show Code.wpIn (Wd none) 0 Tryz.prog _ (bodyPostM Fence.wide 0 Tryz.prog PO (RB W aP [⟨.bool,rD s⟩])) _ W;refine wpIn_seq ?_;refine zx Xv rfl (fun p hp=>by simp at hp;subst hp;rfl) (avV s kR) (by kernel_rfl) _ _ _ _ (aEG s) fun a0 w0 ι0 r0 nc0 g0 k0=>?_
 refine wpIn_seq (wpIn_seq ?_);have hg1:gv (iX s)=p:=by rw[hp];rfl
 have h1:=aEH s;rw[hg1,show(iX s).isSome=true by rw[hp];rfl,cond_true,show((decide ((0:Int)<=0)&&decide ((0:Int)<(s.length:Int)))||!(!(!p)))=true by
  cases p with
  | false=>simp
  | true=>simp[h0 rfl],cond_true]at h1
 refine zx Xv rfl nc0 g0 (by kernel_rfl) _ _ _ _ h1 fun a1 w1 ι1 r1 nc1 g1 k1=>?_
 have hb1:=Lh g1 (t:=11) (b:=c1 p s) rfl;have hc1:c1 p s = !(p&&(s.headD 0==47)):=by
  unfold c1;cases p with
  | false=>rfl
  | true =>
   have hl:=h0 rfl
   match s,hl with
   | c::r,_ =>
    show(((c.toNat:Nat):Int)!=47) = !(true&&(c==47));rw[afq,Bool.eq_iff_iff];simp only[bne_iff_ne,ne_eq,ah3,afB];constructor
    ·intro h e;exact h (by rw[e];rfl)
    ·intro h e;have e:c.toNat=47:=by omega
     exact h (UInt8.toNat_inj.1 (by rw[e];rfl))
 have aAB:∀(c:Code) (S:aI E) (a:Act) (w:World) (ι:Nat->Option Gh) (ro:Nat->Nat->Prop) (Q:Exit->Act->World->Prop),aS S.tmps->bO E ⟨W,none,none,[],fun _=>none⟩ aP S a w ι ro->evU mO {} 1 c S ahn=some [⟨.bool,rD s⟩] ->
   (∀a' w',bodyPostM Fence.wide 0 Tryz.prog PO (RB W aP [⟨.bool,rD s⟩]) .ret a' w'->Q .ret a' w')->Code.wpIn (Wd none) 0 Tryz.prog c Q a w:=by
  intro c S a w ι ro Q nc g he hq;show Code.wpIn Fence.wide 0 Tryz.prog c _ a w;refine wpIn_wide.2 ?_;exact UN (rr:=[⟨.bool,rD s⟩]) (n:=S.n) Xv mix (h:={}) (m:=1) c S ahn _ a w ι ro nc g rfl he fun e S' a' w' ι' ro' nc' g' hn' hk=>by
   cases e with
   | ret=>exact hq _ _ (leave0 (e:=.ret) nc' g' hk)
   | normal=>cases hk
   | exit id=>cases hk
   | goto l=>cases hk
 cases hcc:c1 p s with
 | true =>
  rw[hcc]at hb1;have hv:rD s=false:=by rw[hcc]at hc1;unfold rD;rw[hg1,show(p&&(s.headD 0==47))=false by cases hx:(p&&(s.headD 0==47))with | false=>rfl | true=>(rw[hx]at hc1;cases hc1)];rfl
  refine wpIn_cond_true hb1 ?_;exact aAB _ _ a1 w1 ι1 r1 _ nc1 g1 (by rw[hv];exact e2 s _) fun _ _ h=>h
 | false =>
 rw[hcc]at hb1;have hv:rD s=((s==[47])||!(tX (s.drop 1)).any j6):=by rw[hcc]at hc1;unfold rD;rw[hg1,show(p&&(s.headD 0==47))=true by cases hx:(p&&(s.headD 0==47))with | true=>rfl | false=>(rw[hx]at hc1;cases hc1),afq]
 have hlen:0<s.length:=by
  refine h0 ?_;rw[hcc]at hc1;cases p with
  | true=>rfl
  | false=>cases hc1
 refine wpIn_cond_false hb1 (wpIn_skip ?_);refine wpIn_seq (wpIn_seq ?_);refine zx Xv rfl nc1 g1 (by kernel_rfl) _ _ _ _ (aEI s _) fun a3 w3 ι3 r3 nc3 g3 k3=>?_
 have hb3:=Lh g3 (t:=13) (b:=s==[47]) rfl;cases hc3:s==[47]with
 | true =>rw[hc3]at hb3;refine wpIn_cond_true hb3 ?_;exact aAB _ _ a3 w3 ι3 r3 _ nc3 g3 (by rw[hv,hc3];exact e4 s _) fun _ _ h=>h
 | false =>
 rw[hc3]at hb3;rw[hc3,akg]at hv;refine wpIn_cond_false hb3 (wpIn_skip ?_);refine wpIn_seq (wpIn_seq ?_);have h5:=aEJ s (s==[47]);rw[dT (show(0:Int)<=1 by omega),dT (show(1:Int)<=(s.length:Int) by omega),dT (show(s.length:Int)<=(s.length:Int) by omega)]at h5;simp only[acf,cond_true,aaY]at h5;rw[show List.take (s.length-Int.toNat 1) (List.drop (Int.toNat 1) s)=s.drop 1 from aeV (by rw[ach];exact ab8 _)]at h5;refine zx Xv rfl nc3 g3 (by kernel_rfl) _ _ _ _ h5 fun a w ι ro nc g k5=>?_
 obtain⟨v6,h6,r6⟩:=g.tmps 2 (.ptr 0 0) rfl;obtain⟨v10,h10,r10⟩:=g.tmps 16 (.fn 275 [] [.ptr 36 0,.ptr 35 0,.ptr 37 0]) rfl;have r6:aO E w ro ι v6 (.ptr 0 0):=r6;have r10:aO E w ro ι v10 (.fn 275 [] [.ptr 36 0,.ptr 35 0,.ptr 37 0]):=r10;cases r6 with
 | ptr zi g6 _ _ hi0 hv0 =>
 cases r10 with
 | fn _ vs us _ _ hvs X9 _ hur =>
 have aEK:vs = #[]:=ahS hvs;subst aEK;obtain⟨us⟩:=us
 match us,X9,hur with
 | [x,q,r],_,hur =>
 have rp:aO E w ro ι x (.ptr 36 0):=hur 0 x _ rfl rfl;have rq:aO E w ro ι q (.ptr 35 0):=hur 1 q _ rfl rfl;have rr:aO E w ro ι r (.ptr 37 0):=hur 2 r _ rfl rfl;cases rp with
 | ptr gh2 b2 _ _ hi2 hv2 =>
 cases rq with
 | ptr gh1 b1 _ _ hi1 hv1 =>
 cases rr with
 | ptr gh3 b3 _ _ hi3 hv3 =>
 obtain⟨_,g4'⟩:=NG (w0:=⟨W,none,none,[],fun _=>none⟩) (S:=X5 (s.drop 1)) [0,35,36,37] (by decide) [] (fun t y h=>by cases h) (fun q h=>by cases h) nc g;generalize hι:(fun j:Nat=>((([0,35,36,37]:List Nat)[j]?).bind ι:Option Gh))=ι4 at g4';have g4:bO E ⟨W,none,none,[],fun _=>none⟩ aP ⟨28,[],lU (s.drop 1),5⟩ a w ι4 ro:=g4'.frame g4'.base.defers g4'.size g4'.tmps (by show 4<=5;omega);have hcap:aAA ι4 #[.pointer (some ⟨b2,0,none⟩),.pointer (some ⟨b1,0,none⟩),.pointer (some ⟨b3,0,none⟩)]:=by subst hι;exact⟨gh1,gh2,gh3,b1,b2,b3,rfl,⟨hi1,hv1⟩,⟨hi2,hv2⟩,⟨hi3,hv3⟩⟩
 have aEL:ι4 0=some zi:=by subst hι;exact hi0
 have hda:a.defers=[]:=g4.base.defers;have hsz:a.tmps.size=28:=g4.size;have hWw:W.heap.size<=w.heap.size:=g4.base.below.size;refine wpIn_block ?_;refine wpIn_rangeFunc fun fn hfn=>?_
 let Mc:Loop:=rc fn a.tmps w.heap.size .ready none;let W1:World:=(w.alloc (.deferred (some []))).alloc (.loop Mc);have hfr:∀k,k<w.heap.size->W1.heap[k]? = w.heap[k]? := fun k hk =>(Below.heap_alloc (w.alloc (.deferred (some []))) (.loop Mc) k (by rw[World.size_alloc];omega)).trans (Below.heap_alloc w (.deferred (some [])) k hk)
 have hD:W1.heap[w.heap.size]? = some (.deferred (some [])):=(Below.heap_alloc (w.alloc (.deferred (some []))) (.loop Mc) _ (by rw[World.size_alloc];omega)).trans (World.alloc_heap_new w _);have hL:W1.heap[w.heap.size+1]? = some (.loop Mc):=by have:=World.alloc_heap_new (w.alloc (.deferred (some []))) (.loop Mc);rwa[World.size_alloc]at this
 have hgW:bO E (Cw W (w.heap.size+1) w.heap.size (.loop Mc)) aP ⟨28,[],lU (s.drop 1),5⟩ a W1 ι4 ro:=by
  refine g4.turn rfl (H:=hd (w.heap.size+1) w.heap.size (.loop Mc)) (dl:=[]) hda rfl rfl rfl rfl (by show w.heap.size<=((w.alloc (.deferred (some []))).alloc (.loop Mc)).heap.size;rw[World.size_alloc,World.size_alloc];omega) (fun k hk=>.inr (hfr k hk)) (fun k o hk=>asG (hfr k hk) o) (fun k o hk=>?_);have hgh:∀id gh,ι4 id=some gh->∀k,w.heap.size<=k->gh.blk≠some k:=fun id gh h1 k h2 h3=>by have:=(g4.base.uZ id gh k h1 h3).2;omega
  unfold hd at hk;split at hk
  ·rename_i e;subst e;cases hk;exact⟨hL,fun id gh h1=>hgh id gh h1 _ (by omega)⟩
  ·split at hk
   ·rename_i e;subst e;cases hk;exact⟨hD,fun id gh h1=>hgh id gh h1 _ (by omega)⟩
   ·cases hk
 have hev:a.eval (.tmp 16) = .func (.func 275) #[] #[.pointer (some ⟨b2,0,none⟩),.pointer (some ⟨b1,0,none⟩),.pointer (some ⟨b3,0,none⟩)]:=by simp[Act.eval,h10]
 refine⟨w.heap.size+1,[{ target:=.collected w.heap.size,args:=#[] }],W1, { target:=.fn (.func 275) #[.pointer (some ⟨b2,0,none⟩),.pointer (some ⟨b1,0,none⟩),.pointer (some ⟨b3,0,none⟩)],args:=#[.func (.yield (w.heap.size+1)) #[] #[]] },W1,275,
  #[.func (.yield (w.heap.size+1)) #[] #[]] ++ #[.pointer (some ⟨b2,0,none⟩),.pointer (some ⟨b1,0,none⟩),.pointer (some ⟨b3,0,none⟩)],W1,run_enterLoop_outer fn a.tmps #[17] A3 B4,?_,fun _ _=>trivial,?_,fun h=>(by cases h),?_⟩
 ·simp only[resolve,hev];simp[go_sem]
 ·have h1:Tryz.prog.funcs[275]? = some Tryz.f275:=by kernel_rfl
  have h2:((Tryz.f275).name == "runtime.NumGoroutine")=false:=by kernel_rfl
  have h3:(Tryz.f275).body.isNone=false:=by kernel_rfl
  have hn:¬ (Tryz.f275).name = "runtime.NumGoroutine" := by intro e;rw[e]at h2;simp at h2
  have hb:¬ (Tryz.f275).body=none:=by intro e;rw[e]at h3;simp at h3
  simp only[invoke,callFunc];simp[h1,hn,hb,program,Sem.run]
 ·refine abE.2 ((ayQ (by omega) hsz h6 hv0 (by rw[ach];omega) aEL hcap hgW).mono fun e w5 he=>?_);obtain⟨⟨v,rfl⟩,ι5,ro5,rest,hi5,g5⟩:=he;have hbs:(PN fn a.tmps w.heap.size ((tX (s.drop 1)).any j6)) = .loop { Mc with state:=bif(tX (s.drop 1)).any j6 then .done else .ready,pending:=bif(tX (s.drop 1)).any j6 then some .ret else none }:=rfl;rw[hbs]at g5;refine⟨bif(tX (s.drop 1)).any j6 then some .ret else none,_,run_endLoop (abH g5) (by cases(tX (s.drop 1)).any j6<;>simp),?_⟩;obtain⟨g6',_⟩:=abG (o':=.loop { Mc with state:=.exhausted,pending:=bif(tX (s.drop 1)).any j6 then some .ret else none }) g5 (by omega) rfl rfl;have g7:=g6'.frame (a':=a) (m:=28) (nx:=210) (tm:=[(2,.ptr 0 0)]) hda hsz (fun t y hl=>by
   simp only[bB.look]at hl;cases hb:Nat.beq 2 t with
   | true =>rw[hb]at hl;have:=abe hb;subst this;cases hl;exact⟨_,h6,aO.ptr zi g6 0 0 hi5 hv0⟩
   | false=>rw[hb]at hl;cases hl) (ab8 _)
  have g8:bO E ⟨W,none,none,[{ target:=.collected w.heap.size,args:=#[] }],fun k=>if k=w.heap.size then some (.deferred (some []))else none⟩ aP ⟨28,[(2,.ptr 0 0)],lU rest,210⟩ { a with defers:=[{ target:=.collected w.heap.size,args:=#[] }]++a.defers } (w5.putObj (w.heap.size+1) (.loop { Mc with state:=.exhausted,pending:=bif(tX (s.drop 1)).any j6 then some .ret else none })) ι5 ro5:=by
   refine g7.turn rfl (H:=fun k=>if k=w.heap.size then some (.deferred (some []))else none) (dl:=[{ target:=.collected w.heap.size,args:=#[] }]) (by show[_]++a.defers=_;rw[hda];rfl) rfl rfl rfl rfl (ab8 _) (fun _ _=>.inr rfl) (fun _ _ _=>rfl) (fun k o hk=>?_);split at hk
   ·rename_i e;subst e;cases hk;exact g7.base.held _ _ (by show hd _ _ _ _=_;unfold hd;rw[if_neg (by omega),if_pos rfl])
   ·cases hk
  cases hany:(tX (s.drop 1)).any j6 with
  | false =>rw[hany]at g8 hv;show Code.wpIn Fence.wide 0 Tryz.prog ahm _ _ _;refine wpIn_wide.2 ?_;exact UN (rr:=[⟨.bool,rD s⟩]) (n:=28) Xv mix (h:={}) (m:=1) ahm _ (LJ PO) _ _ _ ι5 ro5 (fun p hp=>by simp at hp;subst hp;rfl) g8 rfl (by rw[hv];exact e9 rest) fun e S' a' w' ι' ro' nc' g' hn' hk=>leave1 hWw nc' g' hk
  | true =>rw[hany]at g8 hv;refine wpIn_ret ?_;exact leave1 (e:=.ret) hWw (fun p hp=>by simp at hp;subst hp;rfl) g8 (by rw[hv];kernel_rfl)
def okT(s:anY):Bool:=decide (s.length<=1000000)&&((iX s).isSome&&(!(gv (iX s))||decide (0<s.length)))
noncomputable def afl:iU E:=Ga (E:=E) .str .bool okT rD
def aqk:FuncId:=243
theorem aql:aV E aqk afl:=ayR ⟨PO,by kernel_rfl,by kernel_rfl,by kernel_rfl⟩ fun s hk=>by
 simp only[okT,abK,akX,ah3,ab6]at hk;obtain⟨h1,h2,h3⟩:=hk;obtain⟨p,hp⟩:=Option.isSome_iff_exists.1 h2;refine asH s h1 p hp fun e=>?_
 rw[hp]at h3;rcases h3 with h | h
 ·subst e;cases h
 ·exact h
end
def Ej(x0:gD):Te (Bool) Empty:=.l (Ir x0.source) fun z5=>.l (uH x0.source 0) fun z4=>.l (rD x0.target) fun z3=>.l (iX x0.source) fun z2=>.l (aM (x0.source==[]) (gv z5)) fun z1=>.l ((z3&&(!z1))&&gv z2) fun z6=>.q (okT x0.target) (.q ((z5.isSome)||!(z3&&(!(x0.source==[])))) (.q ((z2.isSome)||!(z3&&(!z1))) (.q (fU x0.source 0||!z6) (.q (fU x0.source 0||!(z6&&(!(z4==47)))) (.k (aab z3 (aM z1 (aab (gv z2) (aM (z4==47) (z4==46))))))))))
def gI(x0:gD):=(Ej x0).o
def agv:=(adz.W 243 afl aql).f0 215 [.jm] [.bool] (fun a=>Ej a) Tryz.func215
def GA(x0:An):Te (gD×Bool) Empty:=.c (aX ⟨aj x0,aC x0.keys,(x0.kind != 3)⟩ [115,111,117,114,99,101] []) fun y1=>.c (aX ⟨aj ((y1.1).n),(y1.1).left,(y1.1).bad⟩ [116,97,114,103,101,116] []) fun y2=>.c (fA ⟨aj ((y2.1).n),(y2.1).left,(y2.1).bad⟩ [114,101,97,100,95,111,110,108,121] false) fun y3=>.l (gI ⟨y1.2,y2.2,y3.2⟩) fun z1=>.c (aX ⟨aj ((y3.1).n),(y3.1).left,(y3.1).bad⟩ [116,121,112,101] [98,105,110,100]) fun y4=>.l (aab (!(y4.1).bad) ((y4.1).left==0)) fun z2=>.q ((z1.isSome)||!z2) (.k (⟨y1.2,y2.2,y3.2⟩,aab (aab z2 (gv z1)) (aM (aM (y4.2==[98,105,110,100]) (y4.2==[118,111,108,117,109,101])) (y4.2==[116,109,112,102,115]))))
def GD(x0:An):=(GA x0).o
def ajs:=agv.f0 156 [.ah] [.jm,.bool] (fun a=>GA a) Tryz.func156
def El(x0:anY):Te (gD×Int) Empty:=.l (dflt .str) fun z2=>.l (eY x0 [58] 0 (-1)) fun z1=>.l (aF 1 (aC z1)) fun z4=>.l (au (aC z1-1)) fun z3=>.l (Ai z1 z3 z2==[114,111]) fun z6=>.l (cut z1 0 z3) fun z5=>.q (RG x0 [58] 0 (-1)) (.q (fU z1 z3||!z4) (.q (fU z1 z3||!(z4&&(!z6))) (.b (aab z4 (aM z6 (Ai z1 z3 z2==[114,119]))) (.i z1 z3 fun y1=>.l (y1==[114,111]) fun z7=>.q (bN z1 0 z3) (.b (aC z5==1) (.i z5 0 fun y2=>.c (gI ⟨[],y2,z7⟩) fun y3=>.b (!y3) (.k (⟨[],[],false⟩,3)) (.k (⟨[],y2,z7⟩,0))) (.b (aC z5==2) (.i z5 0 fun y4=>.i z5 1 fun y5=>.b (y4==[]) (.k (⟨[],[],false⟩,3)) (.c (gI ⟨y4,y5,z7⟩) fun y6=>.b (!y6) (.k (⟨[],[],false⟩,3)) (.k (⟨y4,y5,z7⟩,0)))) (.c (gI ⟨[],[],z7⟩) fun y7=>.b (!y7) (.k (⟨[],[],false⟩,3)) (.k (⟨[],[],z7⟩,0)))))) (.b (aC z1==1) (.i z1 0 fun y8=>.c (gI ⟨[],y8,false⟩) fun y9=>.b (!y9) (.k (⟨[],[],false⟩,3)) (.k (⟨[],y8,false⟩,0))) (.b (aC z1==2) (.i z1 0 fun iC=>.i z1 1 fun yw=>.b (iC==[]) (.k (⟨[],[],false⟩,3)) (.c (gI ⟨iC,yw,false⟩) fun nQ=>.b (!nQ) (.k (⟨[],[],false⟩,3)) (.k (⟨iC,yw,false⟩,0)))) (.c (gI ⟨[],[],false⟩) fun y13=>.b (!y13) (.k (⟨[],[],false⟩,3)) (.k (⟨[],[],false⟩,0))))))))
def zy(x0:anY):=(El x0).o
def agw:=ajs.f0 157 [.str] [.jm,.bq] (fun a=>El a) Tryz.func157 { frz:=[3] }
def GH(x0:gD):Te ((anY)) Empty:=.l (x0.source++([58]:anY)) fun z1=>.l (z1++x0.target) fun z2=>.c (gI x0) fun y1=>.b (!y1) (.k []) (.b (!(x0.source==[])) (.q (decide (x0.source.length+([58]:anY).length<=aA)) (.q (decide (z1.length+x0.target.length<=aA)) (.b x0.readOnly (.q (decide (z2.length+([58,114,111]:anY).length<=aA)) (.k (z2++([58,114,111]:anY)))) (.k z2)))) (.b x0.readOnly (.q (decide (x0.target.length+([58,114,111]:anY).length<=aA)) (.k (x0.target++([58,114,111]:anY)))) (.k x0.target)))
def xC(x0:gD):=(GH x0).o
def ajt:=agw.f0 158 [.jm] [.str] (fun a=>GH a) Tryz.func158
inductive Tq where
 | e (x0:An)
 | h0 (v0:List An) (v1:Int) (v2:Int) (v3:Int) (v4:anY) (v5:form)
 | h1 (v0:List (anY)) (v1:Int) (v2:Int) (v3:An) (v4:Int) (v5:anY) (v6:form)
def oF:Tq->Te (An×Int) Tq
 | .e x0=>.c (jU (aj x0) 2) fun y1=>.b y1 (.g (.h0 x0.kids (aC x0.kids) 0 0 [] ⟨⟨0,[],[],[]⟩,false⟩)) (.c (jU (aj x0) 3) fun y2=>.b y2 (.g (.h1 x0.keys (aC x0.keys) 0 x0 0 [] ⟨⟨0,[],[],[]⟩,false⟩)) (.c eO fun y3=>.k (aj (y3.1),y3.2)))
 | .h0 v0 v1 v2 v3 v4 v5=>.l (aj v5.n) fun z2=>.l (Ai v0 v2 (dflt .ah)) fun z1=>.b (aF v2 v1) (.q (fU v0 v2) (.c (GD (aj z1)) fun y2=>.b (z1.kind==1) (.c (zy (z1.text)) fun y3=>.c (cu ⟨z2,v5.bad⟩ (!(y3.2==0))) fun y4=>.c (xC (y3.1)) fun y5=>.c (cO ⟨aj ((y4.1).n),(y4.1).bad⟩ ((y3.1).target) (dz y5)) fun y6=>.g (.h0 v0 v1 (au (v2+1)) v3 v4 ⟨aj ((y6.1).n),(y6.1).bad⟩)) (.c (cu ⟨z2,v5.bad⟩ (!y2.2)) fun y7=>.c (xC (y2.1)) fun y8=>.c (cO ⟨aj ((y7.1).n),(y7.1).bad⟩ ((y2.1).target) (dz y8)) fun y9=>.g (.h0 v0 v1 (au (v2+1)) v3 v4 ⟨aj ((y9.1).n),(y9.1).bad⟩)))) (.c (dD ⟨z2,v5.bad⟩) fun iC=>.k (aj (iC.2.1),iC.2.2))
 | .h1 v0 v1 v2 v3 v4 v5 v6=>.b (aF v2 v1) (.i v0 v2 fun y1=>.i v3.kids v2 fun y2=>.c (zy (y2.text)) fun y3=>.l (xC (y3.1)) fun z2=>.l (aM (aM (y2.kind != 1) (y3.2 != 0)) (!((y3.1).target==y1))) fun z1=>.q ((z2.isSome)||!(!z1)) (.c (cu ⟨aj v6.n,v6.bad⟩ (aM z1 (!(gv z2==y2.text)))) fun y4=>.c (cO ⟨aj ((y4.1).n),(y4.1).bad⟩ y1 (aj y2)) fun y5=>.g (.h1 v0 v1 (au (v2+1)) v3 v4 v5 ⟨aj ((y5.1).n),(y5.1).bad⟩))) (.c (dD ⟨aj v6.n,v6.bad⟩) fun y6=>.k (aj (y6.2.1),y6.2.2))
def uV(x0:An):=mu oF (.e x0)
def agx:=ajt.fl 116 [.ah] [.ah,.bq] oF (fun a=>.e a) (fun | .e x0=>.e [⟨.ah,x0⟩] | .h0 v0 v1 v2 v3 v4 v5=>.h 0 ⟨104,[(2,.ptr 0 0),(4,.ptr 1 0),(22,sL .ah v0),(23,sI v1),(24,sI v2)],[(0,.box [sI v3,sS v4,.d (.raw (.slice none 0 0)),.d (.raw (.slice none 0 0))]),(1,.box [.d (.int .i64 v5.n.kind),.d (.str v5.n.text),.d (.slice .str v5.n.keys),.d (.slice .ah v5.n.kids),.d (.bool v5.bad)])],2⟩ | .h1 v0 v1 v2 v3 v4 v5 v6=>.h 1 ⟨104,[(1,.ptr 0 0),(2,.ptr 1 0),(4,.ptr 2 0),(58,sL .str v0),(59,sI v1),(60,sI v2)],[(0,.box [.d (.int .i64 v3.kind),.d (.str v3.text),.d (.slice .str v3.keys),.d (.slice .ah v3.kids)]),(1,.box [sI v4,sS v5,.d (.raw (.slice none 0 0)),.d (.raw (.slice none 0 0))]),(2,.box [.d (.int .i64 v6.n.kind),.d (.str v6.n.text),.d (.slice .str v6.n.keys),.d (.slice .ah v6.n.kids),.d (.bool v6.bad)])],3⟩) { live:=[(0,[2,4,22,23,24]),(1,[1,2,4,58,59,60])],nk:=[(0,[(4,some 2,false,.str),(4,some 3,false,.ah)]),(1,[(4,some 2,false,.str),(4,some 3,false,.ah)])] } Tryz.func116
inductive gL where
 | e (x0:An)
 | h0 (v0:List (anY)) (v1:Int) (v2:Int) (v3:An) (v4:Int) (v5:anY) (v6:An)
def fE:gL->Te (An×(anY)×Int) gL
 | .e x0=>.b (x0.kind==0) (.k (⟨3,[],[],[]⟩,[],0)) (.b (x0.kind != 3) (.k (⟨0,[],[],[]⟩,[],10)) (.g (.h0 x0.keys (aC x0.keys) 0 x0 0 [] ⟨3,[],[],[]⟩)))
 | .h0 v0 v1 v2 v3 v4 v5 v6=>.l (aj v6) fun z2=>.l (gL.h0 v0 v1 (au (v2+1)) v3 v4 v5) fun z1=>.b (aF v2 v1) (.i v0 v2 fun y1=>.l (y1==[112,111,114,116,115]) fun z14=>.l (y1==[118,111,108,117,109,101,115]) fun z13=>.l (y1==[112,114,111,102,105,108,101,115]) fun z12=>.l (y1==[99,112,117,115]) fun AY=>.l (y1==[115,99,97,108,101]) fun tT=>.l (y1==[114,101,115,116,97,114,116]) fun z9=>.l (y1==[101,120,116,101,110,100,115]) fun z8=>.l (y1==[110,101,116,119,111,114,107,115]) fun z7=>.l (y1==[109,101,109,95,108,105,109,105,116]) fun z6=>.l (y1==[100,101,112,101,110,100,115,95,111,110]) fun z5=>.l (y1==[104,101,97,108,116,104,99,104,101,99,107]) fun z4=>.l (y1==[101,110,118,105,114,111,110,109,101,110,116]) fun z3=>.i v3.kids v2 fun y2=>.l (aj y2) fun zA=>.l (uV zA) fun z29=>.l (xk zA z3) fun z28=>.l (nR zA) fun z27=>.l (zU zA) fun z26=>.l (zR zA) fun z25=>.l (xB zA) fun z24=>.l (xw zA) fun z23=>.l (uS zA) fun z22=>.l (sQ zA) fun z21=>.l (sP zA) fun z20=>.l (y2.kind != 0) fun ku=>.l (y2.kind==0) fun z17=>.l (fM z2 y1 zA) fun jM=>.l (z1 (aY z2 y1 zA)) fun jE=>.c (tO y1) fun y3=>.b y3 (.g (z1 v6)) (.b (y1==[105,109,97,103,101]) (.b z17 (.b ku (.q jM (.g jE)) (.g (z1 v6))) (.c (zO zA) fun y4=>.b (y4.2 != 0) (.k (⟨0,[],[],[]⟩,y1,y4.2)) (.b ((y4.1).kind != 0) (.q (fM z2 y1 (aj (y4.1))) (.g (z1 (aY z2 y1 (aj (y4.1)))))) (.g (z1 v6))))) (.b (y1==[99,111,109,109,97,110,100]) (.b z17 (.b ku (.q jM (.g jE)) (.g (z1 v6))) (.c (xg zA) fun y5=>.b (y5.2 != 0) (.k (⟨0,[],[],[]⟩,y1,y5.2)) (.b ((y5.1).kind != 0) (.q (fM z2 y1 (aj (y5.1))) (.g (z1 (aY z2 y1 (aj (y5.1)))))) (.g (z1 v6))))) (.b z3 (.b z3 (.b z17 (.b ku (.q jM (.g jE)) (.g (z1 v6))) (.c z28 fun y6=>.b (y6.2 != 0) (.k (⟨0,[],[],[]⟩,y1,y6.2)) (.b ((y6.1).kind != 0) (.q (fM z2 y1 (aj (y6.1))) (.g (z1 (aY z2 y1 (aj (y6.1)))))) (.g (z1 v6))))) (.b z14 (.b z17 (.b ku (.q jM (.g jE)) (.g (z1 v6))) (.c (tV zA) fun y7=>.b (y7.2 != 0) (.k (⟨0,[],[],[]⟩,y1,y7.2)) (.b ((y7.1).kind != 0) (.q (fM z2 y1 (aj (y7.1))) (.g (z1 (aY z2 y1 (aj (y7.1)))))) (.g (z1 v6))))) (.b z13 (.b z17 (.b ku (.q jM (.g jE)) (.g (z1 v6))) (.c z29 fun y8=>.b (y8.2 != 0) (.k (⟨0,[],[],[]⟩,y1,y8.2)) (.b ((y8.1).kind != 0) (.q (fM z2 y1 (aj (y8.1))) (.g (z1 (aY z2 y1 (aj (y8.1)))))) (.g (z1 v6))))) (.b z7 (.b z7 (.b z17 (.b ku (.q jM (.g jE)) (.g (z1 v6))) (.c z27 fun y9=>.b (y9.2 != 0) (.k (⟨0,[],[],[]⟩,y1,y9.2)) (.b ((y9.1).kind != 0) (.q (fM z2 y1 (aj (y9.1))) (.g (z1 (aY z2 y1 (aj (y9.1)))))) (.g (z1 v6))))) (.b z5 (.b z17 (.b ku (.q jM (.g jE)) (.g (z1 v6))) (.c z25 fun iC=>.b (iC.2 != 0) (.k (⟨0,[],[],[]⟩,y1,iC.2)) (.b ((iC.1).kind != 0) (.q (fM z2 y1 (aj (iC.1))) (.g (z1 (aY z2 y1 (aj (iC.1)))))) (.g (z1 v6))))) (.b z8 (.b z17 (.b ku (.q jM (.g jE)) (.g (z1 v6))) (.c z20 fun yw=>.b (yw.2 != 0) (.k (⟨0,[],[],[]⟩,y1,yw.2)) (.b ((yw.1).kind != 0) (.q (fM z2 y1 (aj (yw.1))) (.g (z1 (aY z2 y1 (aj (yw.1)))))) (.g (z1 v6))))) (.b z4 (.b z17 (.b ku (.q jM (.g jE)) (.g (z1 v6))) (.c z22 fun nQ=>.b (nQ.2 != 0) (.k (⟨0,[],[],[]⟩,y1,nQ.2)) (.b ((nQ.1).kind != 0) (.q (fM z2 y1 (aj (nQ.1))) (.g (z1 (aY z2 y1 (aj (nQ.1)))))) (.g (z1 v6))))) (.b z9 (.b z17 (.b ku (.q jM (.g jE)) (.g (z1 v6))) (.c z21 fun y13=>.b (y13.2 != 0) (.k (⟨0,[],[],[]⟩,y1,y13.2)) (.b ((y13.1).kind != 0) (.q (fM z2 y1 (aj (y13.1))) (.g (z1 (aY z2 y1 (aj (y13.1)))))) (.g (z1 v6))))) (.b tT (.b z17 (.b ku (.q jM (.g jE)) (.g (z1 v6))) (.c z23 fun Am=>.b (Am.2 != 0) (.k (⟨0,[],[],[]⟩,y1,Am.2)) (.b ((Am.1).kind != 0) (.q (fM z2 y1 (aj (Am.1))) (.g (z1 (aY z2 y1 (aj (Am.1)))))) (.g (z1 v6))))) (.b AY (.b z17 (.b ku (.q jM (.g jE)) (.g (z1 v6))) (.c z26 fun y15=>.b (y15.2 != 0) (.k (⟨0,[],[],[]⟩,y1,y15.2)) (.b ((y15.1).kind != 0) (.q (fM z2 y1 (aj (y15.1))) (.g (z1 (aY z2 y1 (aj (y15.1)))))) (.g (z1 v6))))) (.b z6 (.b z17 (.b ku (.q jM (.g jE)) (.g (z1 v6))) (.c z24 fun Vi=>.b (Vi.2 != 0) (.k (⟨0,[],[],[]⟩,y1,Vi.2)) (.b ((Vi.1).kind != 0) (.q (fM z2 y1 (aj (Vi.1))) (.g (z1 (aY z2 y1 (aj (Vi.1)))))) (.g (z1 v6))))) (.k (⟨0,[],[],[]⟩,y1,10)))))))))) (.b z12 (.b z17 (.b ku (.q jM (.g jE)) (.g (z1 v6))) (.c z27 fun Vj=>.b (Vj.2 != 0) (.k (⟨0,[],[],[]⟩,y1,Vj.2)) (.b ((Vj.1).kind != 0) (.q (fM z2 y1 (aj (Vj.1))) (.g (z1 (aY z2 y1 (aj (Vj.1)))))) (.g (z1 v6))))) (.b z5 (.b z17 (.b ku (.q jM (.g jE)) (.g (z1 v6))) (.c z25 fun Vk=>.b (Vk.2 != 0) (.k (⟨0,[],[],[]⟩,y1,Vk.2)) (.b ((Vk.1).kind != 0) (.q (fM z2 y1 (aj (Vk.1))) (.g (z1 (aY z2 y1 (aj (Vk.1)))))) (.g (z1 v6))))) (.b z8 (.b z17 (.b ku (.q jM (.g jE)) (.g (z1 v6))) (.c z20 fun y19=>.b (y19.2 != 0) (.k (⟨0,[],[],[]⟩,y1,y19.2)) (.b ((y19.1).kind != 0) (.q (fM z2 y1 (aj (y19.1))) (.g (z1 (aY z2 y1 (aj (y19.1)))))) (.g (z1 v6))))) (.b z4 (.b z17 (.b ku (.q jM (.g jE)) (.g (z1 v6))) (.c z22 fun y20=>.b (y20.2 != 0) (.k (⟨0,[],[],[]⟩,y1,y20.2)) (.b ((y20.1).kind != 0) (.q (fM z2 y1 (aj (y20.1))) (.g (z1 (aY z2 y1 (aj (y20.1)))))) (.g (z1 v6))))) (.b z9 (.b z17 (.b ku (.q jM (.g jE)) (.g (z1 v6))) (.c z21 fun y21=>.b (y21.2 != 0) (.k (⟨0,[],[],[]⟩,y1,y21.2)) (.b ((y21.1).kind != 0) (.q (fM z2 y1 (aj (y21.1))) (.g (z1 (aY z2 y1 (aj (y21.1)))))) (.g (z1 v6))))) (.b tT (.b z17 (.b ku (.q jM (.g jE)) (.g (z1 v6))) (.c z23 fun y22=>.b (y22.2 != 0) (.k (⟨0,[],[],[]⟩,y1,y22.2)) (.b ((y22.1).kind != 0) (.q (fM z2 y1 (aj (y22.1))) (.g (z1 (aY z2 y1 (aj (y22.1)))))) (.g (z1 v6))))) (.b AY (.b z17 (.b ku (.q jM (.g jE)) (.g (z1 v6))) (.c z26 fun y23=>.b (y23.2 != 0) (.k (⟨0,[],[],[]⟩,y1,y23.2)) (.b ((y23.1).kind != 0) (.q (fM z2 y1 (aj (y23.1))) (.g (z1 (aY z2 y1 (aj (y23.1)))))) (.g (z1 v6))))) (.b z6 (.b z17 (.b ku (.q jM (.g jE)) (.g (z1 v6))) (.c z24 fun y24=>.b (y24.2 != 0) (.k (⟨0,[],[],[]⟩,y1,y24.2)) (.b ((y24.1).kind != 0) (.q (fM z2 y1 (aj (y24.1))) (.g (z1 (aY z2 y1 (aj (y24.1)))))) (.g (z1 v6))))) (.k (⟨0,[],[],[]⟩,y1,10)))))))))))))) (.b (y1==[108,97,98,101,108,115]) (.b z17 (.b ku (.q jM (.g jE)) (.g (z1 v6))) (.c z28 fun y25=>.b (y25.2 != 0) (.k (⟨0,[],[],[]⟩,y1,y25.2)) (.b ((y25.1).kind != 0) (.q (fM z2 y1 (aj (y25.1))) (.g (z1 (aY z2 y1 (aj (y25.1)))))) (.g (z1 v6))))) (.b z14 (.b z17 (.b ku (.q jM (.g jE)) (.g (z1 v6))) (.c (tV zA) fun y26=>.b (y26.2 != 0) (.k (⟨0,[],[],[]⟩,y1,y26.2)) (.b ((y26.1).kind != 0) (.q (fM z2 y1 (aj (y26.1))) (.g (z1 (aY z2 y1 (aj (y26.1)))))) (.g (z1 v6))))) (.b z13 (.b z17 (.b ku (.q jM (.g jE)) (.g (z1 v6))) (.c z29 fun y27=>.b (y27.2 != 0) (.k (⟨0,[],[],[]⟩,y1,y27.2)) (.b ((y27.1).kind != 0) (.q (fM z2 y1 (aj (y27.1))) (.g (z1 (aY z2 y1 (aj (y27.1)))))) (.g (z1 v6))))) (.b z7 (.b z7 (.b z17 (.b ku (.q jM (.g jE)) (.g (z1 v6))) (.c z27 fun y28=>.b (y28.2 != 0) (.k (⟨0,[],[],[]⟩,y1,y28.2)) (.b ((y28.1).kind != 0) (.q (fM z2 y1 (aj (y28.1))) (.g (z1 (aY z2 y1 (aj (y28.1)))))) (.g (z1 v6))))) (.b z5 (.b z17 (.b ku (.q jM (.g jE)) (.g (z1 v6))) (.c z25 fun y29=>.b (y29.2 != 0) (.k (⟨0,[],[],[]⟩,y1,y29.2)) (.b ((y29.1).kind != 0) (.q (fM z2 y1 (aj (y29.1))) (.g (z1 (aY z2 y1 (aj (y29.1)))))) (.g (z1 v6))))) (.b z8 (.b z17 (.b ku (.q jM (.g jE)) (.g (z1 v6))) (.c z20 fun Yz=>.b (Yz.2 != 0) (.k (⟨0,[],[],[]⟩,y1,Yz.2)) (.b ((Yz.1).kind != 0) (.q (fM z2 y1 (aj (Yz.1))) (.g (z1 (aY z2 y1 (aj (Yz.1)))))) (.g (z1 v6))))) (.b z4 (.b z17 (.b ku (.q jM (.g jE)) (.g (z1 v6))) (.c z22 fun y31=>.b (y31.2 != 0) (.k (⟨0,[],[],[]⟩,y1,y31.2)) (.b ((y31.1).kind != 0) (.q (fM z2 y1 (aj (y31.1))) (.g (z1 (aY z2 y1 (aj (y31.1)))))) (.g (z1 v6))))) (.b z9 (.b z17 (.b ku (.q jM (.g jE)) (.g (z1 v6))) (.c z21 fun y32=>.b (y32.2 != 0) (.k (⟨0,[],[],[]⟩,y1,y32.2)) (.b ((y32.1).kind != 0) (.q (fM z2 y1 (aj (y32.1))) (.g (z1 (aY z2 y1 (aj (y32.1)))))) (.g (z1 v6))))) (.b tT (.b z17 (.b ku (.q jM (.g jE)) (.g (z1 v6))) (.c z23 fun y33=>.b (y33.2 != 0) (.k (⟨0,[],[],[]⟩,y1,y33.2)) (.b ((y33.1).kind != 0) (.q (fM z2 y1 (aj (y33.1))) (.g (z1 (aY z2 y1 (aj (y33.1)))))) (.g (z1 v6))))) (.b AY (.b z17 (.b ku (.q jM (.g jE)) (.g (z1 v6))) (.c z26 fun y34=>.b (y34.2 != 0) (.k (⟨0,[],[],[]⟩,y1,y34.2)) (.b ((y34.1).kind != 0) (.q (fM z2 y1 (aj (y34.1))) (.g (z1 (aY z2 y1 (aj (y34.1)))))) (.g (z1 v6))))) (.b z6 (.b z17 (.b ku (.q jM (.g jE)) (.g (z1 v6))) (.c z24 fun y35=>.b (y35.2 != 0) (.k (⟨0,[],[],[]⟩,y1,y35.2)) (.b ((y35.1).kind != 0) (.q (fM z2 y1 (aj (y35.1))) (.g (z1 (aY z2 y1 (aj (y35.1)))))) (.g (z1 v6))))) (.k (⟨0,[],[],[]⟩,y1,10)))))))))) (.b z12 (.b z17 (.b ku (.q jM (.g jE)) (.g (z1 v6))) (.c z27 fun y36=>.b (y36.2 != 0) (.k (⟨0,[],[],[]⟩,y1,y36.2)) (.b ((y36.1).kind != 0) (.q (fM z2 y1 (aj (y36.1))) (.g (z1 (aY z2 y1 (aj (y36.1)))))) (.g (z1 v6))))) (.b z5 (.b z17 (.b ku (.q jM (.g jE)) (.g (z1 v6))) (.c z25 fun y37=>.b (y37.2 != 0) (.k (⟨0,[],[],[]⟩,y1,y37.2)) (.b ((y37.1).kind != 0) (.q (fM z2 y1 (aj (y37.1))) (.g (z1 (aY z2 y1 (aj (y37.1)))))) (.g (z1 v6))))) (.b z8 (.b z17 (.b ku (.q jM (.g jE)) (.g (z1 v6))) (.c z20 fun y38=>.b (y38.2 != 0) (.k (⟨0,[],[],[]⟩,y1,y38.2)) (.b ((y38.1).kind != 0) (.q (fM z2 y1 (aj (y38.1))) (.g (z1 (aY z2 y1 (aj (y38.1)))))) (.g (z1 v6))))) (.b z4 (.b z17 (.b ku (.q jM (.g jE)) (.g (z1 v6))) (.c z22 fun y39=>.b (y39.2 != 0) (.k (⟨0,[],[],[]⟩,y1,y39.2)) (.b ((y39.1).kind != 0) (.q (fM z2 y1 (aj (y39.1))) (.g (z1 (aY z2 y1 (aj (y39.1)))))) (.g (z1 v6))))) (.b z9 (.b z17 (.b ku (.q jM (.g jE)) (.g (z1 v6))) (.c z21 fun y40=>.b (y40.2 != 0) (.k (⟨0,[],[],[]⟩,y1,y40.2)) (.b ((y40.1).kind != 0) (.q (fM z2 y1 (aj (y40.1))) (.g (z1 (aY z2 y1 (aj (y40.1)))))) (.g (z1 v6))))) (.b tT (.b z17 (.b ku (.q jM (.g jE)) (.g (z1 v6))) (.c z23 fun y41=>.b (y41.2 != 0) (.k (⟨0,[],[],[]⟩,y1,y41.2)) (.b ((y41.1).kind != 0) (.q (fM z2 y1 (aj (y41.1))) (.g (z1 (aY z2 y1 (aj (y41.1)))))) (.g (z1 v6))))) (.b AY (.b z17 (.b ku (.q jM (.g jE)) (.g (z1 v6))) (.c z26 fun y42=>.b (y42.2 != 0) (.k (⟨0,[],[],[]⟩,y1,y42.2)) (.b ((y42.1).kind != 0) (.q (fM z2 y1 (aj (y42.1))) (.g (z1 (aY z2 y1 (aj (y42.1)))))) (.g (z1 v6))))) (.b z6 (.b z17 (.b ku (.q jM (.g jE)) (.g (z1 v6))) (.c z24 fun y43=>.b (y43.2 != 0) (.k (⟨0,[],[],[]⟩,y1,y43.2)) (.b ((y43.1).kind != 0) (.q (fM z2 y1 (aj (y43.1))) (.g (z1 (aY z2 y1 (aj (y43.1)))))) (.g (z1 v6))))) (.k (⟨0,[],[],[]⟩,y1,10)))))))))))))))))) (.q ((wg 10000 1000) z2) (.k (aj ((dS 1000) z2),[],0)))
def jR(x0:An):=mu fE (.e x0)
def FN:=(((agx.I 98 Tryz.func98).I 99 Tryz.func99).I 113 Tryz.func113).cl 36 [.ah,.str,.bq] [.v .ah,.c 98 [] []] fE (fun a=>.e a) (fun | .e x0=>.c [.v ⟨.ah,x0⟩,.c 98 [] []] | .h0 v0 v1 v2 v3 v4 v5 v6=>.h 0 ⟨57,[(1,sF 98),(2,.ptr 0 0),(4,.ptr 1 0),(7,.ptr 2 0),(23,sL .str v0),(24,sI v1),(25,sI v2)],[(0,.box [.d (.int .i64 v3.kind),.d (.str v3.text),.d (.slice .str v3.keys),.d (.slice .ah v3.kids)]),(1,.box [sI v4,sS v5,.d (.raw (.slice none 0 0)),.d (.raw (.slice none 0 0))]),(2,.box [.d (.int .i64 v6.kind),.d (.str v6.text),.d (.slice .str v6.keys),.d (.slice .ah v6.kids)])],3⟩) { live:=[(0,[1,2,4,7,23,24,25])],nk:=[(0,[(7,some 2,false,.str),(7,some 3,false,.ah)])] } Tryz.func36
def yQ(x0:An):Te (An×(anY)×Int) Empty:=.c (jR (aj x0)) fun y1=>.k (aj (y1.1),y1.2.1,y1.2.2)
def tY(x0:An):=(yQ x0).o
def ZO:=FN.f0 66 [.ah] [.ah,.str,.bq] (fun a=>yQ a) Tryz.func66
inductive tZ where
 | e (x0:An)
 | h0 (v0:List (anY)) (v1:Int) (v2:Int) (v3:An) (v4:Int) (v5:anY) (v6:An)
def gG:tZ->Te (An×(anY)×Int) tZ
 | .e x0=>.b (x0.kind==0) (.k (⟨3,[],[],[]⟩,[],0)) (.b (x0.kind != 3) (.k (⟨0,[],[],[]⟩,[],10)) (.g (.h0 x0.keys (aC x0.keys) 0 x0 0 [] ⟨3,[],[],[]⟩)))
 | .h0 v0 v1 v2 v3 v4 v5 v6=>.l (aj v6) fun z1=>.b (aF v2 v1) (.i v0 v2 fun y1=>.i v3.kids v2 fun y2=>.c (iQ y1) fun y3=>.b (!y3) (.c (zq [[115,101,114,118,105,99,101,115],y1]) fun y4=>.k (⟨0,[],[],[]⟩,y4,10)) (.c (tY (aj y2)) fun y5=>.c (zq [[115,101,114,118,105,99,101,115],y1,y5.2.1]) fun y6=>.b (y5.2.2 != 0) (.k (⟨0,[],[],[]⟩,y6,y5.2.2)) (.b ((y5.1).kind != 0) (.q (fM z1 y1 (aj (y5.1))) (.g (.h0 v0 v1 (au (v2+1)) v3 v4 v5 (aY z1 y1 (aj (y5.1)))))) (.g (.h0 v0 v1 (au (v2+1)) v3 v4 v5 v6))))) (.q ((wg 10000 1000) z1) (.k (aj ((dS 1000) z1),[],0)))
def jI(x0:An):=mu gG (.e x0)
def EG:=(ZO.I 63 Tryz.func63).cl 36 [.ah,.str,.bq] [.v .ah,.c 63 [] []] gG (fun a=>.e a) (fun | .e x0=>.c [.v ⟨.ah,x0⟩,.c 63 [] []] | .h0 v0 v1 v2 v3 v4 v5 v6=>.h 0 ⟨57,[(1,sF 63),(2,.ptr 0 0),(4,.ptr 1 0),(7,.ptr 2 0),(23,sL .str v0),(24,sI v1),(25,sI v2)],[(0,.box [.d (.int .i64 v3.kind),.d (.str v3.text),.d (.slice .str v3.keys),.d (.slice .ah v3.kids)]),(1,.box [sI v4,sS v5,.d (.raw (.slice none 0 0)),.d (.raw (.slice none 0 0))]),(2,.box [.d (.int .i64 v6.kind),.d (.str v6.text),.d (.slice .str v6.keys),.d (.slice .ah v6.kids)])],3⟩) { live:=[(0,[1,2,4,7,23,24,25])],nk:=[(0,[(7,some 2,false,.str),(7,some 3,false,.ah)])] } Tryz.func36
def wM(x0:An):Te (An×(anY)×Int) Empty:=.b (x0.kind != 3) (.k (⟨0,[],[],[]⟩,[115,101,114,118,105,99,101,115],10)) (.c (jI (aj x0)) fun y1=>.b (aab (y1.2.2==0) (aF 16 (aC ((y1.1).keys)))) (.k (⟨0,[],[],[]⟩,[115,101,114,118,105,99,101,115],9)) (.k (aj (y1.1),y1.2.1,y1.2.2)))
def lC(x0:An):=(wM x0).o
def XY:=EG.f0 39 [.ah] [.ah,.str,.bq] (fun a=>wM a) Tryz.func39
def abL(x0:anY)(x1:An):Te (An×(anY)×Int) Empty:=.l (Ch x1.text) fun z4=>.l (x0==[110,97,109,101]) fun z3=>.l (aj x1) fun z2=>.l (x0==[115,101,114,118,105,99,101,115]) fun z1=>.c (tO x0) fun y1=>.b y1 (.k (⟨0,[],[],[]⟩,[],0)) (.b (aab (aab (aab (!z3) (!z1)) (!(x0==[110,101,116,119,111,114,107,115]))) (!(x0==[118,111,108,117,109,101,115]))) (.k (⟨0,[],[],[]⟩,x0,10)) (.b (x1.kind==0) (.k (z2,[],0)) (.b z1 (.c (lC z2) fun y2=>.k (aj (y2.1),y2.2.1,y2.2.2)) (.b z3 (.q ((z4.isSome)||!(!(x1.kind != 1))) (.b (aM (x1.kind != 1) (!(gv z4))) (.k (⟨0,[],[],[]⟩,x0,10)) (.k (z2,[],0)))) (.c (nR z2) fun y3=>.k (aj (y3.1),x0,y3.2))))))
def abM:=XY.f0 37 [.str,.ah] [.ah,.str,.bq] (fun a=>abL a.1 a.2) Tryz.func37
inductive pG where
 | e (x0:An)
 | h0 (v0:List (anY)) (v1:Int) (v2:Int) (v3:An) (v4:Int) (v5:anY) (v6:An)
def iG:pG->Te (An×(anY)×Int) pG
 | .e x0=>.b (x0.kind==0) (.k (⟨3,[],[],[]⟩,[],0)) (.b (x0.kind != 3) (.k (⟨0,[],[],[]⟩,[],10)) (.g (.h0 x0.keys (aC x0.keys) 0 x0 0 [] ⟨3,[],[],[]⟩)))
 | .h0 v0 v1 v2 v3 v4 v5 v6=>.l (aj v6) fun z2=>.l (pG.h0 v0 v1 (au (v2+1)) v3 v4 v5) fun z1=>.b (aF v2 v1) (.i v0 v2 fun y1=>.l (y1==[110,97,109,101]) fun z4=>.l (y1==[115,101,114,118,105,99,101,115]) fun z3=>.i v3.kids v2 fun y2=>.l (Ch (y2.text)) fun z6=>.l (aj y2) fun z5=>.l (z1 (aY z2 y1 z5)) fun z7=>.c (tO y1) fun y3=>.b y3 (.g (z1 v6)) (.b (aab (aab (aab (!z4) (!z3)) (!(y1==[110,101,116,119,111,114,107,115]))) (!(y1==[118,111,108,117,109,101,115]))) (.k (⟨0,[],[],[]⟩,y1,10)) (.b (y2.kind==0) (.b (y2.kind != 0) (.q (fM z2 y1 z5) (.g z7)) (.g (z1 v6))) (.b z3 (.c (lC z5) fun y4=>.b (y4.2.2 != 0) (.k (⟨0,[],[],[]⟩,y4.2.1,y4.2.2)) (.b ((y4.1).kind != 0) (.q (fM z2 y1 (aj (y4.1))) (.g (z1 (aY z2 y1 (aj (y4.1)))))) (.g (z1 v6)))) (.b z4 (.q ((z6.isSome)||!(!(y2.kind != 1))) (.b (aM (y2.kind != 1) (!(gv z6))) (.k (⟨0,[],[],[]⟩,y1,10)) (.b (y2.kind != 0) (.q (fM z2 y1 z5) (.g z7)) (.g (z1 v6))))) (.c (nR z5) fun y5=>.b (y5.2 != 0) (.k (⟨0,[],[],[]⟩,y1,y5.2)) (.b ((y5.1).kind != 0) (.q (fM z2 y1 (aj (y5.1))) (.g (z1 (aY z2 y1 (aj (y5.1)))))) (.g (z1 v6))))))))) (.q ((wg 10000 1000) z2) (.k (aj ((dS 1000) z2),[],0)))
def jv(x0:An):=mu iG (.e x0)
def Iu:=(abM.I 37 Tryz.func37).cl 36 [.ah,.str,.bq] [.v .ah,.c 37 [] []] iG (fun a=>.e a) (fun | .e x0=>.c [.v ⟨.ah,x0⟩,.c 37 [] []] | .h0 v0 v1 v2 v3 v4 v5 v6=>.h 0 ⟨57,[(1,sF 37),(2,.ptr 0 0),(4,.ptr 1 0),(7,.ptr 2 0),(23,sL .str v0),(24,sI v1),(25,sI v2)],[(0,.box [.d (.int .i64 v3.kind),.d (.str v3.text),.d (.slice .str v3.keys),.d (.slice .ah v3.kids)]),(1,.box [sI v4,sS v5,.d (.raw (.slice none 0 0)),.d (.raw (.slice none 0 0))]),(2,.box [.d (.int .i64 v6.kind),.d (.str v6.text),.d (.slice .str v6.keys),.d (.slice .ah v6.kids)])],3⟩) { live:=[(0,[1,2,4,7,23,24,25])],nk:=[(0,[(7,some 2,false,.str),(7,some 3,false,.ah)])] } Tryz.func36
def Em(x0:An):Te (An×(anY)×Int) Empty:=.c (jv (aj x0)) fun y1=>.l (AZ (aj (y1.1))) fun z1=>.q ((z1.isSome)||!(y1.2.2==0)) (.b (aab (y1.2.2==0) (!(gv z1))) (.k (⟨0,[],[],[]⟩,[],9)) (.k (aj (y1.1),y1.2.1,y1.2.2)))
def kN(x0:An):=(Em x0).o
def agy:=Iu.f0 19 [.ah] [.ah,.str,.bq] (fun a=>Em a) Tryz.func19
def iY(c:Int):Int:=bif(bif decide (97<=c)then decide (c<=122)else false)then 1 else bif(bif decide (65<=c)then decide (c<=90)else false)then 2 else bif(bif decide (48<=c)then decide (c<=57)else false)then 3 else bif c==95 then 4 else bif c==45 then 5 else bif c==46 then 6 else 0
noncomputable def Li:iU E:=Ga (E:=E) .byte .int (fun _=>true) iY
def ajv:FuncId:=80
noncomputable def adB(_G:gY E)(x0:Int):Option (List (TV E)) :=
 bif(bif(decide ((97:Int)<=x0))then(decide (x0<=(122:Int)))else false)then some [⟨.int,(1:Int)⟩]else(bif(bif(decide ((65:Int)<=x0))then(decide (x0<=(90:Int)))else false)then some [⟨.int,(2:Int)⟩]else(bif(bif(decide ((48:Int)<=x0))then(decide (x0<=(57:Int)))else false)then some [⟨.int,(3:Int)⟩]else(bif(x0==(95:Int))then some [⟨.int,(4:Int)⟩]else(bif(x0==(45:Int))then some [⟨.int,(5:Int)⟩]else(bif(x0==(46:Int))then some [⟨.int,(6:Int)⟩]else some [⟨.int,(0:Int)⟩])))))
theorem avW:aJ E (iV [] [] [] []):=eU .nil .nil .nil .nil
theorem al8(h:∀(x0:Int),adB (Gr E Tryz.f80 [⟨.int,iY x0⟩]) x0=some [⟨.int,iY x0⟩]):aV E ajv Li:=zk avW mix Tryz.func80 (by kernel_rfl) (by kernel_rfl) (fun x0 _=>fT (H:={}) (t:=fun G=>adB G x0) (fun G=>by kernel_rfl) (h x0))
theorem RL:aV E ajv Li:=al8 fun c=>by simp only[adB,iY];grind
def NS(f:UInt8->Bool->Bool):anY->Bool->Bool
 | [],_=>true
 | c::t,b=>bif f c b then false else NS f t false
def kc(c:UInt8):Int:=iY ((c.toNat:Int))
def fV(c:UInt8)(b:Bool):Bool:=bif kc c==0 then true else(bif b then decide (3<kc c)else false)
def CV(c:UInt8)(b:Bool):Bool:=bif(bif(bif kc c==0 then true else kc c==2)then true else kc c==6)then true else(bif b then decide (3<kc c)else false)
def bP(f:UInt8->Bool->Bool)(s:anY):Bool:=bif(bif decide ((s.length:Int)<1)then true else decide ((24:Int)<(s.length:Int)))then false else NS f s true
noncomputable def RN:iU E:=Ga (E:=E) .str .bool (fun _=>true) (bP fV)
def YA:FuncId:=78
noncomputable def abN:Hint E:={ live:=[(0,[0,3])] }
noncomputable def Jq(v0:anY)(v1:Int):aI E:=aI.mk 33 [(0,.d (.str v0)),(3,.d (.int .i64 v1))] [] 0
noncomputable def RO(G:gY E)(x0:anY):Option (List (TV E)) :=
 bif(bif(decide ((x0.length:Int)<(1:Int)))then true else(decide ((24:Int)<(x0.length:Int))))then some [⟨.bool,false⟩]else G 0 (Jq x0 0)
noncomputable def Jr(G:gY E)(v0:anY)(v1:Int):Option (List (TV E)) :=
 bif(decide (v1<(v0.length:Int)))then(bif(decide ((0:Int)<=v1)&&decide (v1<(v0.length:Int)))then(bif(bif((iY (((List.getD v0 (Int.toNat v1) 0).toNat:Nat):Int))==(0:Int))then true else(bif(v1==(0:Int))then(decide ((3:Int)<(iY (((List.getD v0 (Int.toNat v1) 0).toNat:Nat):Int))))else false))then some [⟨.bool,false⟩]else G 0 (Jq v0 (au (v1+(1:Int)))))else none)else some [⟨.bool,true⟩]
theorem YB:aJ E (iV [(80,Li)] [] [] []):=eU (.cons RL .nil) .nil .nil .nil
theorem YC{res:List (TV E)}{v0:anY}{v1:Int}(h:Jr (Gr E Tryz.f78 res) v0 v1=some res):Ev E Tryz.f78 res 0 (Jq v0 v1):=Ev.of (H:=abN) YB mix (t:=fun G=>Jr G v0 v1) (fun G=>by kernel_rfl) h
theorem adC(h:∀(x0:anY),RO (Gr E Tryz.f78 [⟨.bool,(bP fV) x0⟩]) x0=some [⟨.bool,(bP fV) x0⟩]):aV E YA RN:=zk YB mix Tryz.func78 (by kernel_rfl) (by kernel_rfl) (fun x0 _=>fT (H:=abN) (t:=fun G=>RO G x0) (fun G=>by kernel_rfl) (h x0))
theorem agz(s:anY)(hs:s.length<=24):∀(m i:Nat),s.length-i=m->i<=s.length ->
  Ev E Tryz.f78 [⟨.bool,NS fV (s.drop i) ((i:Int)==0)⟩] 0 (Jq s i):=by
 intro m
 induction m with
 | zero =>intro i h1 h2;refine YC ?_;simp only[Jr,AP (show s.length<=i by omega),cond_false,abb (show s.length<=i by omega)];rfl
 | succ m ih =>
  intro i h1 h2;have hi:i<s.length:=by omega
  have e3:au ((i:Int)+1)=((i+1:Nat):Int):=by rw[aT (by omega) (by omega)];omega
  refine YC ?_;simp only[Jr,tL hi,d0,gd s _ i hi,acf,cond_true,e3];rw[<- abJ hi];simp only[NS];change (bif fV s[i] ((i:Int)==0)then _ else _)=_;cases fV s[i] ((i:Int)==0)with
  | true=>rfl
  | false =>have:=dZ (ih (i+1) (by omega) (by omega));rw[eT (show((i+1:Nat):Int)≠0 by omega)]at this;exact this
theorem al9:aV E YA RN:=adC fun s=>by
 simp only[RO,bP];cases hg:(bif decide ((s.length:Int)<1)then true else decide ((24:Int)<(s.length:Int)))with
 | true=>rfl
 | false =>
  have hs:s.length<=24:=by grind
  have:=dZ (agz s hs s.length 0 (by omega) (by omega));rw[acC]at this;exact this
noncomputable def RQ:iU E:=Ga (E:=E) .str .bool (fun _=>true) (bP CV)
def YD:FuncId:=45
noncomputable def abO:Hint E:={ live:=[(0,[0,3])] }
noncomputable def Js(v0:anY)(v1:Int):aI E:=aI.mk 41 [(0,.d (.str v0)),(3,.d (.int .i64 v1))] [] 0
noncomputable def RS(G:gY E)(x0:anY):Option (List (TV E)) :=
 bif(bif(decide ((x0.length:Int)<(1:Int)))then true else(decide ((24:Int)<(x0.length:Int))))then some [⟨.bool,false⟩]else G 0 (Js x0 0)
noncomputable def Jt(G:gY E)(v0:anY)(v1:Int):Option (List (TV E)) :=
 bif(decide (v1<(v0.length:Int)))then(bif(decide ((0:Int)<=v1)&&decide (v1<(v0.length:Int)))then(bif(bif(bif(bif((iY (((List.getD v0 (Int.toNat v1) 0).toNat:Nat):Int))==(0:Int))then true else((iY (((List.getD v0 (Int.toNat v1) 0).toNat:Nat):Int))==(2:Int)))then true else((iY (((List.getD v0 (Int.toNat v1) 0).toNat:Nat):Int))==(6:Int)))then true else(bif(v1==(0:Int))then(decide ((3:Int)<(iY (((List.getD v0 (Int.toNat v1) 0).toNat:Nat):Int))))else false))then some [⟨.bool,false⟩]else G 0 (Js v0 (au (v1+(1:Int)))))else none)else some [⟨.bool,true⟩]
theorem YE:aJ E (iV [(80,Li)] [] [] []):=eU (.cons RL .nil) .nil .nil .nil
theorem YF{res:List (TV E)}{v0:anY}{v1:Int}(h:Jt (Gr E Tryz.f45 res) v0 v1=some res):Ev E Tryz.f45 res 0 (Js v0 v1):=Ev.of (H:=abO) YE mix (t:=fun G=>Jt G v0 v1) (fun G=>by kernel_rfl) h
theorem adD(h:∀(x0:anY),RS (Gr E Tryz.f45 [⟨.bool,(bP CV) x0⟩]) x0=some [⟨.bool,(bP CV) x0⟩]):aV E YD RQ:=zk YE mix Tryz.func45 (by kernel_rfl) (by kernel_rfl) (fun x0 _=>fT (H:=abO) (t:=fun G=>RS G x0) (fun G=>by kernel_rfl) (h x0))
theorem agA(s:anY)(hs:s.length<=24):∀(m i:Nat),s.length-i=m->i<=s.length ->
  Ev E Tryz.f45 [⟨.bool,NS CV (s.drop i) ((i:Int)==0)⟩] 0 (Js s i):=by
 intro m
 induction m with
 | zero =>intro i h1 h2;refine YF ?_;simp only[Jt,AP (show s.length<=i by omega),cond_false,abb (show s.length<=i by omega)];rfl
 | succ m ih =>
  intro i h1 h2;have hi:i<s.length:=by omega
  have e3:au ((i:Int)+1)=((i+1:Nat):Int):=by rw[aT (by omega) (by omega)];omega
  refine YF ?_;simp only[Jt,tL hi,d0,gd s _ i hi,acf,cond_true,e3];rw[<- abJ hi];simp only[NS];change (bif CV s[i] ((i:Int)==0)then _ else _)=_;cases CV s[i] ((i:Int)==0)with
  | true=>rfl
  | false =>have:=dZ (ih (i+1) (by omega) (by omega));rw[eT (show((i+1:Nat):Int)≠0 by omega)]at this;exact this
theorem ama:aV E YD RQ:=adD fun s=>by
 simp only[RS,bP];cases hg:(bif decide ((s.length:Int)<1)then true else decide ((24:Int)<(s.length:Int)))with
 | true=>rfl
 | false =>
  have hs:s.length<=24:=by grind
  have:=dZ (agA s hs s.length 0 (by omega) (by omega));rw[acC]at this;exact this
def Me(c:UInt8)(b:Bool):Bool:=bif(bif kc c==0 then true else decide (4<kc c))then true else(bif b then kc c==3 else false)
noncomputable def Oo:iU E:=Ga (E:=E) .str .bool (fun _=>true) (bP Me)
def Vs:FuncId:=229
noncomputable def YG:Hint E:={ live:=[(0,[0,3])] }
noncomputable def GI(v0:anY)(v1:Int):aI E:=aI.mk 37 [(0,.d (.str v0)),(3,.d (.int .i64 v1))] [] 0
noncomputable def Oq(G:gY E)(x0:anY):Option (List (TV E)) :=
 bif(bif(decide ((x0.length:Int)<(1:Int)))then true else(decide ((24:Int)<(x0.length:Int))))then some [⟨.bool,false⟩]else G 0 (GI x0 0)
noncomputable def GJ(G:gY E)(v0:anY)(v1:Int):Option (List (TV E)) :=
 bif(decide (v1<(v0.length:Int)))then(bif(decide ((0:Int)<=v1)&&decide (v1<(v0.length:Int)))then(bif(bif(bif((iY (((List.getD v0 (Int.toNat v1) 0).toNat:Nat):Int))==(0:Int))then true else(decide ((4:Int)<(iY (((List.getD v0 (Int.toNat v1) 0).toNat:Nat):Int)))))then true else(bif(v1==(0:Int))then((iY (((List.getD v0 (Int.toNat v1) 0).toNat:Nat):Int))==(3:Int))else false))then some [⟨.bool,false⟩]else G 0 (GI v0 (au (v1+(1:Int)))))else none)else some [⟨.bool,true⟩]
theorem Vt:aJ E (iV [(80,Li)] [] [] []):=eU (.cons RL .nil) .nil .nil .nil
theorem Vu{res:List (TV E)}{v0:anY}{v1:Int}(h:GJ (Gr E Tryz.f229 res) v0 v1=some res):Ev E Tryz.f229 res 0 (GI v0 v1):=Ev.of (H:=YG) Vt mix (t:=fun G=>GJ G v0 v1) (fun G=>by kernel_rfl) h
theorem abP(h:∀(x0:anY),Oq (Gr E Tryz.f229 [⟨.bool,(bP Me) x0⟩]) x0=some [⟨.bool,(bP Me) x0⟩]):aV E Vs Oo:=zk Vt mix Tryz.func229 (by kernel_rfl) (by kernel_rfl) (fun x0 _=>fT (H:=YG) (t:=fun G=>Oq G x0) (fun G=>by kernel_rfl) (h x0))
theorem amb(s:anY)(hs:s.length<=24):∀(m i:Nat),s.length-i=m->i<=s.length ->
  Ev E Tryz.f229 [⟨.bool,NS Me (s.drop i) ((i:Int)==0)⟩] 0 (GI s i):=by
 intro m
 induction m with
 | zero =>intro i h1 h2;refine Vu ?_;simp only[GJ,AP (show s.length<=i by omega),cond_false,abb (show s.length<=i by omega)];rfl
 | succ m ih2 =>
  intro i h1 h2;have hi:i<s.length:=by omega
  have e3:au ((i:Int)+1)=((i+1:Nat):Int):=by rw[aT (by omega) (by omega)];omega
  refine Vu ?_;simp only[GJ,tL hi,d0,gd s _ i hi,e3,acf,cond_true];rw[<- abJ hi];simp only[NS];change (bif Me s[i] ((i:Int)==0)then _ else _)=_;cases Me s[i] ((i:Int)==0)with
  | true=>rfl
  | false =>have:=dZ (ih2 (i+1) (by omega) (by omega));rw[eT (show((i+1:Nat):Int)≠0 by omega)]at this;exact this
theorem ajw:aV E Vs Oo:=abP fun s=>by
 simp only[Oq,bP];cases hg:(bif decide ((s.length:Int)<1)then true else decide ((24:Int)<(s.length:Int)))with
 | true=>rfl
 | false =>
  have hs:s.length<=24:=by grind
  have:=dZ (amb s hs s.length 0 (by omega) (by omega));rw[acC]at this;exact this
theorem Vv{f:UInt8->Bool->Bool}{s:anY}(h:bP f s=true):1<=s.length/\s.length<=24:=by unfold bP at h;grind
def fO(l:List (anY))(s:anY):Bool:=l.any (· == s)
noncomputable def aqm:iU E:=Cv (E:=E) .bH .str .bool (fun l _=>mU l) fO
def asJ:FuncId:=186
noncomputable def axc:Hint E:={ live:=[(0,[0,1,5])] }
noncomputable def abQ(v0:List (anY))(v1:anY)(v2:Int):aI E:=aI.mk 18 [(0,.d (.slice .str v0)),(1,.d (.str v1)),(5,.d (.int .i64 v2))] [] 0
noncomputable def axd(G:gY E)(x0:List (anY))(x1:anY):Option (List (TV E)) :=
 G 0 (abQ x0 x1 0)
noncomputable def abR(G:gY E)(v0:List (anY))(v1:anY)(v2:Int):Option (List (TV E)) :=
 bif(decide (v2<(v0.length:Int)))then(bif(decide ((0:Int)<=v2)&&decide (v2<(v0.length:Int)))then(bif((List.getD v0 (Int.toNat v2) (dflt .str))==v1)then some [⟨.bool,true⟩]else G 0 (abQ v0 v1 (au (v2+(1:Int)))))else none)else some [⟨.bool,false⟩]
theorem asK:aJ E (iV [] [] [] []):=eU .nil .nil .nil .nil
theorem asL{res:List (TV E)}{v0:List (anY)}{v1:anY}{v2:Int}(h:abR (Gr E Tryz.f186 res) v0 v1 v2=some res):Ev E Tryz.f186 res 0 (abQ v0 v1 v2):=Ev.of (H:=axc) asK mix (t:=fun G=>abR G v0 v1 v2) (fun G=>by kernel_rfl) h
theorem asM(h:∀(x0:List (anY)) (x1:anY),(fun l _=>mU l) x0 x1=true->axd (Gr E Tryz.f186 [⟨.bool,fO x0 x1⟩]) x0 x1=some [⟨.bool,fO x0 x1⟩]):aV E asJ aqm:=zl asK mix Tryz.func186 (by kernel_rfl) (by kernel_rfl) (fun x0 x1 hk=>fT (H:=axc) (t:=fun G=>axd G x0 x1) (fun G=>by kernel_rfl) (h x0 x1 hk))
theorem aCl(l:List (anY))(s:anY)(hs:l.length<=1000000):∀(m i:Nat),l.length-i=m->i<=l.length ->
  Ev E Tryz.f186 [⟨.bool,(l.drop i).any (· == s)⟩] 0 (abQ l s i):=by
 intro m
 induction m with
 | zero =>intro i h1 h2;refine asL ?_;simp only[abR,AP (show l.length<=i by omega),cond_false,abb (show l.length<=i by omega)];rfl
 | succ m ih2 =>
  intro i h1 h2;have hi:i<l.length:=by omega
  have e3:au ((i:Int)+1)=((i+1:Nat):Int):=by rw[aT (by omega) (by omega)];omega
  refine asL ?_;simp only[abR,tL hi,d0,gd l _ i hi,e3,acf,cond_true];rw[<- abJ hi];rw[aj1];cases l[i]==s with
  | true=>rfl
  | false=>exact dZ (ih2 (i+1) (by omega) (by omega))
theorem aAD:aV E asJ aqm:=asM fun l s hk=>by have:=dZ (aCl l s (pF.1 hk) l.length 0 (by omega) (by omega));rw[acC]at this;exact this
def Vw(out:List (anY))(x:anY):Bool:=match out.getLast? with
 | none=>true
 | some z=>decide (z<x)
theorem last_at(out:List (anY))(z:anY)(hl:out.length<=1000000):List.getD (out++[z]) (Int.toNat (au ((((out++[z]).length:Nat):Int)-1))) (dflt .str)=z:=by rw[List.length_append,aa9,aT (by omega) (by omega),show(((out.length+1:Nat):Int)-1)=(out.length:Int)from by omega,gd _ _ out.length (by simp)];simp
theorem cExpr(out:List (anY))(x:anY)(hl:out.length<=1000000) :
  (bif(((out.length:Nat):Int)==(0:Int))then true else(!(Op.bytesLess x (List.getD out (Int.toNat (au (((out.length:Nat):Int)-1))) (dflt .str))||x==(List.getD out (Int.toNat (au (((out.length:Nat):Int)-1))) (dflt .str)))))=Vw out x:=by
 rcases List.eq_nil_or_concat out with rfl | ⟨o,z,rfl⟩
 ·rfl
 ·rw[List.concat_eq_append]at hl ⊢;rw[last_at o z (by simp at hl;omega),eT (by simp;omega),cond_false,Go.Proofs.bytesLess_eq];unfold Vw;grind
theorem aAE(out:List (anY))(hl:out.length<=1000000):((decide ((0:Int)<=(au (((out.length:Nat):Int)-1)))&&decide ((au (((out.length:Nat):Int)-1))<(out.length:Nat)))||!(!(((out.length:Nat):Int)==(0:Int))))=true:=by
 by_cases h:out.length=0
 ·rw[h];rfl
 ·rw[aT (by omega) (by omega),dT (by omega),dT (by omega)];rfl
structure Pre (l out:List (anY)):Prop where
 ss:Pl.SS out
 sub:∀x∈out,x∈l
 low:∀y∈l,y∉out->∀x∈out,x<y
theorem Pre.last{l out:List (anY)}(h:Pre l out){x:anY}(hx:x∈l):Vw out x=true↔x∉out:=by
 unfold Vw;rcases List.eq_nil_or_concat out with rfl | ⟨o,z,rfl⟩
 ·simp
 ·rw[List.concat_eq_append]at h ⊢;rw[List.getLast?_concat];simp only[ab6];constructor
  ·intro hz hm;have hs:=h.ss;unfold Pl.SS at hs;grind
  ·exact fun hn=>h.low x hx hn z (by simp)
def lack(l out:List (anY)):Nat:=l.countP fun x=>!decide (x∈out)
theorem afv(out:List (anY))(z:anY)(hz:z∉out):∀(l:List (anY)),lack l (out++[z])<=lack l out/\(z∈l->lack l (out++[z])+1<=lack l out)
 | []=>⟨ab8 _,fun h=>by cases h⟩
 | a::t=>by obtain⟨h1,h2⟩:=afv out z hz t;unfold lack at *;grind
def Best(l out:List (anY))(i:Nat)(b:Int):Prop :=
 (b = -1/\∀(k:Nat) x,k<i->l[k]? = some x->x∈out)\/∃(j:Nat) (z:anY),j<i/\b=(j:Int)/\l[j]? = some z/\z∉out/\∀(k:Nat) x,k<i->l[k]? = some x->x∉out->z<=x
noncomputable def JR:iU E:=Ga (E:=E) .bH .bH mU Pl.bn
def abS:FuncId:=35
noncomputable def Vx:Hint E:={ live:=[(0,[0,3]),(1,[0,3,4,5])] }
noncomputable def GK(v0:List (anY))(v1:Nat)(v2:List (anY)):aI E:=aI.mk 55 [(0,.d (.slice .str v0)),(3,.row .str v1 0)] [(0,.row .str v2)] 1
noncomputable def GL(v0:List (anY))(v1:Nat)(v2 v3:Int)(v4:List (anY)):aI E:=aI.mk 55 [(0,.d (.slice .str v0)),(3,.row .str v1 0),(4,.d (.int .i64 v2)),(5,.d (.int .i64 v3))] [(0,.row .str v4)] 1
noncomputable def afw(G:gY E)(x0:List (anY)):Option (List (TV E)) :=
 G 0 (GK x0 0 [])
noncomputable def RU(G:gY E)(v0:List (anY))(v1:Nat)(v2:List (anY)):Option (List (TV E)) :=
 G 1 (GL v0 v1 (-1) 0 v2)
noncomputable def K8(G:gY E)(v0:List (anY))(v1:Nat)(v2 v3:Int)(v4:List (anY)):Option (List (TV E)) :=
 bif(decide (v3<(v0.length:Int)))then(bif((decide ((0:Int)<=v3)&&decide (v3<(v0.length:Int)))||!(!(((v1:Nat):Int)==(0:Int))))then(bif((decide ((0:Int)<=(au (((v1:Nat):Int)-(1:Int))))&&decide ((au (((v1:Nat):Int)-(1:Int)))<(v1:Nat)))||!(!(((v1:Nat):Int)==(0:Int))))then(bif((decide ((0:Int)<=v3)&&decide (v3<(v0.length:Int)))||!((bif(((v1:Nat):Int)==(0:Int))then true else(!(Op.bytesLess (List.getD v0 (Int.toNat v3) (dflt .str)) (List.getD v4 (Int.toNat (au (((v1:Nat):Int)-(1:Int)))) (dflt .str))||(List.getD v0 (Int.toNat v3) (dflt .str))==(List.getD v4 (Int.toNat (au (((v1:Nat):Int)-(1:Int)))) (dflt .str)))))&&(!(decide (v2<(0:Int))))))then(bif((decide ((0:Int)<=v2)&&decide (v2<(v0.length:Int)))||!((bif(((v1:Nat):Int)==(0:Int))then true else(!(Op.bytesLess (List.getD v0 (Int.toNat v3) (dflt .str)) (List.getD v4 (Int.toNat (au (((v1:Nat):Int)-(1:Int)))) (dflt .str))||(List.getD v0 (Int.toNat v3) (dflt .str))==(List.getD v4 (Int.toNat (au (((v1:Nat):Int)-(1:Int)))) (dflt .str)))))&&(!(decide (v2<(0:Int))))))then(bif(bif(bif(((v1:Nat):Int)==(0:Int))then true else(!(Op.bytesLess (List.getD v0 (Int.toNat v3) (dflt .str)) (List.getD v4 (Int.toNat (au (((v1:Nat):Int)-(1:Int)))) (dflt .str))||(List.getD v0 (Int.toNat v3) (dflt .str))==(List.getD v4 (Int.toNat (au (((v1:Nat):Int)-(1:Int)))) (dflt .str)))))then(bif(decide (v2<(0:Int)))then true else(Op.bytesLess (List.getD v0 (Int.toNat v3) (dflt .str)) (List.getD v0 (Int.toNat v2) (dflt .str))))else false)then G 1 (GL v0 v1 v3 (au (v3+(1:Int))) v4)else G 1 (GL v0 v1 v2 (au (v3+(1:Int))) v4))else none)else none)else none)else none)else(bif(decide (v2<(0:Int)))then some [⟨.bH,v4⟩]else(bif(decide ((0:Int)<=v2)&&decide (v2<(v0.length:Int)))then(bif(decide ((v4.length+([(List.getD v0 (Int.toNat v2) (dflt .str))]:List (anY)).length)*16<=av))then G 0 (GK v0 (v4.length+([(List.getD v0 (Int.toNat v2) (dflt .str))]:List (anY)).length) (v4++([(List.getD v0 (Int.toNat v2) (dflt .str))]:List (anY))))else none)else none))
theorem RV:aJ E (iV [] [] [] []):=eU .nil .nil .nil .nil
theorem aqn{res:List (TV E)}{v0:List (anY)}{v1:Nat}{v2:List (anY)}(h:RU (Gr E Tryz.f35 res) v0 v1 v2=some res):Ev E Tryz.f35 res 0 (GK v0 v1 v2):=Ev.of (H:=Vx) RV mix (t:=fun G=>RU G v0 v1 v2) (fun G=>by kernel_rfl) h
theorem abT{res:List (TV E)}{v0:List (anY)}{v1:Nat}{v2 v3:Int}{v4:List (anY)}(h:K8 (Gr E Tryz.f35 res) v0 v1 v2 v3 v4=some res):Ev E Tryz.f35 res 1 (GL v0 v1 v2 v3 v4):=Ev.of (H:=Vx) RV mix (t:=fun G=>K8 G v0 v1 v2 v3 v4) (fun G=>by kernel_rfl) h
theorem agB(h:∀(x0:List (anY)),mU x0=true->afw (Gr E Tryz.f35 [⟨.bH,Pl.bn x0⟩]) x0=some [⟨.bH,Pl.bn x0⟩]):aV E abS JR:=zk RV mix Tryz.func35 (by kernel_rfl) (by kernel_rfl) (fun x0 hk=>fT (H:=Vx) (t:=fun G=>afw G x0) (fun G=>by kernel_rfl) (h x0 hk))
theorem asN(l out:List (anY))(hl:l.length<=1000000)(hp:Pre l out)(hn:out.length+lack l out<=l.length)
  (ih:∀z,Pre l (out++[z])->(out++[z]).length+lack l (out++[z])<=l.length->lack l (out++[z])<lack l out->Ev E Tryz.f35 [⟨.bH,Pl.bn l⟩] 0 (GK l (out++[z]).length (out++[z]))) :
  ∀(m i:Nat) (b:Int),l.length-i=m->i<=l.length->Best l out i b->Ev E Tryz.f35 [⟨.bH,Pl.bn l⟩] 1 (GL l out.length b i out):=by
 have ho:out.length<=1000000:=by omega
 intro m
 induction m with
 | zero =>
  intro i b h1 h2 hb;have e:i=l.length:=by omega
  subst e;refine abT ?_;simp only[K8,AP (ab8 l.length),cond_false];rcases hb with⟨rfl,hb⟩ | ⟨j,z,hj,rfl,hz,hzo,hmin⟩
  ·rw[dT (by decide),cond_true,Pl.tJ hp.ss fun x=>⟨hp.sub x,fun hx=>?_⟩];obtain⟨k,hk,rfl⟩:=List.mem_iff_getElem.1 hx;exact hb k _ hk (aaO hk)
  ·have hzl:l[j]=z:=by rw[aaO hj]at hz;exact Option.some.inj hz
   rw[dF (by omega),cond_false,d0,tL hj,gd l _ j hj,hzl];simp only[acf,cond_true];rw[dT (show(out.length+[z].length)*16<=av by rw[mb,aa9];omega),cond_true];have hmem:z∈l:=by rw[<- hzl];exact acw hj
   have hlk:=(afv out z hzo l).2 hmem;have hpre:Pre l (out++[z]):={
    ss:=by
     unfold Pl.SS;rw[List.pairwise_append];exact⟨hp.ss,List.pairwise_singleton _ _,fun x hx y hy=>by
      have:y=z:=by simpa using hy
      subst this;exact hp.low y hmem hzo x hx⟩
    sub:=fun x hx=>by
     rcases List.mem_append.1 hx with hx | hx
     ·exact hp.sub x hx
     ·have:x=z:=by simpa using hx
      subst this;exact hmem
    low:=fun y hy hyo x hx=>by
     have aAF:y∉out:=fun h=>hyo (List.mem_append_left _ h)
     have hyz:y≠z:=fun h=>hyo (by rw[h];simp)
     rcases List.mem_append.1 hx with hx | hx
     ·exact hp.low y hy aAF x hx
     ·have:x=z:=by simpa using hx
      subst this;obtain⟨k,hk,rfl⟩:=List.mem_iff_getElem.1 hy;exact Pl.Td (hmin k _ hk (aaO hk) aAF) (fun h=>hyz h.symm) }
   have:=dZ (ih z hpre (by rw[List.length_append,aa9];omega) (by omega));rw[List.length_append]at this;exact this
 | succ m ihm =>
  intro i b h1 h2 hb;have hi:i<l.length:=by omega
  have hgi:=aaO hi;refine abT ?_;have hlast:=hp.last (acw hi);have e3:au ((i:Int)+1)=((i+1:Nat):Int):=by rw[aT (by omega) (by omega)];omega
  simp only[K8,tL hi,d0,gd l _ i hi,cExpr out _ ho,aAE out ho,e3,acf,aci,cond_true];cases hc:Vw out l[i]with
  | false =>
   have hin:l[i]∈out:=Decidable.byContradiction fun h=>by rw[hlast.2 h]at hc;cases hc
   simp only[aju,acn,afZ,cond_true,cond_false];refine dZ (ihm (i+1) b (by omega) (by omega) ?_);rcases hb with⟨rfl,hb⟩ | ⟨j,z,hj,rfl,hz,hzo,hmin⟩
   ·refine .inl ⟨rfl,fun k x hk hx=>?_⟩;by_cases hki:k=i
    ·subst hki;rw[hgi]at hx;cases hx;exact hin
    ·exact hb k x (by omega) hx
   ·refine .inr ⟨j,z,by omega,rfl,hz,hzo,fun k x hk hx hxo=>?_⟩;by_cases hki:k=i
    ·subst hki;rw[hgi]at hx;cases hx;exact absurd hin hxo
    ·exact hmin k x (by omega) hx hxo
  | true =>
   have hno:l[i]∉out:=hlast.1 hc;rcases hb with⟨rfl,hb⟩ | ⟨j,z,hj,rfl,hz,hzo,hmin⟩
   ·have hd:decide ((-1:Int)<0)=true:=by decide
    simp only[hd,ab7,ajr,acn,afZ,cond_true];refine dZ (ihm (i+1) (i:Int) (by omega) (by omega) (.inr ⟨i,l[i],by omega,rfl,hgi,hno,fun k x hk hx hxo=>?_⟩));grind
   ·have hjl:j<l.length:=by omega
    have hzl:l[j]=z:=by rw[aaO hjl]at hz;exact Option.some.inj hz
    have hd:decide ((j:Int)<0)=false:=dF (by omega);simp only[hd,d0,tL hjl,gd l _ j hjl,hzl,acn,acf,aci,cond_true,cond_false,Go.Proofs.bytesLess_eq];by_cases hlt:l[i]<z
    ·rw[dT hlt,cond_true];refine dZ (ihm (i+1) (i:Int) (by omega) (by omega) (.inr ⟨i,l[i],by omega,rfl,hgi,hno,fun k x hk hx hxo=>?_⟩));by_cases hki:k=i
     ·subst hki;rw[hgi]at hx;cases hx;exact Pl.Zt.2 (Pl.LW _)
     ·exact Pl.abn (Pl.Zt.2 (Pl.ank hlt)) (hmin k x (by omega) hx hxo)
    ·rw[dF hlt,cond_false];refine dZ (ihm (i+1) (j:Int) (by omega) (by omega) (.inr ⟨j,z,by omega,rfl,hz,hzo,fun k x hk hx hxo=>?_⟩));by_cases hki:k=i
     ·subst hki;rw[hgi]at hx;cases hx;exact Pl.Zt.2 hlt
     ·exact hmin k x (by omega) hx hxo
theorem asO(l:List (anY))(hl:l.length<=1000000):∀(m:Nat) (out:List (anY)),lack l out=m->Pre l out->out.length+lack l out<=l.length->Ev E Tryz.f35 [⟨.bH,Pl.bn l⟩] 0 (GK l out.length out):=by
 intro m
 induction m using Nat.strongRecOn with
 | ind m ih =>intro out hm hp hn;refine aqn ?_;simp only[RU];exact dZ (asN l out hl hp hn (fun z h1 h2 h3=>ih (lack l (out++[z])) (by omega) (out++[z]) rfl h1 h2) l.length 0 (-1) (by omega) (by omega) (.inl ⟨rfl,fun k x hk=>by omega⟩))
theorem RX:aV E abS JR:=agB fun l hk=>by have hl:=pF.1 hk;have aGd:lack l []<=l.length:=List.countP_le_length;exact dZ (asO l hl _ [] rfl ⟨List.Pairwise.nil,fun x h=>(by cases h),fun y _ _ x h=>(by cases h)⟩ (by rw[List.length_nil];omega))
noncomputable def adE:iU E:=Cv (E:=E) .bH .bH .bH Tf both
def ajx:FuncId:=49
noncomputable def adF:Hint E:={ live:=[(0,[0,1,5,6]),(1,[1,5,7])],frz:=[10] }
noncomputable def RY(v0 v1:List (anY))(v2:Nat)(v3:Int)(v4:List (anY)):aI E:=aI.mk 37 [(0,.d (.slice .str v0)),(1,.d (.slice .str v1)),(5,.row .str v2 0),(6,.d (.int .i64 v3))] [(0,.row .str v4)] 1
noncomputable def RZ(v0:List (anY))(v1:Nat)(v2:Int)(v3:List (anY)):aI E:=aI.mk 37 [(1,.d (.slice .str v0)),(5,.row .str v1 0),(7,.d (.int .i64 v2))] [(0,.row .str v3)] 1
noncomputable def anH(G:gY E)(x0 x1:List (anY)):Option (List (TV E)) :=
 G 0 (RY x0 x1 0 0 [])
noncomputable def R3(G:gY E)(v0 v1:List (anY))(v2:Nat)(v3:Int)(v4:List (anY)):Option (List (TV E)) :=
 bif(decide (v3<(v0.length:Int)))then(bif(decide ((0:Int)<=v3)&&decide (v3<(v0.length:Int)))then(bif(decide ((v4.length+([(List.getD v0 (Int.toNat v3) (dflt .str))]:List (anY)).length)*16<=av))then G 0 (RY v0 v1 (v4.length+([(List.getD v0 (Int.toNat v3) (dflt .str))]:List (anY)).length) (au (v3+(1:Int))) (v4++([(List.getD v0 (Int.toNat v3) (dflt .str))]:List (anY))))else none)else none)else G 1 (RZ v1 v2 0 v4)
noncomputable def R4(G:gY E)(v0:List (anY))(_v1:Nat)(v2:Int)(v3:List (anY)):Option (List (TV E)) :=
 bif(decide (v2<(v0.length:Int)))then(bif(decide ((0:Int)<=v2)&&decide (v2<(v0.length:Int)))then(bif(decide ((v3.length+([(List.getD v0 (Int.toNat v2) (dflt .str))]:List (anY)).length)*16<=av))then G 1 (RZ v0 (v3.length+([(List.getD v0 (Int.toNat v2) (dflt .str))]:List (anY)).length) (au (v2+(1:Int))) (v3++([(List.getD v0 (Int.toNat v2) (dflt .str))]:List (anY))))else none)else none)else(bif(mU v3)then some [⟨.bH,(Pl.bn v3)⟩]else none)
theorem ZP:aJ E (iV [(35,JR)] [] [] []):=eU (.cons RX .nil) .nil .nil .nil
theorem ajy{res:List (TV E)}{v0 v1:List (anY)}{v2:Nat}{v3:Int}{v4:List (anY)}(h:R3 (Gr E Tryz.f49 res) v0 v1 v2 v3 v4=some res):Ev E Tryz.f49 res 0 (RY v0 v1 v2 v3 v4):=Ev.of (H:=adF) ZP mix (t:=fun G=>R3 G v0 v1 v2 v3 v4) (fun G=>by kernel_rfl) h
theorem ajz{res:List (TV E)}{v0:List (anY)}{v1:Nat}{v2:Int}{v3:List (anY)}(h:R4 (Gr E Tryz.f49 res) v0 v1 v2 v3=some res):Ev E Tryz.f49 res 1 (RZ v0 v1 v2 v3):=Ev.of (H:=adF) ZP mix (t:=fun G=>R4 G v0 v1 v2 v3) (fun G=>by kernel_rfl) h
theorem amc(h:∀(x0:List (anY)) (x1:List (anY)),Tf x0 x1=true->anH (Gr E Tryz.f49 [⟨.bH,both x0 x1⟩]) x0 x1=some [⟨.bH,both x0 x1⟩]):aV E ajx adE:=zl ZP mix Tryz.func49 (by kernel_rfl) (by kernel_rfl) (fun x0 x1 hk=>fT (H:=adF) (t:=fun G=>anH G x0 x1) (fun G=>by kernel_rfl) (h x0 x1 hk))
theorem ayT(b:List (anY))(hb:b.length<=100000):∀(m i v:Nat) (out:List (anY)),b.length-i=m->i<=b.length->out.length+m<=100000->Ev E Tryz.f49 [⟨.bH,Pl.bn (out++b.drop i)⟩] 1 (RZ b v i out):=by
 intro m
 induction m with
 | zero =>intro i v out h1 h2 h3;refine ajz ?_;have h6:mU out=true:=pF.2 (by omega);simp only[R4,AP (show b.length<=i by omega),cond_false,abb (show b.length<=i by omega),acg,h6,cond_true]
 | succ m ih =>
  intro i v out h1 h2 h3;have hi:i<b.length:=by omega
  refine ajz ?_;simp only[R4,tL hi,d0,gd b _ i hi,acf,cond_true];rw[dT (show(out.length+[b[i]].length)*16<=av by rw[mb,aa9];omega),cond_true,aT (by omega) (by omega),<- abJ hi];have:=dZ (ih (i+1) (out.length+[b[i]].length) (out++[b[i]]) (by omega) (by omega) (by rw[List.length_append,aa9];omega));rw[ab9]at this;exact this
theorem ayU(a b:List (anY))(hab:a.length+b.length<=100000):∀(m i v:Nat) (out:List (anY)),a.length-i=m->i<=a.length->out.length+m+b.length<=100000->Ev E Tryz.f49 [⟨.bH,Pl.bn (out++a.drop i++b)⟩] 0 (RY a b v i out):=by
 intro m
 induction m with
 | zero =>intro i v out h1 h2 h3;refine ajy ?_;simp only[R3,AP (show a.length<=i by omega),cond_false,abb (show a.length<=i by omega),acg];exact dZ (ayT b (by omega) b.length 0 v out (by omega) (by omega) (by omega))
 | succ m ih =>
  intro i v out h1 h2 h3;have hi:i<a.length:=by omega
  refine ajy ?_;simp only[R3,tL hi,d0,gd a _ i hi,acf,cond_true];rw[dT (show(out.length+[a[i]].length)*16<=av by rw[mb,aa9];omega),cond_true,aT (by omega) (by omega),<- abJ hi];have:=dZ (ih (i+1) (out.length+[a[i]].length) (out++[a[i]]) (by omega) (by omega) (by rw[List.length_append,aa9];omega));rw[ab9 out [a[i]]]at this;exact this
theorem avX:aV E ajx adE:=amc fun a b hk=>by simp only[Tf,ab6]at hk;have:=dZ (ayU a b hk a.length 0 0 [] (by omega) (by omega) (by rw[List.length_nil];omega));rw[acC,afn]at this;exact this
noncomputable def adG:iU E:=Cv (E:=E) .bH .bH .bool (fun a _=>mU a) equal
def ajA:FuncId:=22
noncomputable def anI:Hint E:={ live:=[(0,[0,1,5])] }
noncomputable def R5(v0 v1:List (anY))(v2:Int):aI E:=aI.mk 26 [(0,.d (.slice .str v0)),(1,.d (.slice .str v1)),(5,.d (.int .i64 v2))] [] 0
noncomputable def adH(G:gY E)(x0 x1:List (anY)):Option (List (TV E)) :=
 bif((x0.length:Int)!=(x1.length:Int))then some [⟨.bool,false⟩]else G 0 (R5 x0 x1 0)
noncomputable def R6(G:gY E)(v0 v1:List (anY))(v2:Int):Option (List (TV E)) :=
 bif(decide (v2<(v0.length:Int)))then(bif(decide ((0:Int)<=v2)&&decide (v2<(v0.length:Int)))then(bif(decide ((0:Int)<=v2)&&decide (v2<(v1.length:Int)))then(bif(!((List.getD v0 (Int.toNat v2) (dflt .str))==(List.getD v1 (Int.toNat v2) (dflt .str))))then some [⟨.bool,false⟩]else G 0 (R5 v0 v1 (au (v2+(1:Int)))))else none)else none)else some [⟨.bool,true⟩]
theorem ajB:aJ E (iV [] [] [] []):=eU .nil .nil .nil .nil
theorem ajC{res:List (TV E)}{v0 v1:List (anY)}{v2:Int}(h:R6 (Gr E Tryz.f22 res) v0 v1 v2=some res):Ev E Tryz.f22 res 0 (R5 v0 v1 v2):=Ev.of (H:=anI) ajB mix (t:=fun G=>R6 G v0 v1 v2) (fun G=>by kernel_rfl) h
theorem amd(h:∀(x0:List (anY)) (x1:List (anY)),(fun a _=>mU a) x0 x1=true->adH (Gr E Tryz.f22 [⟨.bool,equal x0 x1⟩]) x0 x1=some [⟨.bool,equal x0 x1⟩]):aV E ajA adG:=zl ajB mix Tryz.func22 (by kernel_rfl) (by kernel_rfl) (fun x0 x1 hk=>fT (H:=anI) (t:=fun G=>adH G x0 x1) (fun G=>by kernel_rfl) (h x0 x1 hk))
theorem aqo(a b:List (anY))(ha:a.length<=1000000)(hab:a.length=b.length):∀(m i:Nat),a.length-i=m->i<=a.length->Ev E Tryz.f22 [⟨.bool,a.drop i==b.drop i⟩] 0 (R5 a b i):=by
 intro m
 induction m with
 | zero =>intro i h1 h2;refine ajC ?_;simp only[R6,AP (show a.length<=i by omega),cond_false,abb (show a.length<=i by omega),abb (show b.length<=i by omega)];rfl
 | succ m ih =>
  intro i h1 h2;have hi:i<a.length:=by omega
  have hj:i<b.length:=by omega
  refine ajC ?_;simp only[R6,tL hi,tL hj,d0,gd a _ i hi,gd b _ i hj,acf,cond_true];rw[<- abJ hi,<- abJ hj,aT (by omega) (by omega)];by_cases hs:a[i]=b[i]
  ·have e:(a[i]::a.drop (i+1)==b[i]::b.drop (i+1))=(a.drop (i+1)==b.drop (i+1)):=by rw[List.cons_beq_cons];simp[hs]
   rw[e,show(a[i]==b[i])=true from by simpa using hs];exact dZ (ih (i+1) (by omega) (by omega))
  ·have e:(a[i]::a.drop (i+1)==b[i]::b.drop (i+1))=false:=by rw[List.cons_beq_cons];simp[hs]
   grind
theorem avY:aV E ajA adG:=amd fun a b hk=>by
 simp only[adH];by_cases h:a.length=b.length
 ·rw[kZ (by omega),cond_false];have:=aqo a b (pF.1 hk) h a.length 0 (by omega) (by omega);rw[acC,acC]at this;exact dZ this
 ·rw[jK (by omega),cond_true];have:equal a b=false:=by simp only[equal,afB];exact fun e=>h (by rw[e])
  rw[this]
noncomputable def abU:iU E:=apM (E:=E) .ah .str .ah .bool (fun n _=>fit n) aG aB
def anJ:FuncId:=29
noncomputable def asP:Hint E:={ live:=[(0,[1,2,4,6])] }
noncomputable def Xw(v0:anY)(v1 v2:Int)(v3:anY)(v4:List (anY))(v5:List An)(v6:Int)(v7:anY):aI E:=aI.mk 30 [(1,.d (.str v0)),(2,.ptr 0 0),(4,.ptr 1 0),(6,.d (.int .i64 v1))] [(0,.box [.d (.int .i64 v2),.d (.str v3),.d (.slice .str v4),.d (.slice .ah v5)]),(1,.box [.d (.int .i64 v6),.d (.str v7),.d (.raw (.slice none 0 0)),.d (.raw (.slice none 0 0))])] 2
noncomputable def abV(G:gY E)(x0:An)(x1:anY):Option (List (TV E)) :=
 bif(x0.kind==(3:Int))then G 0 (Xw x1 0 x0.kind x0.text x0.keys x0.kids 0 [])else some [⟨.ah,(⟨0,[],[],[]⟩:An)⟩,⟨.bool,false⟩]
noncomputable def Xx(G:gY E)(v0:anY)(v1 v2:Int)(v3:anY)(v4:List (anY))(v5:List An)(v6:Int)(v7:anY):Option (List (TV E)) :=
 bif(decide (v1<(v4.length:Int)))then(bif(decide ((0:Int)<=v1)&&decide (v1<(v4.length:Int)))then(bif((List.getD v4 (Int.toNat v1) (dflt .str))==v0)then(bif(decide ((0:Int)<=v1)&&decide (v1<(v5.length:Int)))then some [⟨.ah,(⟨(List.getD v5 (Int.toNat v1) (dflt .ah)).kind,(List.getD v5 (Int.toNat v1) (dflt .ah)).text,(List.getD v5 (Int.toNat v1) (dflt .ah)).keys,(List.getD v5 (Int.toNat v1) (dflt .ah)).kids⟩:An)⟩,⟨.bool,true⟩]else none)else G 0 (Xw v0 (au (v1+(1:Int))) v2 v3 v4 v5 v6 v7))else none)else some [⟨.ah,(⟨0,[],[],[]⟩:An)⟩,⟨.bool,false⟩]
theorem anK:aJ E (iV [] [] [] []):=eU .nil .nil .nil .nil
theorem anL{res:List (TV E)}{v0:anY}{v1 v2:Int}{v3:anY}{v4:List (anY)}{v5:List An}{v6:Int}{v7:anY}(h:Xx (Gr E Tryz.f29 res) v0 v1 v2 v3 v4 v5 v6 v7=some res):Ev E Tryz.f29 res 0 (Xw v0 v1 v2 v3 v4 v5 v6 v7):=Ev.of (H:=asP) anK mix (t:=fun G=>Xx G v0 v1 v2 v3 v4 v5 v6 v7) (fun G=>by kernel_rfl) h
theorem aqp(h:∀(x0:An) (x1:anY),(fun n _=>fit n) x0 x1=true->abV (Gr E Tryz.f29 [⟨.ah,aG x0 x1⟩,⟨.bool,aB x0 x1⟩]) x0 x1=some [⟨.ah,aG x0 x1⟩,⟨.bool,aB x0 x1⟩]):aV E anJ abU:=anb anK mix Tryz.func29 (by kernel_rfl) (by kernel_rfl) (fun x0 x1 hk=>fT (H:=asP) (t:=fun G=>abV G x0 x1) (fun G=>by kernel_rfl) (h x0 x1 hk))
theorem ayV(keys:List (anY))(kids:List An)(k:anY)(hl:keys.length=kids.length)(i:Nat)(hi:i<keys.length):lk (keys.drop i) (kids.drop i) k=if k=keys[i]then some (kids[i]'(by omega))else lk (keys.drop (i+1)) (kids.drop (i+1)) k:=by rw[<- abJ hi,<- abJ (show i<kids.length by omega)];rfl
theorem asQ(n:An)(k:anY)(hl:n.keys.length=n.kids.length)(hb:n.keys.length<=1000000)(u0:Int)(u1:anY):∀(m i:Nat),n.keys.length-i=m->i<=n.keys.length ->
  Ev E Tryz.f29 [⟨.ah,(lk (n.keys.drop i) (n.kids.drop i) k).getD zn⟩,⟨.bool,(lk (n.keys.drop i) (n.kids.drop i) k).isSome⟩] 0 (Xw k i n.kind n.text n.keys n.kids u0 u1):=by
 intro m
 induction m with
 | zero =>intro i h1 h2;refine anL ?_;simp only[Xx,AP (show n.keys.length<=i by omega),cond_false,abb (show n.keys.length<=i by omega)];rfl
 | succ m ih =>
  intro i h1 h2;have hi:i<n.keys.length:=by omega
  have hj:i<n.kids.length:=by omega
  refine anL ?_;simp only[Xx,tL hi,tL hj,d0,gd n.keys _ i hi,gd n.kids _ i hj,acf,cond_true,fP];rw[ayV n.keys n.kids k hl i hi];by_cases e:k=n.keys[i]
  ·grind
  ·rw[if_neg e,show(n.keys[i]==k)=false from by simpa using fun h=>e h.symm,cond_false,aT (by omega) (by omega)];exact dZ (ih (i+1) (by omega) (by omega))
theorem anM:aV E anJ abU:=aqp fun n k hk=>by
 have hf:=sM.1 hk;unfold aG aB get;by_cases h:n.kind=3
 ·simp only[abV,jL h,cond_true,if_pos h];have:=dZ (asQ n k (hf.2 h) hf.1.1 0 [] n.keys.length 0 (by omega) (by omega));grind
 ·simp only[abV,eT h,cond_false,if_neg h];rfl
noncomputable def Ba(n:Nat):iU E:=Cv (E:=E) .ah .ah .bool (Gi n) (same n)
def EX:FuncId:=9
noncomputable def ajD:Hint E:={ live:=[(0,[2,3,5])] }
noncomputable def NT(v0 v1:Int)(v2:anY)(v3:List (anY))(v4:List An)(v5:Int)(v6:anY)(v7:List (anY))(v8:List An):aI E:=aI.mk 54 [(2,.ptr 0 0),(3,.ptr 1 0),(5,.d (.int .i64 v0))] [(0,.box [.d (.int .i64 v1),.d (.str v2),.d (.slice .str v3),.d (.slice .ah v4)]),(1,.box [.d (.int .i64 v5),.d (.str v6),.d (.slice .str v7),.d (.slice .ah v8)])] 2
noncomputable def ZQ(_n:Nat)(G:gY E)(x0 x1:An):Option (List (TV E)) :=
 bif(((fun a _=>mU a) x0.keys x1.keys)||!(!(bif(x0.kind != x1.kind)then true else(!(x0.text==x1.text)))))then(bif(bif(bif(bif(x0.kind != x1.kind)then true else(!(x0.text==x1.text)))then true else(!(equal x0.keys x1.keys)))then true else((x0.kids.length:Int)!=(x1.kids.length:Int)))then some [⟨.bool,false⟩]else G 0 (NT 0 x0.kind x0.text x0.keys x0.kids x1.kind x1.text x1.keys x1.kids))else none
noncomputable def NU(n:Nat)(G:gY E)(v0 v1:Int)(v2:anY)(v3:List (anY))(v4:List An)(v5:Int)(v6:anY)(v7:List (anY))(v8:List An):Option (List (TV E)) :=
 bif(decide (v0<(v4.length:Int)))then(bif(decide ((0:Int)<=v0)&&decide (v0<(v4.length:Int)))then(bif(decide ((0:Int)<=v0)&&decide (v0<(v8.length:Int)))then(bif((Gi n) (⟨(List.getD v4 (Int.toNat v0) (dflt .ah)).kind,(List.getD v4 (Int.toNat v0) (dflt .ah)).text,(List.getD v4 (Int.toNat v0) (dflt .ah)).keys,(List.getD v4 (Int.toNat v0) (dflt .ah)).kids⟩:An) (⟨(List.getD v8 (Int.toNat v0) (dflt .ah)).kind,(List.getD v8 (Int.toNat v0) (dflt .ah)).text,(List.getD v8 (Int.toNat v0) (dflt .ah)).keys,(List.getD v8 (Int.toNat v0) (dflt .ah)).kids⟩:An))then(bif(!((same n) (⟨(List.getD v4 (Int.toNat v0) (dflt .ah)).kind,(List.getD v4 (Int.toNat v0) (dflt .ah)).text,(List.getD v4 (Int.toNat v0) (dflt .ah)).keys,(List.getD v4 (Int.toNat v0) (dflt .ah)).kids⟩:An) (⟨(List.getD v8 (Int.toNat v0) (dflt .ah)).kind,(List.getD v8 (Int.toNat v0) (dflt .ah)).text,(List.getD v8 (Int.toNat v0) (dflt .ah)).keys,(List.getD v8 (Int.toNat v0) (dflt .ah)).kids⟩:An)))then some [⟨.bool,false⟩]else G 0 (NT (au (v0+(1:Int))) v1 v2 v3 v4 v5 v6 v7 v8))else none)else none)else none)else some [⟨.bool,true⟩]
theorem asR:rz Tryz.prog 9:=⟨Tryz.f9,Tryz.func9,by kernel_rfl,by kernel_rfl⟩
theorem afx(n:Nat)(ih:aV E EX (Ba n)):aJ E (iV [(22,adG),(9,Ba n)] [] [] []):=eU (.cons avY (.cons ih .nil)) .nil .nil .nil
theorem afy(n:Nat)(ih:aV E EX (Ba n)){res:List (TV E)}{v0 v1:Int}{v2:anY}{v3:List (anY)}{v4:List An}{v5:Int}{v6:anY}{v7:List (anY)}{v8:List An}(h:NU n (Gr E Tryz.f9 res) v0 v1 v2 v3 v4 v5 v6 v7 v8=some res):Ev E Tryz.f9 res 0 (NT v0 v1 v2 v3 v4 v5 v6 v7 v8):=Ev.of (H:=ajD) (afx n ih) mix (t:=fun G=>NU n G v0 v1 v2 v3 v4 v5 v6 v7 v8) (fun G=>by kernel_rfl) h
theorem ajE(n:Nat)(ih:aV E EX (Ba n))(h:∀(x0:An) (x1:An),(Gi (n+1)) x0 x1=true->ZQ n (Gr E Tryz.f9 [⟨.bool,(same (n+1)) x0 x1⟩]) x0 x1=some [⟨.bool,(same (n+1)) x0 x1⟩]):aV E EX (Ba (n+1)):=zl (afx n ih) mix Tryz.func9 (by kernel_rfl) (by kernel_rfl) (fun x0 x1 hk=>fT (H:=ajD) (t:=fun G=>ZQ n G x0 x1) (fun G=>by kernel_rfl) (h x0 x1 hk))
theorem ame(n:Nat)(ih:aV E EX (Ba n))(x y:An)(ha:x.kids.length<=1000000)(hab:x.kids.length=y.kids.length)(hda:∀z∈x.kids,dp n z=true)(hdb:∀z∈y.kids,dp n z=true):∀(m i:Nat),x.kids.length-i=m->i<=x.kids.length ->
  Ev E Tryz.f9 [⟨.bool,Gf (same n) (x.kids.drop i) (y.kids.drop i)⟩] 0 (NT i x.kind x.text x.keys x.kids y.kind y.text y.keys y.kids):=by
 intro m
 induction m with
 | zero =>intro i h1 h2;refine afy n ih ?_;simp only[NU,AP (show x.kids.length<=i by omega),cond_false,abb (show x.kids.length<=i by omega),abb (show y.kids.length<=i by omega)];rfl
 | succ m ih2 =>
  intro i h1 h2;have hi:i<x.kids.length:=by omega
  have hj:i<y.kids.length:=by omega
  have hok:Gi n x.kids[i] y.kids[i]=true:=by simp only[Gi,hda _ (acw hi),hdb _ (acw hj),acf]
  refine afy n ih ?_;simp only[NU,tL hi,tL hj,d0,gd x.kids _ i hi,gd y.kids _ i hj,acf,cond_true,fP,hok];rw[<- abJ hi,<- abJ hj,aT (by omega) (by omega)];simp only[Gf];cases same n x.kids[i] y.kids[i]with
  | false=>rfl
  | true =>simp only[ab7,cond_false,afq];exact dZ (ih2 (i+1) (by omega) (by omega))
theorem asS(n:Nat):aV E EX (Ba n):=by
 induction n with
 | zero=>exact anc asR fun x y=>rfl
 | succ n ih =>
  refine ajE n ih fun a b hk=>?_
  simp only[Gi,abK]at hk;obtain⟨ha,ha2⟩:=Gg.1 hk.1;obtain⟨hb,hb2⟩:=Gg.1 hk.2;have hl:mU a.keys=true:=pF.2 ha.1;simp only[ZQ,hl,aci,cond_true,same,equal];by_cases h1:a.kind=b.kind
  ·rw[kZ h1,jL h1];cases a.text==b.text with
   | false=>rfl
   | true =>
    cases a.keys==b.keys with
    | false=>rfl
    | true =>
     simp only[ab7,cond_false,afq];by_cases hlen:a.kids.length=b.kids.length
     ·rw[kZ (by omega),cond_false];have:=dZ (ame n ih a b ha.2 hlen ha2 hb2 a.kids.length 0 (by omega) (by omega));grind
     ·rw[jK (by omega),cond_true,U4 hlen]
  ·rw[jK h1,eT h1];rfl
def aL:Nat->An->An
 | 0,x=>x
 | n+1,x=>bif x.kind==3 then⟨x.kind,x.text,Pl.bn x.keys,(Pl.bn x.keys).map fun k=>aL n (aG x k)⟩else⟨x.kind,x.text,[],x.kids.map (aL n)⟩
noncomputable def kW(n:Nat):iU E:=Ga (E:=E) .ah .ah (wg 10000 n) (aL n)
def sG:FuncId:=47
noncomputable def R7:Hint E:={ live:=[(0,[1,2,3,4,5]),(1,[1,2,3,8])],nk:=[(0,[(3,some 2,true,.str),(3,some 3,true,.ah)]),(1,[(3,some 3,true,.ah)])] }
noncomputable def Ju(v0:List (anY))(v1 v2:Int)(v3:anY)(v4:List (anY))(v5:List An)(v6:Int)(v7:anY)(v8:Int)(v9:anY)(v10:List (anY))(v11:List An):aI E:=aI.mk 71 [(1,.ptr 0 0),(2,.ptr 1 0),(3,.ptr 2 0),(4,.d (.slice .str v0)),(5,.d (.int .i64 v1))] [(0,.box [.d (.int .i64 v2),.d (.str v3),.d (.slice .str v4),.d (.slice .ah v5)]),(1,.box [.d (.int .i64 v6),.d (.str v7),.d (.raw (.slice none 0 0)),.d (.raw (.slice none 0 0))]),(2,.box [.d (.int .i64 v8),.d (.str v9),.grow .str v10 3,.grow .ah v11 4]),(3,.tail true),(4,.tail true)] 5
noncomputable def Jv(v0 v1:Int)(v2:anY)(v3:List (anY))(v4:List An)(v5:Int)(v6:anY)(v7:Int)(v8:anY)(v9:List An):aI E:=aI.mk 71 [(1,.ptr 0 0),(2,.ptr 1 0),(3,.ptr 2 0),(8,.d (.int .i64 v0))] [(0,.box [.d (.int .i64 v1),.d (.str v2),.d (.slice .str v3),.d (.slice .ah v4)]),(1,.box [.d (.int .i64 v5),.d (.str v6),.d (.raw (.slice none 0 0)),.d (.raw (.slice none 0 0))]),(2,.box [.d (.int .i64 v7),.d (.str v8),.d (.raw (.slice none 0 0)),.grow .ah v9 3]),(3,.tail true)] 4
noncomputable def R8(_n:Nat)(G:gY E)(x0:An):Option (List (TV E)) :=
 bif(x0.kind==(3:Int))then(bif(mU x0.keys)then G 0 (Ju (Pl.bn x0.keys) 0 x0.kind x0.text x0.keys x0.kids 0 [] x0.kind x0.text [] [])else none)else G 1 (Jv 0 x0.kind x0.text x0.keys x0.kids 0 [] x0.kind x0.text [])
noncomputable def Jw(n:Nat)(G:gY E)(v0:List (anY))(v1 v2:Int)(v3:anY)(v4:List (anY))(v5:List An)(v6:Int)(v7:anY)(v8:Int)(v9:anY)(v10:List (anY))(v11:List An):Option (List (TV E)) :=
 bif(decide (v1<(v0.length:Int)))then(bif(decide ((0:Int)<=v1)&&decide (v1<(v0.length:Int)))then(bif((fun n _=>fit n) (⟨v2,v3,v4,v5⟩:An) (List.getD v0 (Int.toNat v1) (dflt .str)))then(bif(decide ((0:Int)<=v1)&&decide (v1<(v0.length:Int)))then(bif(decide ((v10.length+([(List.getD v0 (Int.toNat v1) (dflt .str))]:List (anY)).length)*16<=av))then(bif((wg 10000 n) (⟨(aG ⟨v2,v3,v4,v5⟩ (List.getD v0 (Int.toNat v1) (dflt .str))).kind,(aG ⟨v2,v3,v4,v5⟩ (List.getD v0 (Int.toNat v1) (dflt .str))).text,(aG ⟨v2,v3,v4,v5⟩ (List.getD v0 (Int.toNat v1) (dflt .str))).keys,(aG ⟨v2,v3,v4,v5⟩ (List.getD v0 (Int.toNat v1) (dflt .str))).kids⟩:An))then(bif(decide ((v11.length+([((aL n) (⟨(aG ⟨v2,v3,v4,v5⟩ (List.getD v0 (Int.toNat v1) (dflt .str))).kind,(aG ⟨v2,v3,v4,v5⟩ (List.getD v0 (Int.toNat v1) (dflt .str))).text,(aG ⟨v2,v3,v4,v5⟩ (List.getD v0 (Int.toNat v1) (dflt .str))).keys,(aG ⟨v2,v3,v4,v5⟩ (List.getD v0 (Int.toNat v1) (dflt .str))).kids⟩:An))]:List An).length)*72<=av))then G 0 (Ju v0 (au (v1+(1:Int))) v2 v3 v4 v5 v6 v7 v8 v9 (v10++([(List.getD v0 (Int.toNat v1) (dflt .str))]:List (anY))) (v11++([((aL n) (⟨(aG ⟨v2,v3,v4,v5⟩ (List.getD v0 (Int.toNat v1) (dflt .str))).kind,(aG ⟨v2,v3,v4,v5⟩ (List.getD v0 (Int.toNat v1) (dflt .str))).text,(aG ⟨v2,v3,v4,v5⟩ (List.getD v0 (Int.toNat v1) (dflt .str))).keys,(aG ⟨v2,v3,v4,v5⟩ (List.getD v0 (Int.toNat v1) (dflt .str))).kids⟩:An))]:List An)))else none)else none)else none)else none)else none)else none)else some [⟨.ah,(⟨v8,v9,v10,v11⟩:An)⟩]
noncomputable def Jy(n:Nat)(G:gY E)(v0 v1:Int)(v2:anY)(v3:List (anY))(v4:List An)(v5:Int)(v6:anY)(v7:Int)(v8:anY)(v9:List An):Option (List (TV E)) :=
 bif(decide (v0<(v4.length:Int)))then(bif(decide ((0:Int)<=v0)&&decide (v0<(v4.length:Int)))then(bif((wg 10000 n) (⟨(List.getD v4 (Int.toNat v0) (dflt .ah)).kind,(List.getD v4 (Int.toNat v0) (dflt .ah)).text,(List.getD v4 (Int.toNat v0) (dflt .ah)).keys,(List.getD v4 (Int.toNat v0) (dflt .ah)).kids⟩:An))then(bif(decide ((v9.length+([((aL n) (⟨(List.getD v4 (Int.toNat v0) (dflt .ah)).kind,(List.getD v4 (Int.toNat v0) (dflt .ah)).text,(List.getD v4 (Int.toNat v0) (dflt .ah)).keys,(List.getD v4 (Int.toNat v0) (dflt .ah)).kids⟩:An))]:List An).length)*72<=av))then G 1 (Jv (au (v0+(1:Int))) v1 v2 v3 v4 v5 v6 v7 v8 (v9++([((aL n) (⟨(List.getD v4 (Int.toNat v0) (dflt .ah)).kind,(List.getD v4 (Int.toNat v0) (dflt .ah)).text,(List.getD v4 (Int.toNat v0) (dflt .ah)).keys,(List.getD v4 (Int.toNat v0) (dflt .ah)).kids⟩:An))]:List An)))else none)else none)else none)else some [⟨.ah,(⟨v7,v8,[],v9⟩:An)⟩]
theorem amf:rz Tryz.prog 47:=⟨Tryz.f47,Tryz.func47,by kernel_rfl,by kernel_rfl⟩
theorem Ot(n:Nat)(ih:aV E sG (kW n)):aJ E (iV [(35,JR),(29,abU),(47,kW n)] [] [] []):=eU (.cons RX (.cons anM (.cons ih .nil))) .nil .nil .nil
theorem YH(n:Nat)(ih:aV E sG (kW n)){res:List (TV E)}{v0:List (anY)}{v1 v2:Int}{v3:anY}{v4:List (anY)}{v5:List An}{v6:Int}{v7:anY}{v8:Int}{v9:anY}{v10:List (anY)}{v11:List An}(h:Jw n (Gr E Tryz.f47 res) v0 v1 v2 v3 v4 v5 v6 v7 v8 v9 v10 v11=some res):Ev E Tryz.f47 res 0 (Ju v0 v1 v2 v3 v4 v5 v6 v7 v8 v9 v10 v11):=Ev.of (H:=R7) (Ot n ih) mix (t:=fun G=>Jw n G v0 v1 v2 v3 v4 v5 v6 v7 v8 v9 v10 v11) (fun G=>by kernel_rfl) h
theorem YI(n:Nat)(ih:aV E sG (kW n)){res:List (TV E)}{v0 v1:Int}{v2:anY}{v3:List (anY)}{v4:List An}{v5:Int}{v6:anY}{v7:Int}{v8:anY}{v9:List An}(h:Jy n (Gr E Tryz.f47 res) v0 v1 v2 v3 v4 v5 v6 v7 v8 v9=some res):Ev E Tryz.f47 res 1 (Jv v0 v1 v2 v3 v4 v5 v6 v7 v8 v9):=Ev.of (H:=R7) (Ot n ih) mix (t:=fun G=>Jy n G v0 v1 v2 v3 v4 v5 v6 v7 v8 v9) (fun G=>by kernel_rfl) h
theorem adI(n:Nat)(ih:aV E sG (kW n))(h:∀(x0:An),(wg 10000 (n+1)) x0=true->R8 n (Gr E Tryz.f47 [⟨.ah,(aL (n+1)) x0⟩]) x0=some [⟨.ah,(aL (n+1)) x0⟩]):aV E sG (kW (n+1)):=zk (Ot n ih) mix Tryz.func47 (by kernel_rfl) (by kernel_rfl) (fun x0 hk=>fT (H:=R7) (t:=fun G=>R8 n G x0) (fun G=>by kernel_rfl) (h x0 hk))
theorem aqr(n:Nat)(ih:aV E sG (kW n))(x:An)(hx:wg 10000 (n+1) x=true)(h3:x.kind=3)(ks:List (anY))(hks:ks.length<=10000)(hm:∀k∈ks,k∈x.keys)(u0:Int)(u1:anY)(v0:Int)(v1:anY) :
  ∀(m i:Nat) (ok:List (anY)) (ov:List An),ks.length-i=m->i<=ks.length->ok.length=i->ov.length=i ->
   Ev E Tryz.f47 [⟨.ah,(⟨v0,v1,ok++ks.drop i,ov++(ks.drop i).map fun k=>aL n (aG x k)⟩:An)⟩] 0 (Ju ks i x.kind x.text x.keys x.kids u0 u1 v0 v1 ok ov):=by
 have fx:=Dc hx (by decide);intro m
 induction m with
 | zero =>intro i ok ov h1 h2 h3 h4;refine YH n ih ?_;simp only[Jw,AP (show ks.length<=i by omega),cond_false,abb (show ks.length<=i by omega),acg,afM]
 | succ m ih2 =>
  intro i ok ov h1 h2 h3' h4;have hi:i<ks.length:=by omega
  have e1:decide ((ok.length+[ks[i]].length)*16<=av)=true:=dT (by rw[mb,aa9];omega);have e2:∀v:An,decide ((ov.length+[v].length)*72<=av)=true:=fun v=>dT (by rw[mb,aa9];omega)
  have hw:wg 10000 n (aG x ks[i])=true:=Gj hx (U6 hx h3 (hm _ (acw hi)));refine YH n ih ?_;simp only[Jw,tL hi,d0,gd ks _ i hi,acf,cond_true,fP,fx,e1,e2,hw];rw[<- abJ hi,aT (by omega) (by omega)];have:=dZ (ih2 (i+1) (ok++[ks[i]]) (ov++[aL n (aG x ks[i])]) (by omega) (by omega) (by simp[h3']) (by simp[h4]));grind
theorem aqs(n:Nat)(ih:aV E sG (kW n))(x:An)(hx:wg 10000 (n+1) x=true)(u0:Int)(u1:anY)(v0:Int)(v1:anY) :
  ∀(m i:Nat) (ov:List An),x.kids.length-i=m->i<=x.kids.length->ov.length=i ->
   Ev E Tryz.f47 [⟨.ah,(⟨v0,v1,[],ov++(x.kids.drop i).map (aL n)⟩:An)⟩] 1 (Jv i x.kind x.text x.keys x.kids u0 u1 v0 v1 ov):=by
 have hw:=dQ.1 hx;intro m
 induction m with
 | zero =>intro i ov h1 h2 h3;refine YI n ih ?_;simp only[Jy,AP (show x.kids.length<=i by omega),cond_false,abb (show x.kids.length<=i by omega),acg,afM]
 | succ m ih2 =>
  intro i ov h1 h2 h3;have hi:i<x.kids.length:=by omega
  have e2:∀v:An,decide ((ov.length+[v].length)*72<=av)=true:=fun v=>dT (by rw[mb,aa9];omega)
  have hk:wg 10000 n x.kids[i]=true:=hw.2.2.2 _ (acw hi);refine YI n ih ?_;simp only[Jy,tL hi,d0,gd x.kids _ i hi,acf,cond_true,fP,e2,hk];rw[<- abJ hi,aT (by omega) (by omega)];have:=dZ (ih2 (i+1) (ov++[aL n x.kids[i]]) (by omega) (by omega) (by simp[h3]));rw[ab9]at this;exact this
theorem Jz(n:Nat):aV E sG (kW n):=by
 induction n with
 | zero=>exact ac7 amf fun x=>rfl
 | succ n ih =>
  refine adI n ih fun x hk=>?_
  have hw:=dQ.1 hk;simp only[R8,aL];by_cases h3:x.kind=3
  ·have hl:mU x.keys=true:=pF.2 (by omega);have hs:=Pl.sw x.keys;rw[jL h3,cond_true,hl,cond_true,cond_true];have:=dZ (aqr n ih x hk h3 (Pl.bn x.keys) (by omega) (fun k hk=>Pl.jY.1 hk) 0 [] x.kind x.text _ 0 [] [] rfl (aa4 _) rfl rfl);grind
  ·rw[eT h3,cond_false,cond_false];have:=dZ (aqs n ih x hk 0 [] x.kind x.text _ 0 [] rfl (aa4 _) rfl);grind
def vv(g:An->Int->Int):List An->Int->Int
 | [],l=>l
 | k::t,l=>bif decide (g k l<0)then -1 else vv g t (g k l)
def CW(x:An)(deep l:Int):Bool:=bif(bif(bif decide (l<0)then true else decide (12<deep))then true else decide (x.kind<0))then true else decide (3<x.kind)
def Iw(x:An):Bool:=bif(bif(bif x.kind != 1 then decide ((0:Int)<(x.text.length:Int))else false)then true else(bif x.kind != 3 then decide ((0:Int)<(x.keys.length:Int))else false))then true else(bif decide (x.kind<2)then decide ((0:Int)<(x.kids.length:Int))else false)
def Iy(x:An)(l:Int):Bool:=bif x.kind==3 then(bif(bif(x.keys.length:Int)!=(x.kids.length:Int)then true else decide (l<(x.kids.length:Int)))then true else((Pl.bn x.keys).length:Int)!=(x.keys.length:Int))else false
def leftV:Nat->An->Int->Int->Int
 | 0,_,_,_=>-1
 | n+1,x,deep,left=>bif CW x deep (left-1)then -1 else bif Iw x then -1 else bif Iy x (left-1)then -1 else vv (fun k l=>leftV n k (deep+1) l) x.kids (left-1)
theorem R9{g:An->Int->Int}(hg:∀k l,0<=g k l->g k l+1<=l):∀(ks:List An) (l:Int),0<=vv g ks l->vv g ks l+ks.length<=l/\∀k∈ks, ∃l',0<=g k l'/\l'<=l
 | [],l,_=>⟨by simp[vv],fun k hk=>by cases hk⟩
 | k::t,l,h=>by
  unfold vv at h ⊢;by_cases hk:g k l<0
  ·rw[dT hk,cond_true]at h;omega
  ·rw[dF hk,cond_false]at h ⊢;obtain⟨h1,h2⟩:=R9 hg t (g k l) h;grind
theorem Mf:∀(n:Nat) (x:An) (d l:Int),0<=leftV n x d l->leftV n x d l+1<=l
 | 0,_,_,_,h=>by simp[leftV]at h
 | n+1,x,d,l,h=>by
  unfold leftV at h ⊢;cases h1:CW x d (l-1)with
  | true=>rw[h1,cond_true]at h;omega
  | false =>
   cases h2:Iw x with
   | true=>grind
   | false =>
    cases h3:Iy x (l-1)with
    | true=>grind
    | false =>rw[h1,h2,h3,cond_false,cond_false,cond_false]at h;simp only[cond_false];have:=(R9 (fun k l h=>Mf n k (d+1) l h) x.kids (l-1) h).1;omega
def Vy(n:Nat)(_:An)(deep left:Int):Bool:=decide (1<=n)&&decide (n<=13)&&decide (deep+n=14)&&decide (-10<=left)&&decide (left<=100000)
theorem Xy{n:Nat}{x:An}{d l:Int}:Vy n x d l=true↔(((1<=n/\n<=13)/\d+n=14) /\ -10<=l)/\l<=100000:=by simp[Vy]
noncomputable def GN(n:Nat):iU E:=fn3 (E:=E) .ah .int .int .int (Vy n) (leftV n)
def left_id:FuncId:=17
noncomputable def asT:Hint E:={ live:=[(0,[1,2,3,7])] }
noncomputable def Xz(v0 v1 v2 v3:Int)(v4:anY)(v5:List (anY))(v6:List An):aI E:=aI.mk 105 [(1,.d (.int .i64 v0)),(2,.d (.int .i64 v1)),(3,.ptr 0 0),(7,.d (.int .i64 v2))] [(0,.box [.d (.int .i64 v3),.d (.str v4),.d (.slice .str v5),.d (.slice .ah v6)])] 1
noncomputable def ajF(_n:Nat)(G:gY E)(x0:An)(x1 x2:Int):Option (List (TV E)) :=
 bif(bif(bif(bif(decide ((au (x2-(1:Int)))<(0:Int)))then true else(decide ((12:Int)<x1)))then true else(decide (x0.kind<(0:Int))))then true else(decide ((3:Int)<x0.kind)))then some [⟨.int,(-1:Int)⟩]else(bif(bif(bif(bif(x0.kind != (1:Int))then(decide ((0:Int)<(x0.text.length:Int)))else false)then true else(bif(x0.kind != (3:Int))then(decide ((0:Int)<(x0.keys.length:Int)))else false))then true else(bif(decide (x0.kind<(2:Int)))then(decide ((0:Int)<(x0.kids.length:Int)))else false))then some [⟨.int,(-1:Int)⟩]else(bif((mU x0.keys)||!((x0.kind==(3:Int))&&(!(bif((x0.keys.length:Int)!=(x0.kids.length:Int))then true else(decide ((au (x2-(1:Int)))<(x0.kids.length:Int)))))))then(bif(bif(x0.kind==(3:Int))then(bif(bif((x0.keys.length:Int)!=(x0.kids.length:Int))then true else(decide ((au (x2-(1:Int)))<(x0.kids.length:Int))))then true else(((Pl.bn x0.keys).length:Int)!=(x0.keys.length:Int)))else false)then some [⟨.int,(-1:Int)⟩]else G 0 (Xz x1 (au (x2-(1:Int))) 0 x0.kind x0.text x0.keys x0.kids))else none))
noncomputable def XA(n:Nat)(G:gY E)(v0 v1 v2 v3:Int)(v4:anY)(v5:List (anY))(v6:List An):Option (List (TV E)) :=
 bif(decide (v2<(v6.length:Int)))then(bif(decide ((0:Int)<=v2)&&decide (v2<(v6.length:Int)))then(bif((Vy n) (⟨(List.getD v6 (Int.toNat v2) (dflt .ah)).kind,(List.getD v6 (Int.toNat v2) (dflt .ah)).text,(List.getD v6 (Int.toNat v2) (dflt .ah)).keys,(List.getD v6 (Int.toNat v2) (dflt .ah)).kids⟩:An) (au (v0+(1:Int))) v1)then(bif(decide (((leftV n) (⟨(List.getD v6 (Int.toNat v2) (dflt .ah)).kind,(List.getD v6 (Int.toNat v2) (dflt .ah)).text,(List.getD v6 (Int.toNat v2) (dflt .ah)).keys,(List.getD v6 (Int.toNat v2) (dflt .ah)).kids⟩:An) (au (v0+(1:Int))) v1)<(0:Int)))then some [⟨.int,(-1:Int)⟩]else G 0 (Xz v0 ((leftV n) (⟨(List.getD v6 (Int.toNat v2) (dflt .ah)).kind,(List.getD v6 (Int.toNat v2) (dflt .ah)).text,(List.getD v6 (Int.toNat v2) (dflt .ah)).keys,(List.getD v6 (Int.toNat v2) (dflt .ah)).kids⟩:An) (au (v0+(1:Int))) v1) (au (v2+(1:Int))) v3 v4 v5 v6))else none)else none)else some [⟨.int,v1⟩]
theorem ayW:rz Tryz.prog 17:=⟨Tryz.f17,Tryz.func17,by kernel_rfl,by kernel_rfl⟩
theorem anN(n:Nat)(ih:aV E left_id (GN n)):aJ E (iV [(35,JR),(17,GN n)] [] [] []):=eU (.cons RX (.cons ih .nil)) .nil .nil .nil
theorem anO(n:Nat)(ih:aV E left_id (GN n)){res:List (TV E)}{v0 v1 v2 v3:Int}{v4:anY}{v5:List (anY)}{v6:List An}(h:XA n (Gr E Tryz.f17 res) v0 v1 v2 v3 v4 v5 v6=some res):Ev E Tryz.f17 res 0 (Xz v0 v1 v2 v3 v4 v5 v6):=Ev.of (H:=asT) (anN n ih) mix (t:=fun G=>XA n G v0 v1 v2 v3 v4 v5 v6) (fun G=>by kernel_rfl) h
theorem aqt(n:Nat)(ih:aV E left_id (GN n))(h:∀(x0:An) (x1:Int) (x2:Int),(Vy (n+1)) x0 x1 x2=true->ajF n (Gr E Tryz.f17 [⟨.int,(leftV (n+1)) x0 x1 x2⟩]) x0 x1 x2=some [⟨.int,(leftV (n+1)) x0 x1 x2⟩]):aV E left_id (GN (n+1)):=UL (anN n ih) mix Tryz.func17 (by kernel_rfl) (by kernel_rfl) (fun x0 x1 x2 hk=>fT (H:=asT) (t:=fun G=>ajF n G x0 x1 x2) (fun G=>by kernel_rfl) (h x0 x1 x2 hk))
theorem asU(n:Nat)(ih:aV E left_id (GN n))(x:An)(d:Int)(hn1:1<=n)(hn2:n<=12)(hd:d+1+n=14):∀(m i:Nat) (l:Int),x.kids.length-i=m->i<=x.kids.length->0<=l->l+i<=100000 ->
  Ev E Tryz.f17 [⟨.int,vv (fun k l=>leftV n k (d+1) l) (x.kids.drop i) l⟩] 0 (Xz d l i x.kind x.text x.keys x.kids):=by
 intro m
 induction m with
 | zero =>intro i l h1 h2 h3 h4;refine anO n ih ?_;simp only[XA,AP (show x.kids.length<=i by omega),cond_false,abb (show x.kids.length<=i by omega)];rfl
 | succ m ih2 =>
  intro i l h1 h2 h3 h4;have hi:i<x.kids.length:=by omega
  have e1:au (d+1)=d+1:=aT (by omega) (by omega);have e2:Vy n x.kids[i] (d+1) l=true:=Xy.2 ⟨⟨⟨⟨hn1,by omega⟩,by omega⟩,by omega⟩,by omega⟩;have hle:=Mf n x.kids[i] (d+1) l;refine anO n ih ?_;simp only[XA,tL hi,d0,gd x.kids _ i hi,acf,cond_true,fP,e1,e2];rw[<- abJ hi];simp only[vv];by_cases hk:leftV n x.kids[i] (d+1) l<0
  ·rw[dT hk];rfl
  ·rw[dF hk,cond_false,cond_false,aT (by omega) (by omega)];exact dZ (ih2 (i+1) _ (by omega) (by omega) (by omega) (by have:=hle (by omega);omega))
theorem anP(n:Nat):aV E left_id (GN n):=by
 induction n with
 | zero=>exact ayD ayW fun x y z=>by simp[Vy]
 | succ n ih =>
  refine aqt n ih fun x d l hk=>?_
  have hk:=Xy.1 hk;have e1:au (l-1)=l-1:=aT (by omega) (by omega);simp only[ajF,e1,leftV];change (bif CW x d (l-1)then _ else bif Iw x then _ else _)=_;cases h1:CW x d (l-1)with
  | true=>rfl
  | false =>
   cases h2:Iw x with
   | true=>rfl
   | false =>
    simp only[cond_false];have hA:¬ l-1<0/\¬ 12<d:=by unfold CW at h1;grind
    have hcond:(mU x.keys||!(x.kind==3&&!(bif(x.keys.length:Int)!=(x.kids.length:Int)then true else decide (l-1<(x.kids.length:Int)))))=true:=by
     by_cases a1:(x.keys.length:Int)=x.kids.length
     ·by_cases a2:l-1<(x.kids.length:Int)
      ·rw[kZ a1,dT a2];simp
      ·rw[pF.2 (by omega)];rfl
     ·rw[jK a1];simp
    rw[hcond,cond_true];change (bif Iy x (l-1)then _ else _)=_;cases h3:Iy x (l-1)with
    | true=>rfl
    | false =>simp only[cond_false];have:=dZ (asU n ih x d (by omega) (by omega) (by omega) x.kids.length 0 (l-1) (by omega) (by omega) (by omega) (by omega));rw[acC]at this;exact this
def rR:Nat->An->Bool
 | 0,_=>false
 | n+1,x=>decide (x.text.length<=200)&&(x.keys.all (fun k=>decide (k.length<=200))&&x.kids.all (rR n))
noncomputable def zV(n:Nat):iU E:=Ga (E:=E) .ah .bool (dp n) (rR n)
def Bb:FuncId:=18
noncomputable def adJ:Hint E:={ live:=[(0,[1,3]),(1,[1,4])] }
noncomputable def Sb(v0 v1:Int)(v2:anY)(v3:List (anY))(v4:List An):aI E:=aI.mk 37 [(1,.ptr 0 0),(3,.d (.int .i64 v0))] [(0,.box [.d (.int .i64 v1),.d (.str v2),.d (.slice .str v3),.d (.slice .ah v4)])] 1
noncomputable def Sc(v0 v1:Int)(v2:anY)(v3:List (anY))(v4:List An):aI E:=aI.mk 37 [(1,.ptr 0 0),(4,.d (.int .i64 v0))] [(0,.box [.d (.int .i64 v1),.d (.str v2),.d (.slice .str v3),.d (.slice .ah v4)])] 1
noncomputable def adK(_n:Nat)(G:gY E)(x0:An):Option (List (TV E)) :=
 bif(decide ((200:Int)<(x0.text.length:Int)))then some [⟨.bool,false⟩]else G 0 (Sb 0 x0.kind x0.text x0.keys x0.kids)
noncomputable def Sd(_n:Nat)(G:gY E)(v0 v1:Int)(v2:anY)(v3:List (anY))(v4:List An):Option (List (TV E)) :=
 bif(decide (v0<(v3.length:Int)))then(bif(decide ((0:Int)<=v0)&&decide (v0<(v3.length:Int)))then(bif(decide ((200:Int)<((List.getD v3 (Int.toNat v0) (dflt .str)).length:Int)))then some [⟨.bool,false⟩]else G 0 (Sb (au (v0+(1:Int))) v1 v2 v3 v4))else none)else G 1 (Sc 0 v1 v2 v3 v4)
noncomputable def Sg(n:Nat)(G:gY E)(v0 v1:Int)(v2:anY)(v3:List (anY))(v4:List An):Option (List (TV E)) :=
 bif(decide (v0<(v4.length:Int)))then(bif(decide ((0:Int)<=v0)&&decide (v0<(v4.length:Int)))then(bif((dp n) (⟨(List.getD v4 (Int.toNat v0) (dflt .ah)).kind,(List.getD v4 (Int.toNat v0) (dflt .ah)).text,(List.getD v4 (Int.toNat v0) (dflt .ah)).keys,(List.getD v4 (Int.toNat v0) (dflt .ah)).kids⟩:An))then(bif(!((rR n) (⟨(List.getD v4 (Int.toNat v0) (dflt .ah)).kind,(List.getD v4 (Int.toNat v0) (dflt .ah)).text,(List.getD v4 (Int.toNat v0) (dflt .ah)).keys,(List.getD v4 (Int.toNat v0) (dflt .ah)).kids⟩:An)))then some [⟨.bool,false⟩]else G 1 (Sc (au (v0+(1:Int))) v1 v2 v3 v4))else none)else none)else some [⟨.bool,true⟩]
theorem avZ:rz Tryz.prog 18:=⟨Tryz.f18,Tryz.func18,by kernel_rfl,by kernel_rfl⟩
theorem ZR(n:Nat)(ih:aV E Bb (zV n)):aJ E (iV [(18,zV n)] [] [] []):=eU (.cons ih .nil) .nil .nil .nil
theorem ajG(n:Nat)(ih:aV E Bb (zV n)){res:List (TV E)}{v0 v1:Int}{v2:anY}{v3:List (anY)}{v4:List An}(h:Sd n (Gr E Tryz.f18 res) v0 v1 v2 v3 v4=some res):Ev E Tryz.f18 res 0 (Sb v0 v1 v2 v3 v4):=Ev.of (H:=adJ) (ZR n ih) mix (t:=fun G=>Sd n G v0 v1 v2 v3 v4) (fun G=>by kernel_rfl) h
theorem ajH(n:Nat)(ih:aV E Bb (zV n)){res:List (TV E)}{v0 v1:Int}{v2:anY}{v3:List (anY)}{v4:List An}(h:Sg n (Gr E Tryz.f18 res) v0 v1 v2 v3 v4=some res):Ev E Tryz.f18 res 1 (Sc v0 v1 v2 v3 v4):=Ev.of (H:=adJ) (ZR n ih) mix (t:=fun G=>Sg n G v0 v1 v2 v3 v4) (fun G=>by kernel_rfl) h
theorem amg(n:Nat)(ih:aV E Bb (zV n))(h:∀(x0:An),(dp (n+1)) x0=true->adK n (Gr E Tryz.f18 [⟨.bool,(rR (n+1)) x0⟩]) x0=some [⟨.bool,(rR (n+1)) x0⟩]):aV E Bb (zV (n+1)):=zk (ZR n ih) mix Tryz.func18 (by kernel_rfl) (by kernel_rfl) (fun x0 hk=>fT (H:=adJ) (t:=fun G=>adK n G x0) (fun G=>by kernel_rfl) (h x0 hk))
theorem aAG{n:Nat}(h:n<=200):decide ((200:Int)<(n:Int))=false:=dF (by omega)
theorem axf{n:Nat}(h:¬ n<=200):decide ((200:Int)<(n:Int))=true:=dT (by omega)
theorem ayX(n:Nat)(ih:aV E Bb (zV n))(x:An)(hl:x.kids.length<=1000000)(hd:∀y∈x.kids,dp n y=true):∀(m i:Nat),x.kids.length-i=m->i<=x.kids.length ->
  Ev E Tryz.f18 [⟨.bool,(x.kids.drop i).all (rR n)⟩] 1 (Sc i x.kind x.text x.keys x.kids):=by
 intro m
 induction m with
 | zero =>intro i h1 h2;refine ajH n ih ?_;simp only[Sg,AP (show x.kids.length<=i by omega),cond_false,abb (show x.kids.length<=i by omega)];rfl
 | succ m ih2 =>
  intro i h1 h2;have hi:i<x.kids.length:=by omega
  refine ajH n ih ?_;simp only[Sg,tL hi,d0,gd x.kids _ i hi,acf,cond_true,fP,hd _ (acw hi)];rw[<- abJ hi,aT (by omega) (by omega),afo];cases rR n x.kids[i]with
  | false=>rfl
  | true =>simp only[ab7,cond_false,afq];exact dZ (ih2 (i+1) (by omega) (by omega))
theorem ayY(n:Nat)(ih:aV E Bb (zV n))(x:An)(hk:x.keys.length<=1000000)(hl:x.kids.length<=1000000)(hd:∀y∈x.kids,dp n y=true):∀(m i:Nat),x.keys.length-i=m->i<=x.keys.length ->
  Ev E Tryz.f18 [⟨.bool,(x.keys.drop i).all (fun k=>decide (k.length<=200))&&x.kids.all (rR n)⟩] 0 (Sb i x.kind x.text x.keys x.kids):=by
 intro m
 induction m with
 | zero =>intro i h1 h2;refine ajG n ih ?_;simp only[Sd,AP (show x.keys.length<=i by omega),cond_false,abb (show x.keys.length<=i by omega)];have:=dZ (ayX n ih x hl hd x.kids.length 0 (by omega) (by omega));rw[acC]at this;exact this
 | succ m ih2 =>
  intro i h1 h2;have hi:i<x.keys.length:=by omega
  refine ajG n ih ?_;simp only[Sd,tL hi,d0,gd x.keys _ i hi,acf,cond_true];rw[<- abJ hi,aT (by omega) (by omega),afo];by_cases h:x.keys[i].length<=200
  ·rw[aAG h,cond_false,dT h,afq];exact dZ (ih2 (i+1) (by omega) (by omega))
  ·rw[axf h,cond_true,dF h];rfl
theorem av0(n:Nat):aV E Bb (zV n):=by
 induction n with
 | zero=>exact ac7 avZ fun x=>rfl
 | succ n ih =>
  refine amg n ih fun x hk=>?_
  have hk:=Gg.1 hk;simp only[adK,rR];by_cases h:x.text.length<=200
  ·rw[aAG h,cond_false,dT h,afq];have:=dZ (ayY n ih x hk.1.1 hk.1.2 hk.2 x.keys.length 0 (by omega) (by omega));rw[acC]at this;exact this
  ·rw[axf h,cond_true,dF h];rfl
theorem ajI{B:Nat}(hB:B<=1000000):∀(n:Nat) (x:An) (d l:Int),d+(n+1:Nat)=14->l<=(B:Int)+1->0<=leftV (n+1) x d l->dp n x=true/\(rR n x=true->wf B n x=true)
 | n,x,d,l,hd,hl,h=>by
  unfold leftV at h;cases h1:CW x d (l-1)with
  | true=>rw[h1,cond_true]at h;omega
  | false =>
   cases h2:Iw x with
   | true=>rw[h1,h2,cond_false,cond_true]at h;omega
   | false =>
    cases h3:Iy x (l-1)with
    | true=>rw[h1,h2,h3,cond_false,cond_false,cond_true]at h;omega
    | false =>
     rw[h1,h2,h3,cond_false,cond_false,cond_false]at h;have hA:¬ 12<d:=by intro a2;unfold CW at h1;rw[dT a2]at h1;cases hx:decide (l-1<0)<;>rw[hx]at h1<;>cases h1
     obtain⟨m,rfl⟩:∃m,n=m+1:=⟨n-1,by omega⟩
     obtain⟨q1,q2⟩:=R9 (fun k l h=>Mf (m+1) k (d+1) l h) x.kids (l-1) h;have hrec:∀y∈x.kids,dp m y=true/\(rR m y=true->wf B m y=true):=fun y hy=>by obtain⟨l',h4,h5⟩:=q2 y hy;exact ajI hB m y (d+1) l' (by omega) (by omega) h4
     have hkeys:(x.kind=3->x.keys.length=x.kids.length)/\(x.kind≠3->x.keys.length=0):=by
      constructor
      ·intro e;unfold Iy at h3;rw[jL e,cond_true]at h3;by_cases a1:(x.keys.length:Int)=x.kids.length
       ·omega
       ·rw[jK a1]at h3;cases h3
      ·intro e;unfold Iw at h2;grind
     have hk:x.keys.length<=B:=by
      by_cases e:x.kind=3
      ·have:=hkeys.1 e;omega
      ·have:=hkeys.2 e;omega
     refine⟨Gg.2 ⟨⟨by omega,by omega⟩,fun y hy=>(hrec y hy).1⟩,fun hs=>?_⟩;simp only[rR,abK,ab6,afE]at hs;exact U5.2 ⟨hk,by omega,hkeys.1,hs.1,hs.2.1,fun y hy=>(hrec y hy).2 (hs.2.2 y hy)⟩
 termination_by n=>n
def ajJ(_:An)(m:Int):Bool:=decide (0<=m)&&decide (m<=300)
def Mg(x:An)(m:Int):Bool:=bif decide (0<=leftV 13 x 1 m)then rR 12 x else false
noncomputable def adL:iU E:=Cv (E:=E) .ah .int .bool ajJ Mg
def ajK:FuncId:=6
noncomputable def adM(_G:gY E)(x0:An)(x1:Int):Option (List (TV E)) :=
 bif((Vy 13) (⟨x0.kind,x0.text,x0.keys,x0.kids⟩:An) (1:Int) x1)then(bif(((dp 12) (⟨x0.kind,x0.text,x0.keys,x0.kids⟩:An))||!(decide ((0:Int)<=((leftV 13) (⟨x0.kind,x0.text,x0.keys,x0.kids⟩:An) (1:Int) x1))))then some [⟨.bool,(bif(decide ((0:Int)<=((leftV 13) (⟨x0.kind,x0.text,x0.keys,x0.kids⟩:An) (1:Int) x1)))then((rR 12) (⟨x0.kind,x0.text,x0.keys,x0.kids⟩:An))else false)⟩]else none)else none
theorem av1:aJ E (iV [(17,GN 13),(18,zV 12)] [] [] []):=eU (.cons (anP 13) (.cons (av0 12) .nil)) .nil .nil .nil
theorem amh(h:∀(x0:An) (x1:Int),ajJ x0 x1=true->adM (Gr E Tryz.f6 [⟨.bool,Mg x0 x1⟩]) x0 x1=some [⟨.bool,Mg x0 x1⟩]):aV E ajK adL:=zl av1 mix Tryz.func6 (by kernel_rfl) (by kernel_rfl) (fun x0 x1 hk=>fT (H:={}) (t:=fun G=>adM G x0 x1) (fun G=>by kernel_rfl) (h x0 x1 hk))
theorem av2:aV E ajK adL:=amh fun x m hk=>by
 have hm:0<=m/\m<=300:=by simpa[ajJ]using hk
 have e1:Vy 13 x 1 m=true:=Xy.2 ⟨⟨⟨by decide,by decide⟩,by omega⟩,by omega⟩;have e2:(dp 12 x||!(decide (0<=leftV 13 x 1 m)))=true:=by
  by_cases h:0<=leftV 13 x 1 m
  ·rw[(ajI (B:=300) (by decide) 12 x 1 m (by decide) (by omega) h).1];rfl
  ·rw[dF h];simp
 simp only[adM,fP,e1,e2,cond_true];rfl
def oO(k:anY)(v:An):List (anY)->List An->List An
 | a::t,x::w=>(bif a==k then v else x)::oO k v t w
 | _,_=>[]
theorem Vz(k:anY)(v:An):∀(ks:List (anY)) (vs:List An),ks.length=vs.length->(oO k v ks vs).length=ks.length
 | [],[],_=>rfl
 | a::t,x::w,h=>by simp only[oO,List.length_cons];rw[Vz k v t w (by simpa using h)]
 | [],_::_,h=>by simp at h
 | _::_,[],h=>by simp at h
theorem afz(k:anY)(v:An):∀(ks:List (anY)) (vs:List An) (y:An),y∈oO k v ks vs->y=v\/y∈vs
 | [],vs,y,h=>by simp[oO]at h
 | _::_,[],y,h=>by simp[oO]at h
 | a::t,x::w,y,h=>by
  simp only[oO,am8]at h;rcases h with h | h
  ·grind
  ·rcases afz k v t w y h with h | h
   ·exact .inl h
   ·exact .inr (abD _ h)
def CX(th:Bool)(k:anY):List (anY):=bif th then[]else[k]
def newV(th:Bool)(v:An):List An:=bif th then[]else[v]
def bg(x:An)(k:anY)(v:An):An:=bif(bif x.kind != 0 then x.kind != 3 else false)then x else⟨3,[],x.keys++CX (fO x.keys k) k,oO k v x.keys x.kids++newV (fO x.keys k) v⟩
def iA(x:An)(_:anY)(_:An):Bool:=decide (x.keys.length<=100000)&&decide (x.keys.length=x.kids.length)
theorem ajL{x:An}{k:anY}{v:An}:iA x k v=true↔x.keys.length<=100000/\x.keys.length=x.kids.length:=by simp[iA]
noncomputable def adN:iU E:=fn3 (E:=E) .ah .str .ah .ah iA bg
def ajM:FuncId:=31
noncomputable def anQ:Hint E:={ live:=[(0,[1,3,5,6,7,8,9])],nk:=[(0,[(7,some 2,true,.str),(7,some 3,true,.ah)])] }
noncomputable def Mh(v0:anY)(v1:Bool)(v2 v3:Int)(v4:anY)(v5:List (anY))(v6:List An)(v7:Int)(v8:anY)(v9:List (anY))(v10:List An)(v11:Int)(v12:anY)(v13:Int)(v14:anY)(v15:List (anY))(v16:List An):aI E:=aI.mk 75 [(1,.d (.str v0)),(3,.ptr 0 0),(5,.ptr 1 0),(6,.ptr 2 0),(7,.ptr 3 0),(8,.d (.bool v1)),(9,.d (.int .i64 v2))] [(0,.box [.d (.int .i64 v3),.d (.str v4),.d (.slice .str v5),.d (.slice .ah v6)]),(1,.box [.d (.int .i64 v7),.d (.str v8),.d (.slice .str v9),.d (.slice .ah v10)]),(2,.box [.d (.int .i64 v11),.d (.str v12),.d (.raw (.slice none 0 0)),.d (.raw (.slice none 0 0))]),(3,.box [.d (.int .i64 v13),.d (.str v14),.grow .str v15 4,.grow .ah v16 5]),(4,.tail true),(5,.tail true)] 6
noncomputable def adO(G:gY E)(x0:An)(x1:anY)(x2:An):Option (List (TV E)) :=
 bif(bif(x0.kind != (0:Int))then(x0.kind != (3:Int))else false)then some [⟨.ah,(⟨x0.kind,x0.text,x0.keys,x0.kids⟩:An)⟩]else G 0 (Mh x1 false 0 x0.kind x0.text x0.keys x0.kids x2.kind x2.text x2.keys x2.kids 0 [] 3 [] [] [])
noncomputable def Si(G:gY E)(v0:anY)(v1:Bool)(v2 v3:Int)(v4:anY)(v5:List (anY))(v6:List An)(v7:Int)(v8:anY)(v9:List (anY))(v10:List An)(v11:Int)(v12:anY)(v13:Int)(v14:anY)(v15:List (anY))(v16:List An):Option (List (TV E)) :=
 bif(decide (v2<(v5.length:Int)))then(bif(decide ((0:Int)<=v2)&&decide (v2<(v5.length:Int)))then(bif(decide ((v15.length+([(List.getD v5 (Int.toNat v2) (dflt .str))]:List (anY)).length)*16<=av))then(bif(decide ((0:Int)<=v2)&&decide (v2<(v5.length:Int)))then(bif((List.getD v5 (Int.toNat v2) (dflt .str))==v0)then(bif(decide ((v16.length+([(⟨v7,v8,v9,v10⟩:An)]:List An).length)*72<=av))then G 0 (Mh v0 true (au (v2+(1:Int))) v3 v4 v5 v6 v7 v8 v9 v10 v11 v12 v13 v14 (v15++([(List.getD v5 (Int.toNat v2) (dflt .str))]:List (anY))) (v16++([(⟨v7,v8,v9,v10⟩:An)]:List An)))else none)else(bif(decide ((0:Int)<=v2)&&decide (v2<(v6.length:Int)))then(bif(decide ((v16.length+([(⟨(List.getD v6 (Int.toNat v2) (dflt .ah)).kind,(List.getD v6 (Int.toNat v2) (dflt .ah)).text,(List.getD v6 (Int.toNat v2) (dflt .ah)).keys,(List.getD v6 (Int.toNat v2) (dflt .ah)).kids⟩:An)]:List An).length)*72<=av))then G 0 (Mh v0 v1 (au (v2+(1:Int))) v3 v4 v5 v6 v7 v8 v9 v10 v11 v12 v13 v14 (v15++([(List.getD v5 (Int.toNat v2) (dflt .str))]:List (anY))) (v16++([(⟨(List.getD v6 (Int.toNat v2) (dflt .ah)).kind,(List.getD v6 (Int.toNat v2) (dflt .ah)).text,(List.getD v6 (Int.toNat v2) (dflt .ah)).keys,(List.getD v6 (Int.toNat v2) (dflt .ah)).kids⟩:An)]:List An)))else none)else none))else none)else none)else none)else(bif(!v1)then(bif(decide ((v15.length+([v0]:List (anY)).length)*16<=av))then(bif(decide ((v16.length+([(⟨v7,v8,v9,v10⟩:An)]:List An).length)*72<=av))then some [⟨.ah,(⟨v13,v14,(v15++([v0]:List (anY))),(v16++([(⟨v7,v8,v9,v10⟩:An)]:List An))⟩:An)⟩]else none)else none)else some [⟨.ah,(⟨v13,v14,v15,v16⟩:An)⟩])
theorem ajN:aJ E (iV [] [] [] []):=eU .nil .nil .nil .nil
theorem ajO{res:List (TV E)}{v0:anY}{v1:Bool}{v2 v3:Int}{v4:anY}{v5:List (anY)}{v6:List An}{v7:Int}{v8:anY}{v9:List (anY)}{v10:List An}{v11:Int}{v12:anY}{v13:Int}{v14:anY}{v15:List (anY)}{v16:List An}(h:Si (Gr E Tryz.f31 res) v0 v1 v2 v3 v4 v5 v6 v7 v8 v9 v10 v11 v12 v13 v14 v15 v16=some res):Ev E Tryz.f31 res 0 (Mh v0 v1 v2 v3 v4 v5 v6 v7 v8 v9 v10 v11 v12 v13 v14 v15 v16):=Ev.of (H:=anQ) ajN mix (t:=fun G=>Si G v0 v1 v2 v3 v4 v5 v6 v7 v8 v9 v10 v11 v12 v13 v14 v15 v16) (fun G=>by kernel_rfl) h
theorem ami(h:∀(x0:An) (x1:anY) (x2:An),iA x0 x1 x2=true->adO (Gr E Tryz.f31 [⟨.ah,bg x0 x1 x2⟩]) x0 x1 x2=some [⟨.ah,bg x0 x1 x2⟩]):aV E ajM adN:=UL ajN mix Tryz.func31 (by kernel_rfl) (by kernel_rfl) (fun x0 x1 x2 hk=>fT (H:=anQ) (t:=fun G=>adO G x0 x1 x2) (fun G=>by kernel_rfl) (h x0 x1 x2 hk))
theorem ayZ(keys:List (anY))(kids:List An)(k:anY)(v:An)(hs:keys.length<=100000)(hl:keys.length=kids.length)(a0:Int)(a1:anY)(u0:Int)(u1:anY)(u2:Int)(u3:anY):∀(m i:Nat) (th:Bool) (ok:List (anY)) (ov:List An),keys.length-i=m->i<=keys.length->ok.length=i->ov.length=i ->
  Ev E Tryz.f31 [⟨.ah,(⟨u2,u3,ok++(keys.drop i++CX (th||fO (keys.drop i) k) k),ov++(oO k v (keys.drop i) (kids.drop i)++newV (th||fO (keys.drop i) k) v)⟩:An)⟩] 0 (Mh k th i a0 a1 keys kids v.kind v.text v.keys v.kids u0 u1 u2 u3 ok ov):=by
 intro m
 induction m with
 | zero =>
  intro i th ok ov h1 h2 h3 h4;refine ajO ?_;simp only[Si,AP (show keys.length<=i by omega),cond_false,abb (show keys.length<=i by omega)];cases th with
  | true=>simp[CX,newV,oO]
  | false =>rw[acn,cond_true,dT (show(ok.length+[k].length)*16<=av by rw[mb,aa9];omega),cond_true,fP,dT (show(ov.length+[v].length)*72<=av by rw[mb,aa9];omega),cond_true];simp[CX,newV,oO,fO]
 | succ m ih2 =>
  intro i th ok ov h1 h2 h3 h4;have hi:i<keys.length:=by omega
  have hj:i<kids.length:=by omega
  have e3:au ((i:Int)+1)=((i+1:Nat):Int):=by rw[aT (by omega) (by omega)];omega
  refine ajO ?_;simp only[Si,tL hi,d0,gd keys _ i hi,e3,acf,cond_true,fP,tL hj,gd kids _ i hj];rw[<- abJ hi];have e1:∀x:anY,decide ((ok.length+[x].length)*16<=av)=true:=fun x=>dT (by rw[mb,aa9];omega)
  have e2:∀x:An,decide ((ov.length+[x].length)*72<=av)=true:=fun x=>dT (by rw[mb,aa9];omega)
  simp only[e1,e2,cond_true];rw[<- abJ hj];simp only[oO,fO,aj1];cases hb:keys[i]==k with
  | true =>simp only[cond_true];have:=dZ (ih2 (i+1) true (ok++[keys[i]]) (ov++[v]) (by omega) (by omega) (by simp[h3]) (by simp[h4]));simp only[fO,aci,afZ,ab9,afL]at this ⊢;exact this
  | false =>simp only[cond_false];have:=dZ (ih2 (i+1) th (ok++[keys[i]]) (ov++[kids[i]]) (by omega) (by omega) (by simp[h3]) (by simp[h4]));simp only[fO,akg,ab9,afL]at this ⊢;exact this
theorem av3:aV E ajM adN:=ami fun x k v hk=>by
 obtain⟨h1,h2⟩:=ajL.1 hk;unfold bg;simp only[adO,fP];cases hc:(bif x.kind != 0 then x.kind != 3 else false)with
 | true=>simp only[cond_true]
 | false =>simp only[cond_false];have:=dZ (ayZ x.keys x.kids k v h1 h2 x.kind x.text 0 [] 3 [] x.keys.length 0 false [] [] (by omega) (by omega) rfl rfl);grind
theorem aCm(th:Bool)(k:anY)(v:An):(CX th k).length=(newV th v).length/\(CX th k).length<=1:=by cases th<;>exact⟨rfl,by simp[CX]⟩
theorem EY{x:An}{k:anY}{v:An}(hk:x.kind=0\/x.kind=3)(h:x.keys.length=x.kids.length) :
  (bg x k v).kind=3/\(bg x k v).keys.length=(bg x k v).kids.length/\(bg x k v).keys.length<=x.keys.length+1/\∀y∈(bg x k v).kids,y=v\/y∈x.kids:=by
 have hc:(bif x.kind != 0 then x.kind != 3 else false)=false:=by rcases hk with e | e<;>rw[e]<;>rfl
 unfold bg;rw[hc];have hw:=Vz k v x.keys x.kids h;have hn:=aCm (fO x.keys k) k v;refine⟨rfl,?_,?_,fun y hy=>?_⟩
 ·grind
 ·grind
 ·simp only[cond_false,List.mem_append]at hy;rcases hy with hy | hy
  ·exact afz k v _ _ y hy
  ·left;unfold newV at hy;grind
def lg(x:An):Bool:=decide (0<=leftV 13 x 1 2000)
noncomputable def ZT:iU E:=Ga (E:=E) .ah .bool (fun _=>true) lg
def afA:FuncId:=48
noncomputable def ZU(_G:gY E)(x0:An):Option (List (TV E)) :=
 bif((Vy 13) (⟨x0.kind,x0.text,x0.keys,x0.kids⟩:An) (1:Int) (2000:Int))then some [⟨.bool,(decide ((0:Int)<=((leftV 13) (⟨x0.kind,x0.text,x0.keys,x0.kids⟩:An) (1:Int) (2000:Int))))⟩]else none
theorem asV:aJ E (iV [(17,GN 13)] [] [] []):=eU (.cons (anP 13) .nil) .nil .nil .nil
theorem ajP(h:∀(x0:An),ZU (Gr E Tryz.f48 [⟨.bool,lg x0⟩]) x0=some [⟨.bool,lg x0⟩]):aV E afA ZT:=zk asV mix Tryz.func48 (by kernel_rfl) (by kernel_rfl) (fun x0 _=>fT (H:={}) (t:=fun G=>ZU G x0) (fun G=>by kernel_rfl) (h x0))
theorem asW:aV E afA ZT:=ajP fun x=>by have e1:Vy 13 x 1 2000=true:=Xy.2 (by decide);simp only[ZU,fP,e1,cond_true];rfl
def uf(x0:anY):Te (Bool) Empty:=.q ((bZ 0 0&&bZ 0 2&&bZ 2 (aC x0))||!(bZ 2 (aC x0))) (.k (aab (bZ 2 (aC x0)) (cut x0 0 2==[120,45])))
def ug(x0:anY):=(uf x0).o
def Mi:=(tH.e (E:=E) mix).f0 43 [.str] [.bool] (fun a=>uf a) Tryz.func43
inductive Cx where
 | e (x0:anY)
 | h0 (v0:anY) (v1:List (anY)) (v2:Int)
def uI:Cx->Te (Int) Cx
 | .e x0=>.g (.h0 x0 [[114,101,115,116,97,114,116],[99,112,117,115],[109,101,109,95,108,105,109,105,116],[115,99,97,108,101],[105,109,97,103,101],[99,111,109,109,97,110,100],[101,110,118,105,114,111,110,109,101,110,116],[108,97,98,101,108,115],[110,101,116,119,111,114,107,115],[112,111,114,116,115],[118,111,108,117,109,101,115],[100,101,112,101,110,100,115,95,111,110],[101,120,116,101,110,100,115],[104,101,97,108,116,104,99,104,101,99,107]] 0)
 | .h0 v0 v1 v2=>.b (aF v2 (aC v1)) (.i v1 v2 fun y1=>.b (y1==v0) (.k v2) (.g (.h0 v0 v1 (au (v2+1))))) (.b (v0==[112,114,111,102,105,108,101,115]) (.k 8) (.k (-1)))
def Cy(x0:anY):=mu uI (.e x0)
def Nj:=Mi.fl 101 [.str] [.int] uI (fun a=>.e a) (fun | .e x0=>.e [⟨.str,x0⟩] | .h0 v0 v1 v2=>.h 0 ⟨21,[(0,sS v0),(3,sL .str v1),(4,sI v2)],[],0⟩) { live:=[(0,[0,3,4])] } Tryz.func101
inductive Dk where
 | e (x0:anY)
 | h0 (v0:anY) (v1:Int)
def lV:Dk->Te (Bool) Dk
 | .e x0=>.q ((bZ 0 0&&aF 0 (aC x0))||!((!(aC x0==0))&&aF 1 (aC x0))) (.b (aM (aC x0==0) (aab (aF 1 (aC x0)) (uH x0 0==48))) (.k false) (.g (.h0 x0 0)))
 | .h0 v0 v1=>.b (aF v1 (aC v0)) (.s v0 v1 fun y1=>.q ((bZ 0 v1&&aF v1 (aC v0))||!(!(aF y1 48))) (.b (aM (aF y1 48) (aF 57 y1)) (.k false) (.g (.h0 v0 (au (v1+1)))))) (.k true)
def lW(x0:anY):=mu lV (.e x0)
def Ou:=Nj.fl 223 [.str] [.bool] lV (fun a=>.e a) (fun | .e x0=>.e [⟨.str,x0⟩] | .h0 v0 v1=>.h 0 ⟨33,[(0,sS v0),(3,sI v1)],[],0⟩) { live:=[(0,[0,3])] } Tryz.func223
inductive Dl where
 | e (x0:anY) (x1:Int)
 | h0 (v0:anY) (v1:Int) (v2:Int) (v3:Int)
def pY:Dl->Te (Int×Int) Dl
 | .e x0 x1=>.b (aF x1 0) (.k (0,2)) (.c (lW x0) fun y1=>.b (!y1) (.k (0,3)) (.b (aF 19 (aC x0)) (.k (0,9)) (.g (.h0 x0 x1 0 0))))
 | .h0 v0 v1 v2 v3=>.b (aF v3 (aC v0)) (.s v0 v3 fun y1=>.g (.h0 v0 v1 (IntKind.wrap .u64 ((IntKind.wrap .u64 ((IntKind.wrap .u64 (v2*10))+(IntKind.wrap .u64 y1)))-48)) (au (v3+1)))) (.b (aF (IntKind.wrap .u64 v1) v2) (.k (0,9)) (.k (au v2,0)))
def dL(x0:anY)(x1:Int):=mu pY (.e x0 x1)
def Ov:=Ou.fl 183 [.str,.int] [.int,.bq] pY (fun a=>.e a.1 a.2) (fun | .e x0 x1=>.e [⟨.str,x0⟩,⟨.int,x1⟩] | .h0 v0 v1 v2 v3=>.h 0 ⟨36,[(0,sS v0),(1,sI v1),(6,.d (.int .u64 v2)),(7,sI v3)],[],0⟩) { live:=[(0,[0,1,6,7])] } Tryz.func183
def vK(x0:anY):Te (Bool) Empty:=.q ((bZ 0 0&&bZ 0 11&&bZ 11 (aC x0))||!(aF 11 (aC x0))) (.b (aab (aF 11 (aC x0)) (cut x0 0 11==[111,110,45,102,97,105,108,117,114,101,58])) (.q (bN x0 11 (aC x0)) (.c (dL (cut x0 11 (aC x0)) 10) fun y1=>.k (aab (y1.2==0) (aF 0 y1.1)))) (.k (aM (aM (aM (x0==[110,111]) (x0==[97,108,119,97,121,115])) (x0==[117,110,108,101,115,115,45,115,116,111,112,112,101,100])) (x0==[111,110,45,102,97,105,108,117,114,101]))))
def Dm(x0:anY):=(vK x0).o
def Ow:=Ov.f0 178 [.str] [.bool] (fun a=>vK a) Tryz.func178
inductive Dn where
 | e (x0:anY)
 | h0 (v0:anY) (v1:Int) (v2:Int)
def vL:Dn->Te (Int) Dn
 | .e x0=>.g (.h0 x0 0 0)
 | .h0 v0 v1 v2=>.b (aF v2 (aC v0)) (.s v0 v2 fun y1=>.l (au (au (au (v1*10)+au y1)-48)) fun z1=>.b (bZ 72057594037927936 z1) (.k 1152921504606846976) (.g (.h0 v0 z1 (au (v2+1))))) (.k v1)
def lX(x0:anY):=mu vL (.e x0)
def Ox:=Ow.fl 224 [.str] [.int] vL (fun a=>.e a) (fun | .e x0=>.e [⟨.str,x0⟩] | .h0 v0 v1 v2=>.h 0 ⟨22,[(0,sS v0),(3,sI v1),(4,sI v2)],[],0⟩) { live:=[(0,[0,3,4])] } Tryz.func224
inductive p8 where
 | e (x0:anY)
 | h0 (v0:anY) (v1:Int)
 | h1 (v0:anY) (v1:Int) (v2:anY) (v3:Int)
 | h2 (v0:anY) (v1:Int) (v2:anY)
def lY:p8->Te (Int×Int) p8
 | .e x0=>.g (.h0 x0 0)
 | .h0 v0 v1=>.l (au (v1+1)) fun z4=>.l (aF v1 (aC v0)) fun z3=>.l (lW (cut v0 0 v1)) fun z2=>.l (cut v0 z4 (aC v0)) fun z1=>.l (au (aC z1-1)) fun z6=>.l (aM (aF (aC z1) 1) (aF 3 (aC z1))) fun z5=>.q ((bZ 0 v1&&aF v1 (aC v0))||!z3) (.b (aab z3 (uH v0 v1 != 46)) (.g (.h0 v0 z4)) (.b z3 (.q (bN v0 z4 (aC v0)) (.q ((bZ 0 z6&&aF z6 (aC z1))||!(!z5)) (.b (aM z5 (uH z1 z6==48)) (.k (0,3)) (.q (bN v0 0 v1) (.c z2 fun y1=>.b (!y1) (.k (0,3)) (.g (.h1 v0 v1 z1 0))))))) (.q (bN v0 0 v1) (.c z2 fun y2=>.b (!y2) (.k (0,3)) (.g (.h1 v0 v1 [] 0))))))
 | .h1 v0 v1 v2 v3=>.b (aF v3 (aC v2)) (.s v2 v3 fun y1=>.q ((bZ 0 v3&&aF v3 (aC v2))||!(!(aF y1 48))) (.b (aM (aF y1 48) (aF 57 y1)) (.k (0,3)) (.g (.h1 v0 v1 v2 (au (v3+1)))))) (.g (.h2 v0 v1 v2))
 | .h2 v0 v1 v2=>.l (lX v2) fun z1=>.b (aF (aC v2) 3) (.q (decide (v2.length+([48]:anY).length<=aA)) (.g (.h2 v0 v1 (v2++([48]:anY))))) (.q (bN v0 0 v1) (.c (lX (cut v0 0 v1)) fun y1=>.l (aF 9007199254740 y1) fun z2=>.q ((z1.isSome)||!(!z2)) (.b (aM z2 (aF 9007199254740992 (au (au (y1*1000)+gv z1)))) (.k (0,9)) (.c z1 fun y2=>.k (au (au (y1*1000)+y2),0)))))
def vM(x0:anY):=mu lY (.e x0)
def Oy:=Ox.fl 179 [.str] [.int,.bq] lY (fun a=>.e a) (fun | .e x0=>.e [⟨.str,x0⟩] | .h0 v0 v1=>.h 0 ⟨89,[(0,sS v0),(4,sI v1)],[],0⟩ | .h1 v0 v1 v2 v3=>.h 1 ⟨89,[(0,sS v0),(4,sI v1),(5,sS v2),(6,sI v3)],[],0⟩ | .h2 v0 v1 v2=>.h 2 ⟨89,[(0,sS v0),(4,sI v1),(5,sS v2)],[],0⟩) { live:=[(0,[0,4]),(1,[0,4,5,6]),(2,[0,4,5])] } Tryz.func179
def xD(x0:anY):Te (Int) Empty:=.b (aM (x0==[]) (x0==[98])) (.k 1) (.b (aM (x0==[107]) (x0==[107,98])) (.k 1024) (.b (aM (x0==[109]) (x0==[109,98])) (.k 1048576) (.b (aM (x0==[103]) (x0==[103,98])) (.k 1073741824) (.k 0))))
def EZ(x0:anY):=(xD x0).o
def PS:=Oy.f0 225 [.str] [.int] (fun a=>xD a) Tryz.func225
inductive Dp where
 | e (x0:anY)
 | h0 (v0:anY) (v1:Int)
def vN:Dp->Te (Int×Int) Dp
 | .e x0=>.g (.h0 x0 0)
 | .h0 v0 v1=>.l (bZ 0 v1&&aF v1 (aC v0)) fun z3=>.l (lW (cut v0 0 v1)) fun z2=>.l (aab (aF v1 (aC v0)) (bZ 48 (uH v0 v1))) fun z1=>.q (z3||!(aF v1 (aC v0))) (.q (z3||!z1) (.b (aab z1 (bZ (uH v0 v1) 57)) (.g (.h0 v0 (au (v1+1)))) (.q (bN v0 v1 (aC v0)) (.c (EZ (cut v0 v1 (aC v0))) fun y1=>.l (y1==0) fun z4=>.q ((bZ 0 0&&bZ 0 v1&&bZ v1 (aC v0))||!(!z4)) (.q ((z2.isSome)||!(!z4)) (.b (aM z4 (!(gv z2))) (.k (0,3)) (.q (bN v0 0 v1) (.c (lX (cut v0 0 v1)) fun y2=>.q (!z4) (.b (aF (au (Int.tdiv 1125899906842624 y1)) y2) (.k (0,9)) (.k (au (y2*y1),0)))))))))))
def vO(x0:anY):=mu vN (.e x0)
def Oz:=PS.fl 180 [.str] [.int,.bq] vN (fun a=>.e a) (fun | .e x0=>.e [⟨.str,x0⟩] | .h0 v0 v1=>.h 0 ⟨49,[(0,sS v0),(4,sI v1)],[],0⟩) { live:=[(0,[0,4])] } Tryz.func180
def xE(x0:Int):Te (Int) Empty:=.b (aM (aF x0 0) (aF 1125899906842624 x0)) (.k 0) (.q ((!((1024:Int)==0))||!(!(x0==0))) (.b (aM (x0==0) ((Int.tmod x0 1024)!=0)) (.k 1) (.q (!((1048576:Int)==0)) (.b ((Int.tmod x0 1048576)!=0) (.k 1024) (.q (!((1073741824:Int)==0)) (.b ((Int.tmod x0 1073741824)!=0) (.k 1048576) (.k 1073741824)))))))
def E5(x0:Int):=(xE x0).o
def PU:=Oz.f0 226 [.int] [.int] (fun a=>xE a) Tryz.func226
inductive Cz where
 | e (x0:Int)
 | h0 (v0:Int) (v1:anY)
def uJ:Cz->Te ((anY)) Cz
 | .e x0=>.g (.h0 x0 [])
 | .h0 v0 v1=>.l (!((10:Int)==0)) fun z3=>.l (IntKind.wrap .u8 (IntKind.wrap .u64 (48+v0))) fun z2=>.l (IntKind.wrap .u8 (IntKind.wrap .u64 (48+(Int.tmod v0 10)))) fun z1=>.b (bZ 10 v0) (.q z3 (.q (decide ((List.map (fun y=>UInt8.ofNat (Int.toNat y)) [z1]).length+v1.length<=aA)) (.q z3 (.g (.h0 (IntKind.wrap .u64 (Int.tdiv v0 10)) ((List.map (fun y=>UInt8.ofNat (Int.toNat y)) [z1])++v1)))))) (.q (decide ((List.map (fun y=>UInt8.ofNat (Int.toNat y)) [z2]).length+v1.length<=aA)) (.k ((List.map (fun y=>UInt8.ofNat (Int.toNat y)) [z2])++v1)))
def uK(x0:Int):=mu uJ (.e x0)
def Nk:=PU.fl 237 [.u64] [.str] uJ (fun a=>.e a) (fun | .e x0=>.e [⟨.u64,x0⟩] | .h0 v0 v1=>.h 0 ⟨23,[(0,.d (.int .u64 v0)),(3,sS v1)],[],0⟩) { live:=[(0,[0,3])] } Tryz.func237
def xG(x0:Int):Te ((anY)) Empty:=.l (IntKind.wrap .u64 x0) fun z1=>.b (aF x0 0) (.c (uK (IntKind.wrap .u64 (0-z1))) fun y1=>.q (decide (([45]:anY).length+y1.length<=aA)) (.k (([45]:anY)++y1))) (.c (uK z1) fun y2=>.k y2)
def gq(x0:Int):=(xG x0).o
def PV:=Nk.f0 197 [.int] [.str] (fun a=>xG a) Tryz.func197
def xH(x0:Int):Te ((anY)) Empty:=.c (E5 x0) fun y1=>.b (y1==0) (.k []) (.q (!(y1==0)) (.c (gq (au (Int.tdiv x0 y1))) fun y2=>.b (y1==1024) (.q (decide (y2.length+([107]:anY).length<=aA)) (.k (y2++([107]:anY)))) (.b (y1==1048576) (.q (decide (y2.length+([109]:anY).length<=aA)) (.k (y2++([109]:anY)))) (.b (y1==1073741824) (.q (decide (y2.length+([103]:anY).length<=aA)) (.k (y2++([103]:anY)))) (.k y2)))))
def E8(x0:Int):=(xH x0).o
def PW:=PV.f0 182 [.int] [.str] (fun a=>xH a) Tryz.func182
def E9(x0:anY):Te (An) Empty:=.k ⟨1,x0,[],[]⟩
def ay(x0:anY):=(E9 x0).o
def PX:=PW.f0 181 [.str] [.ah] (fun a=>E9 a) Tryz.func181
def yR(x0:An)(x1:Int):Te (An×Bool) Empty:=.l (aj x0) fun z1=>.b (x0.kind != 1) (.k (⟨0,[],[],[]⟩,false)) (.b (x1==0) (.c (Dm x0.text) fun y1=>.b (!y1) (.k (⟨0,[],[],[]⟩,false)) (.k (z1,true))) (.b (x1==1) (.c (vM x0.text) fun y2=>.b (!(aab (y2.2==0) (aF 0 y2.1))) (.k (⟨0,[],[],[]⟩,false)) (.k (z1,true))) (.b (x1==2) (.c (vO x0.text) fun y3=>.c (E8 (y3.1)) fun y4=>.c (ay y4) fun y5=>.b (!(aab (y3.2==0) (aF 0 y3.1))) (.k (⟨0,[],[],[]⟩,false)) (.k (aj y5,true))) (.b (x1==3) (.c (dL x0.text 8) fun y6=>.b (!(y6.2==0)) (.k (⟨0,[],[],[]⟩,false)) (.k (z1,true))) (.b (!(aab (bZ 1 (aC x0.text)) (bZ (aC x0.text) 64))) (.k (⟨0,[],[],[]⟩,false)) (.k (z1,true)))))))
def GQ(x0:An)(x1:Int):=(yR x0 x1).o
def Sj:=PX.f0 124 [.ah,.int] [.ah,.bool] (fun a=>yR a.1 a.2) Tryz.func124
inductive Dq where
 | e (x0:An)
 | h0 (v0:Nat) (v1:Int) (v2:An) (v3:List (anY))
def p9:Dq->Te ((List (anY))×Bool) Dq
 | .e x0=>.b (aM (x0.kind != 2) (aF 32 (aC x0.kids))) (.k ([],false)) (.g (.h0 0 0 x0 []))
 | .h0 _ v1 v2 v3=>.b (aF v1 (aC v2.kids)) (.i v2.kids v1 fun y1=>.l (v3.length+([y1.text]:List (anY)).length) fun z1=>.b (y1.kind != 1) (.k (v3,false)) (.q (fU v2.kids v1) (.q (decide (z1*16<=av)) (.g (.h0 z1 (au (v1+1)) v2 (v3++([y1.text]:List (anY)))))))) (.k (v3,true))
def jV(x0:An):=mu p9 (.e x0)
def OA:=Sj.fl 81 [.ah] [.bH,.bool] p9 (fun a=>.e a) (fun | .e x0=>.e [⟨.ah,x0⟩] | .h0 v0 v1 v2 v3=>.h 0 ⟨42,[(1,.ptr 0 0),(4,.row .str v0 1),(5,sI v1)],[(0,.box [.d (.int .i64 v2.kind),.d (.str v2.text),.d (.slice .str v2.keys),.d (.slice .ah v2.kids)]),(1,.row .str v3)],2⟩) { live:=[(0,[1,4,5])] } Tryz.func81
def Dr(x0:Int):Te (Bool) Empty:=.k (aM (x0==32) (x0==9))
def vP(x0:Int):=(Dr x0).o
def OB:=OA.f0 227 [.byte] [.bool] (fun a=>Dr a) Tryz.func227
inductive qc where
 | e (x0:anY) (x1:Int)
 | h0 (v0:anY) (v1:Int) (v2:Int)
 | h1 (v0:anY) (v1:Int) (v2:anY)
def lZ:qc->Te ((anY)×Int) qc
 | .e x0 x1=>.l (au (x1+2)) fun z2=>.l (au (x1+1)) fun z1=>.s x0 x1 fun y1=>.b (y1==92) (.b (z1==aC x0) (.k ([],(-1))) (.q (bN x0 z1 z2) (.k (cut x0 z1 z2,z2)))) (.b (y1==39) (.g (.h0 x0 x1 z1)) (.b (y1 != 34) (.q (bN x0 x1 z1) (.k (cut x0 x1 z1,z1))) (.g (.h1 x0 z1 []))))
 | .h0 v0 v1 v2=>.b (aF v2 (aC v0)) (.s v0 v2 fun y1=>.b (y1==39) (.q (bN v0 (au (v1+1)) v2) (.k (cut v0 (au (v1+1)) v2,au (v2+1)))) (.g (.h0 v0 v1 (au (v2+1))))) (.k ([],(-1)))
 | .h1 v0 v1 v2=>.l (au (v1+1)) fun z1=>.l (v2++cut v0 v1 z1) fun z4=>.l (decide (v2.length+(cut v0 v1 z1).length<=aA)) fun z3=>.l (au (z1+1)) fun z2=>.l (cut v0 z1 z2) fun z5=>.b (aF v1 (aC v0)) (.s v0 v1 fun y1=>.b (y1==34) (.k (v2,z1)) (.q (fU v0 v1) (.b (y1==92) (.b (z1==aC v0) (.k ([],(-1))) (.s v0 z1 fun y3=>.q ((bZ 0 z1&&aF z1 (aC v0))||!(y3 != 34)) (.b (aab (y3 != 34) (y3 != 92)) (.q (bN v0 v1 z1) (.q z3 (.q (bN v0 z1 z2) (.q (decide (z4.length+z5.length<=aA)) (.g (.h1 v0 z2 (z4++z5))))))) (.q (bN v0 z1 z2) (.q (decide (v2.length+z5.length<=aA)) (.g (.h1 v0 z2 (v2++z5)))))))) (.q (bN v0 v1 z1) (.q z3 (.g (.h1 v0 z1 z4))))))) (.k ([],(-1)))
def Dt(x0:anY)(x1:Int):=mu lZ (.e x0 x1)
def OC:=OB.fl 228 [.str,.int] [.str,.int] lZ (fun a=>.e a.1 a.2) (fun | .e x0 x1=>.e [⟨.str,x0⟩,⟨.int,x1⟩] | .h0 v0 v1 v2=>.h 0 ⟨109,[(0,sS v0),(1,sI v1),(7,sI v2)],[],0⟩ | .h1 v0 v1 v2=>.h 1 ⟨109,[(0,sS v0),(1,sI v1),(8,sS v2)],[],0⟩) { live:=[(0,[0,1,7]),(1,[0,1,8])] } Tryz.func228
inductive qd where
 | e (x0:anY)
 | h0 (v0:anY) (v1:Nat) (v2:Int) (v3:List (anY))
 | h1 (v0:anY) (v1:Nat) (v2:Int) (v3:anY) (v4:List (anY))
def qg:qd->Te ((List (anY))×Int) qd
 | .e x0=>.g (.h0 x0 0 0 [])
 | .h0 v0 v1 v2 v3=>.b (aF v2 (aC v0)) (.s v0 v2 fun y1=>.c (vP y1) fun y2=>.b y2 (.g (.h0 v0 v1 (au (v2+1)) v3)) (.g (.h1 v0 v1 v2 [] v3))) (.b (aF 32 ((v1:Nat):Int)) (.k ([],9)) (.k (v3,0)))
 | .h1 v0 v1 v2 v3 v4=>.l (aF v2 (aC v0)) fun z3=>.l (vP (uH v0 v2)) fun z2=>.l (v4.length+([v3]:List (anY)).length) fun z1=>.q ((bZ 0 v2&&aF v2 (aC v0))||!z3) (.q ((z2.isSome)||!z3) (.b (aab z3 (!(gv z2))) (.c (Dt v0 v2) fun y1=>.b (aF y1.2 0) (.k ([],3)) (.q (decide (v3.length+(y1.1).length<=aA)) (.g (.h1 v0 v1 (y1.2) (v3++y1.1) v4)))) (.q (decide (z1*16<=av)) (.g (.h0 v0 z1 v2 (v4++([v3]:List (anY))))))))
def vQ(x0:anY):=mu qg (.e x0)
def OD:=OC.fl 184 [.str] [.bH,.bq] qg (fun a=>.e a) (fun | .e x0=>.e [⟨.str,x0⟩] | .h0 v0 v1 v2 v3=>.h 0 ⟨51,[(0,sS v0),(4,.row .str v1 0),(5,sI v2)],[(0,.row .str v3)],1⟩ | .h1 v0 v1 v2 v3 v4=>.h 1 ⟨51,[(0,sS v0),(4,.row .str v1 0),(5,sI v2),(6,sS v3)],[(0,.row .str v4)],1⟩) { live:=[(0,[0,4,5]),(1,[0,4,5,6])] } Tryz.func184
inductive Du where
 | e (x0:An)
 | h0 (v0:List (anY)) (v1:Int) (v2:Int) (v3:anY) (v4:Int) (v5:anY) (v6:List An)
def qh:Du->Te (An×Bool) Du
 | .e x0=>.c (jV (aj x0)) fun y1=>.b (x0.kind==1) (.c (vQ x0.text) fun y2=>.b (!(y2.2==0)) (.k (⟨0,[],[],[]⟩,false)) (.g (.h0 (y2.1) 0 0 [] 2 [] []))) (.b (!y1.2) (.k (⟨0,[],[],[]⟩,false)) (.g (.h0 (y1.1) 0 0 [] 2 [] [])))
 | .h0 v0 v1 v2 v3 v4 v5 v6=>.b (aF v1 (aC v0)) (.i v0 v1 fun y1=>.c (ay y1) fun y2=>.q (decide ((v6.length+([y2]:List An).length)*72<=av)) (.g (.h0 v0 (au (v1+1)) v2 v3 v4 v5 (v6++([y2]:List An))))) (.k (⟨v4,v5,[],v6⟩,true))
def Dv(x0:An):=mu qh (.e x0)
def OE:=OD.fl 125 [.ah] [.ah,.bool] qh (fun a=>.e a) (fun | .e x0=>.e [⟨.ah,x0⟩] | .h0 v0 v1 v2 v3 v4 v5 v6=>.h 0 ⟨48,[(2,.ptr 0 0),(4,sL .str v0),(8,.ptr 1 0),(9,sI v1)],[(0,.box [sI v2,sS v3,.d (.raw (.slice none 0 0)),.d (.raw (.slice none 0 0))]),(1,.box [sI v4,sS v5,.d (.raw (.slice none 0 0)),.grow .ah v6 2]),(2,.tail true)],3⟩) { live:=[(0,[2,4,8,9])],nk:=[(0,[(8,some 3,true,.ah)])] } Tryz.func125
def GR(x0:anY)(x1:Bool):Te (Bool) Empty:=.b x1 (.k ((bP Me) x0)) (.k ((bP fV) x0))
def yS(x0:anY)(x1:Bool):=(GR x0 x1).o
def Sk:=((OE.W 78 RN al9).W 229 Oo ajw).f0 185 [.str,.bool] [.bool] (fun a=>GR a.1 a.2) Tryz.func185
def xI(x0:An)(x1:Bool):Te (An×Bool) Empty:=.b (aM (!x1) (aF 32 (aC x0.keys))) (.k (⟨0,[],[],[]⟩,false)) (.q ((wg 10000 12) ⟨3,x0.text,x0.keys,x0.kids⟩) (.k (aj ((aL 12) ⟨3,x0.text,x0.keys,x0.kids⟩),true)))
def aH(x0:An)(x1:Bool):=(xI x0 x1).o
def PY:=(Sk.W 47 (kW 12) (Jz 12)).f0 82 [.ah,.bool] [.ah,.bool] (fun a=>xI a.1 a.2) Tryz.func82
inductive qj where
 | e (x0:An) (x1:Bool)
 | h0 (v0:Bool) (v1:List (anY)) (v2:Int) (v3:Int) (v4:anY) (v5:An)
 | h1 (v0:Bool) (v1:List (anY)) (v2:Int) (v3:Int) (v4:Int) (v5:anY) (v6:An)
 | h2 (v0:Bool) (v1:Int) (v2:An) (v3:Int) (v4:anY) (v5:An)
def jW:qj->Te (An×Bool) qj
 | .e x0 x1=>.c (jV (aj x0)) fun y1=>.b y1.2 (.g (.h0 x1 (y1.1) 0 0 [] ⟨0,[],[],[]⟩)) (.b (x0.kind != 3) (.k (⟨0,[],[],[]⟩,false)) (.g (.h2 x1 0 x0 0 [] ⟨0,[],[],[]⟩)))
 | .h0 v0 v1 v2 v3 v4 v5=>.b (aF v2 (aC v1)) (.g (.h1 v0 v1 v2 0 v3 v4 v5)) (.c (aH (aj v5) true) fun y1=>.k (aj (y1.1),y1.2))
 | .h1 v0 v1 v2 v3 v4 v5 v6=>.l (au (v3+1)) fun z3=>.l (aj v6) fun z2=>.l (fU v1 v2) fun z1=>.i v1 v2 fun y1=>.l (aF v3 (aC y1)) fun z5=>.l (cut y1 0 v3) fun z4=>.l (yS z4 v0) fun z7=>.l ((fun l _=>mU l) v6.keys z4) fun z6=>.q ((bZ 0 v2&&aF v2 (aC v1))||!z5) (.q ((bZ 0 v3&&aF v3 (aC y1))||!z5) (.b (aab z5 (uH y1 v3 != 61)) (.g (.h1 v0 v1 v2 z3 v4 v5 v6)) (.q z1 (.b z5 (.q z1 (.q (bN y1 z3 (aC y1)) (.q z1 (.q (bN y1 0 v3) (.c z7 fun y5=>.q (z6||!(!(!y5))) (.b (aM (!y5) (fO v6.keys z4)) (.k (⟨0,[],[],[]⟩,false)) (.c (ay (cut y1 z3 (aC y1))) fun y6=>.q (iA z2 z4 y6) (.g (.h0 v0 v1 (au (v2+1)) v4 v5 (bg z2 z4 y6)))))))))) (.q z1 (.q (bN y1 0 v3) (.c z7 fun y8=>.q (z6||!(!(!y8))) (.b (aM (!y8) (fO v6.keys z4)) (.k (⟨0,[],[],[]⟩,false)) (.c (ay []) fun y9=>.q (iA z2 z4 y9) (.g (.h0 v0 v1 (au (v2+1)) v4 v5 (bg z2 z4 y9))))))))))))
 | .h2 v0 v1 v2 v3 v4 v5=>.l (aj v5) fun z1=>.b (aF v1 (aC v2.keys)) (.i v2.keys v1 fun y1=>.c (yS y1 v0) fun y2=>.q ((bZ 0 v1&&aF v1 (aC v2.kids))||!(!(!y2))) (.b (aM (!y2) (aF 1 (Ai v2.kids v1 (dflt .ah)).kind)) (.k (⟨0,[],[],[]⟩,false)) (.q (fU v2.keys v1) (.i v2.kids v1 fun y4=>.c (ay (y4.text)) fun y5=>.q (iA z1 y1 y5) (.g (.h2 v0 (au (v1+1)) v2 v3 v4 (bg z1 y1 y5))))))) (.c (aH z1 true) fun y6=>.k (aj (y6.1),y6.2))
def Dw(x0:An)(x1:Bool):=mu jW (.e x0 x1)
def OG:=((PY.W 186 aqm aAD).W 31 adN av3).fl 126 [.ah,.bool] [.ah,.bool] jW (fun a=>.e a.1 a.2) (fun | .e x0 x1=>.e [⟨.ah,x0⟩,⟨.bool,x1⟩] | .h0 v0 v1 v2 v3 v4 v5=>.h 0 ⟨132,[(1,sB v0),(4,.ptr 0 0),(6,.ptr 1 0),(7,sL .str v1),(9,sI v2)],[(0,.box [sI v3,sS v4,.d (.raw (.slice none 0 0)),.d (.raw (.slice none 0 0))]),(1,.box [.d (.int .i64 v5.kind),.d (.str v5.text),.d (.slice .str v5.keys),.d (.slice .ah v5.kids)])],2⟩ | .h1 v0 v1 v2 v3 v4 v5 v6=>.h 1 ⟨132,[(1,sB v0),(4,.ptr 0 0),(6,.ptr 1 0),(7,sL .str v1),(9,sI v2),(10,sI v3)],[(0,.box [sI v4,sS v5,.d (.raw (.slice none 0 0)),.d (.raw (.slice none 0 0))]),(1,.box [.d (.int .i64 v6.kind),.d (.str v6.text),.d (.slice .str v6.keys),.d (.slice .ah v6.kids)])],2⟩ | .h2 v0 v1 v2 v3 v4 v5=>.h 2 ⟨132,[(1,sB v0),(2,.ptr 0 0),(4,.ptr 1 0),(6,.ptr 2 0),(13,sI v1)],[(0,.box [.d (.int .i64 v2.kind),.d (.str v2.text),.d (.slice .str v2.keys),.d (.slice .ah v2.kids)]),(1,.box [sI v3,sS v4,.d (.raw (.slice none 0 0)),.d (.raw (.slice none 0 0))]),(2,.box [.d (.int .i64 v5.kind),.d (.str v5.text),.d (.slice .str v5.keys),.d (.slice .ah v5.kids)])],3⟩) { live:=[(0,[1,4,6,7,9]),(1,[1,4,6,7,9,10]),(2,[1,2,4,6,13])],nk:=[(0,[(6,some 2,false,.str),(6,some 3,false,.ah)]),(2,[(6,some 2,false,.str),(6,some 3,false,.ah)])] } Tryz.func126
inductive GU where
 | e (x0:An)
 | h0 (v0:List (anY)) (v1:Bool) (v2:Int) (v3:An) (v4:Int) (v5:anY)
 | h1 (v0:List (anY)) (v1:Bool) (v2:Int) (v3:Int) (v4:anY) (v5:An)
def nW:GU->Te (An×Bool) GU
 | .e x0=>.c (jV (aj x0)) fun y1=>.b (aab (x0.kind==3) (bZ (aC x0.keys) 32)) (.g (.h0 x0.keys true 0 x0 0 [])) (.g (.h1 (y1.1) (y1.2) 0 0 [] ⟨0,[],[],[]⟩))
 | .h0 v0 v1 v2 v3 v4 v5=>.l (bZ 0 v2&&aF v2 (aC v3.kids)) fun z1=>.b (aF v2 (aC v3.kids)) (.i v3.kids v2 fun y1=>.l (y1.kind != 0) fun z2=>.q (z1||!z2) (.q (z1||!(z2&&(!(y1.kind != 3)))) (.b (aab z2 (aM (y1.kind != 3) (aF 0 (aC (y1.keys))))) (.g (.h0 v0 false (au (v2+1)) v3 v4 v5)) (.g (.h0 v0 v1 (au (v2+1)) v3 v4 v5))))) (.g (.h1 v0 v1 0 v4 v5 ⟨0,[],[],[]⟩))
 | .h1 v0 v1 v2 v3 v4 v5=>.l (aj v5) fun z1=>.b (aab (aF v2 (aC v0)) v1) (.i v0 v2 fun y1=>.q (fU v0 v2) (.q (iA z1 y1 ⟨0,[],[],[]⟩) (.g (.h1 v0 ((bP fV) y1) (au (v2+1)) v3 v4 (bg z1 y1 ⟨0,[],[],[]⟩))))) (.c (aH z1 v1) fun y3=>.k (aj (y3.1),y3.2))
def yT(x0:An):=mu nW (.e x0)
def Sm:=OG.fl 46 [.ah] [.ah,.bool] nW (fun a=>.e a) (fun | .e x0=>.e [⟨.ah,x0⟩] | .h0 v0 v1 v2 v3 v4 v5=>.h 0 ⟨85,[(1,.ptr 0 0),(2,.ptr 1 0),(4,sL .str v0),(5,sB v1),(6,sI v2)],[(0,.box [.d (.int .i64 v3.kind),.d (.str v3.text),.d (.slice .str v3.keys),.d (.slice .ah v3.kids)]),(1,.box [sI v4,sS v5,.d (.raw (.slice none 0 0)),.d (.raw (.slice none 0 0))])],2⟩ | .h1 v0 v1 v2 v3 v4 v5=>.h 1 ⟨85,[(2,.ptr 0 0),(4,sL .str v0),(5,sB v1),(7,.ptr 1 0),(8,sI v2)],[(0,.box [sI v3,sS v4,.d (.raw (.slice none 0 0)),.d (.raw (.slice none 0 0))]),(1,.box [.d (.int .i64 v5.kind),.d (.str v5.text),.d (.slice .str v5.keys),.d (.slice .ah v5.kids)])],2⟩) { live:=[(0,[1,2,4,5,6]),(1,[2,4,5,7,8])],nk:=[(1,[(7,some 2,false,.str),(7,some 3,false,.ah)])] } Tryz.func46
inductive GV where
 | e (x0:anY) (x1:Int)
 | h0 (v0:anY) (v1:Int) (v2:Nat) (v3:Int) (v4:Int) (v5:List (anY))
def yU:GV->Te ((List (anY))) GV
 | .e x0 x1=>.g (.h0 x0 x1 0 0 0 [])
 | .h0 v0 v1 v2 v3 v4 v5=>.l (cut v0 v3 (aC v0)) fun z3=>.l (au (v4+1)) fun z2=>.l (v5.length+([cut v0 v3 v4]:List (anY)).length) fun z1=>.b (aF v4 (aC v0)) (.s v0 v4 fun y1=>.b (y1==v1) (.q (bN v0 v3 v4) (.q (decide (z1*16<=av)) (.g (.h0 v0 v1 z1 z2 z2 (v5++([cut v0 v3 v4]:List (anY))))))) (.g (.h0 v0 v1 v2 v3 z2 v5))) (.q (bN v0 v3 (aC v0)) (.q (decide ((v5.length+([z3]:List (anY)).length)*16<=av)) (.k (v5++([z3]:List (anY))))))
def jJ(x0:anY)(x1:Int):=mu yU (.e x0 x1)
def Sn:=Sm.fl 248 [.str,.byte] [.bH] yU (fun a=>.e a.1 a.2) (fun | .e x0 x1=>.e [⟨.str,x0⟩,⟨.byte,x1⟩] | .h0 v0 v1 v2 v3 v4 v5=>.h 0 ⟨35,[(0,sS v0),(1,.d (.int .u8 v1)),(5,.row .str v2 0),(6,sI v3),(7,sI v4)],[(0,.row .str v5)],1⟩) { live:=[(0,[0,1,5,6,7])] } Tryz.func248
inductive Bc where
 | e (x0:anY)
 | h0 (v0:List (anY)) (v1:Int)
def nX:Bc->Te (Bool) Bc
 | .e x0=>.c (jJ x0 46) fun y1=>.b (aC y1 != 4) (.k false) (.g (.h0 y1 0))
 | .h0 v0 v1=>.b (aF v1 4) (.i v0 v1 fun y1=>.c (dL y1 255) fun y2=>.b (y2.2 != 0) (.k false) (.g (.h0 v0 (au (v1+1))))) (.k true)
def Bd(x0:anY):=mu nX (.e x0)
def Mj:=Sn.fl 267 [.str] [.bool] nX (fun a=>.e a) (fun | .e x0=>.e [⟨.str,x0⟩] | .h0 v0 v1=>.h 0 ⟨26,[(3,sL .str v0),(4,sI v1)],[],0⟩) { live:=[(0,[3,4])] } Tryz.func267
def vR(x0:Port):Te (Bool) Empty:=.l (aC x0.host==0) fun z2=>.l (Bd x0.host) fun z1=>.b (aM (aM (aM (aF x0.jZ 1) (aF 65535 x0.jZ)) (aF x0.out 0)) (aF 65535 x0.out)) (.k false) (.b (aab (!(x0.proto==[116,99,112])) (!(x0.proto==[117,100,112]))) (.k false) (.q ((z1.isSome)||!(!z2)) (.k (aM z2 (gv z1)))))
def bF(x0:Port):=(vR x0).o
def OH:=Mj.f0 249 [.kH] [.bool] (fun a=>vR a) Tryz.func249
def vS(x0:anY):Te (Port×Int) Empty:=.l (au (aC x0-3)) fun z5=>.l (dflt .str) fun z4=>.l (aF 4 (aC x0)) fun z3=>.l (au (aC x0-4)) fun z2=>.l (cut x0 z2 (aC x0)) fun z8=>.l (aab z3 (z8==[47,116,99,112])) fun z7=>.l (bZ 0 z2&&bZ z2 (aC x0)&&bZ (aC x0) (aC x0)) fun z6=>.l (cut x0 z5 (aC x0)) fun z1=>.q (z6||!z3) (.q (z6||!((!z7)&&z3)) (.b (aM z7 (aab z3 (z8==[47,117,100,112]))) (.q (bN x0 z5 (aC x0)) (.q (bN x0 0 z2) (.c (jJ (cut x0 0 z2) 58) fun y1=>.l (aC y1==3) fun z9=>.q ((bZ 0 0&&aF 0 (aC y1))||!((!(aF 3 (aC y1)))&&z9)) (.b (aM (aF 3 (aC y1)) (aab z9 (aC (Ai y1 0 z4)==0))) (.k (⟨[],0,0,[]⟩,3)) (.i y1 (au (aC y1-1)) fun y2=>.c (dL y2 65535) fun y3=>.l (bF ⟨[],0,y3.1,z1⟩) fun AY=>.l (y3.2 != 0) fun tT=>.q ((bZ 0 1&&aF 1 (aC y1))||!(aF 1 (aC y1)&&(!(aC y1==2)))) (.b (aab (aF 1 (aC y1)) (aM (aC y1==2) (aF 0 (aC (Ai y1 1 z4))))) (.i y1 (au (aC y1-2)) fun y4=>.c (dL y4 65535) fun y5=>.l (bF ⟨[],y5.1,y3.1,z1⟩) fun z12=>.b (aM (y5.2 != 0) (y5.1==0)) (.k (⟨[],0,0,[]⟩,3)) (.b z9 (.i y1 0 fun y6=>.l (bF ⟨y6,y5.1,y3.1,z1⟩) fun z13=>.q ((z13.isSome)||!(!tT)) (.b (aM tT (!(gv z13))) (.k (⟨[],0,0,[]⟩,3)) (.k (⟨y6,y5.1,y3.1,z1⟩,0)))) (.q ((z12.isSome)||!(!tT)) (.b (aM tT (!(gv z12))) (.k (⟨[],0,0,[]⟩,3)) (.k (⟨[],y5.1,y3.1,z1⟩,0)))))) (.b z9 (.i y1 0 fun y7=>.l (bF ⟨y7,0,y3.1,z1⟩) fun z14=>.q ((z14.isSome)||!(!tT)) (.b (aM tT (!(gv z14))) (.k (⟨[],0,0,[]⟩,3)) (.k (⟨y7,0,y3.1,z1⟩,0)))) (.q ((AY.isSome)||!(!tT)) (.b (aM tT (!(gv AY))) (.k (⟨[],0,0,[]⟩,3)) (.k (⟨[],0,y3.1,z1⟩,0))))))))))) (.c (jJ x0 58) fun y8=>.l (aC y8==3) fun jE=>.q ((bZ 0 0&&aF 0 (aC y8))||!((!(aF 3 (aC y8)))&&jE)) (.b (aM (aF 3 (aC y8)) (aab jE (aC (Ai y8 0 z4)==0))) (.k (⟨[],0,0,[]⟩,3)) (.i y8 (au (aC y8-1)) fun y9=>.c (dL y9 65535) fun iC=>.l (bF ⟨[],0,iC.1,[116,99,112]⟩) fun z17=>.l (iC.2 != 0) fun jM=>.q ((bZ 0 1&&aF 1 (aC y8))||!(aF 1 (aC y8)&&(!(aC y8==2)))) (.b (aab (aF 1 (aC y8)) (aM (aC y8==2) (aF 0 (aC (Ai y8 1 z4))))) (.i y8 (au (aC y8-2)) fun yw=>.c (dL yw 65535) fun nQ=>.l (bF ⟨[],nQ.1,iC.1,[116,99,112]⟩) fun ku=>.b (aM (nQ.2 != 0) (nQ.1==0)) (.k (⟨[],0,0,[]⟩,3)) (.b jE (.i y8 0 fun y13=>.l (bF ⟨y13,nQ.1,iC.1,[116,99,112]⟩) fun zA=>.q ((zA.isSome)||!(!jM)) (.b (aM jM (!(gv zA))) (.k (⟨[],0,0,[]⟩,3)) (.k (⟨y13,nQ.1,iC.1,[116,99,112]⟩,0)))) (.q ((ku.isSome)||!(!jM)) (.b (aM jM (!(gv ku))) (.k (⟨[],0,0,[]⟩,3)) (.k (⟨[],nQ.1,iC.1,[116,99,112]⟩,0)))))) (.b jE (.i y8 0 fun Am=>.l (bF ⟨Am,0,iC.1,[116,99,112]⟩) fun z20=>.q ((z20.isSome)||!(!jM)) (.b (aM jM (!(gv z20))) (.k (⟨[],0,0,[]⟩,3)) (.k (⟨Am,0,iC.1,[116,99,112]⟩,0)))) (.q ((z17.isSome)||!(!jM)) (.b (aM jM (!(gv z17))) (.k (⟨[],0,0,[]⟩,3)) (.k (⟨[],0,iC.1,[116,99,112]⟩,0)))))))))))
def Dx(x0:anY):=(vS x0).o
def OI:=OH.f0 230 [.str] [.kH,.bq] (fun a=>vS a) Tryz.func230
def xJ(x0:Port):Te ((anY)) Empty:=.l (gq x0.out) fun z6=>.l (aF 0 (aC x0.host)) fun z5=>.l (([]:anY)++([58]:anY)) fun z4=>.l (x0.proto==[117,100,112]) fun z3=>.l (gq x0.jZ) fun z2=>.l (x0.host++([58]:anY)) fun z1=>.l (z1++([58]:anY)) fun z7=>.c (bF x0) fun y1=>.b (!y1) (.k []) (.b z5 (.q (decide (x0.host.length+([58]:anY).length<=aA)) (.b (aF 0 x0.out) (.c z6 fun y2=>.l ((z1++y2)++([58]:anY)) fun z8=>.q (decide (z1.length+y2.length<=aA)) (.q (decide ((z1++y2).length+([58]:anY).length<=aA)) (.c z2 fun y3=>.q (decide (z8.length+y3.length<=aA)) (.b z3 (.q (decide ((z8++y3).length+([47,117,100,112]:anY).length<=aA)) (.k ((z8++y3)++([47,117,100,112]:anY)))) (.k (z8++y3)))))) (.b z5 (.q (decide (z1.length+([58]:anY).length<=aA)) (.c z2 fun y4=>.q (decide (z7.length+y4.length<=aA)) (.b z3 (.q (decide ((z7++y4).length+([47,117,100,112]:anY).length<=aA)) (.k ((z7++y4)++([47,117,100,112]:anY)))) (.k (z7++y4))))) (.c z2 fun y5=>.q (decide (z1.length+y5.length<=aA)) (.b z3 (.q (decide ((z1++y5).length+([47,117,100,112]:anY).length<=aA)) (.k ((z1++y5)++([47,117,100,112]:anY)))) (.k (z1++y5))))))) (.b (aF 0 x0.out) (.c z6 fun y6=>.l (([]:anY)++y6) fun tT=>.l (tT++([58]:anY)) fun z9=>.q (decide (([]:anY).length+y6.length<=aA)) (.q (decide (tT.length+([58]:anY).length<=aA)) (.c z2 fun y7=>.q (decide (z9.length+y7.length<=aA)) (.b z3 (.q (decide ((z9++y7).length+([47,117,100,112]:anY).length<=aA)) (.k ((z9++y7)++([47,117,100,112]:anY)))) (.k (z9++y7)))))) (.b z5 (.q (decide (([]:anY).length+([58]:anY).length<=aA)) (.c z2 fun y8=>.q (decide (z4.length+y8.length<=aA)) (.b z3 (.q (decide ((z4++y8).length+([47,117,100,112]:anY).length<=aA)) (.k ((z4++y8)++([47,117,100,112]:anY)))) (.k (z4++y8))))) (.c z2 fun y9=>.l (([]:anY)++y9) fun AY=>.q (decide (([]:anY).length+y9.length<=aA)) (.b z3 (.q (decide (AY.length+([47,117,100,112]:anY).length<=aA)) (.k (AY++([47,117,100,112]:anY)))) (.k AY))))))
def xK(x0:Port):=(xJ x0).o
def PZ:=OI.f0 231 [.kH] [.str] (fun a=>xJ a) Tryz.func231
inductive Fb where
 | e (x0:An) (x1:List (anY))
 | h0 (v0:List (anY)) (v1:Int) (v2:An)
def qO:Fb->Te (Bool) Fb
 | .e x0 x1=>.b (x0.kind != 3) (.k false) (.g (.h0 x1 0 x0))
 | .h0 v0 v1 v2=>.b (aF v1 (aC v2.keys)) (.i v2.keys v1 fun y1=>.q ((fun l _=>mU l) v0 y1) (.b (!(fO v0 y1)) (.k false) (.g (.h0 v0 (au (v1+1)) v2)))) (.k true)
def gu(x0:An)(x1:List (anY)):=mu qO (.e x0 x1)
def P5:=PZ.fl 191 [.ah,.bH] [.bool] qO (fun a=>.e a.1 a.2) (fun | .e x0 x1=>.e [⟨.ah,x0⟩,⟨.bH,x1⟩] | .h0 v0 v1 v2=>.h 0 ⟨24,[(1,sL .str v0),(2,.ptr 0 0),(5,sI v1)],[(0,.box [.d (.int .i64 v2.kind),.d (.str v2.text),.d (.slice .str v2.keys),.d (.slice .ah v2.kids)])],1⟩) { live:=[(0,[1,2,5])] } Tryz.func191
def vT(x0:An)(x1 x2:anY):Te ((anY)×Bool) Empty:=.l (aj x0) fun z1=>.q ((fun n _=>fit n) z1 x1) (.b (!(aB z1 x1)) (.k (x2,true)) (.k ((aG z1 x1).text,((aG z1 x1).kind==1))))
def bK(x0:An)(x1 x2:anY):=(vT x0 x1 x2).o
def OJ:=(P5.W 29 abU anM).f0 192 [.ah,.str,.str] [.str,.bool] (fun a=>vT a.1 a.2.1 a.2.2) Tryz.func192
def uL(x0:An)(x1:anY):Te (Int×Bool) Empty:=.l (aj x0) fun z1=>.q ((fun n _=>fit n) z1 x1) (.b (!(aB z1 x1)) (.k (0,true)) (.c (bK z1 x1 []) fun y1=>.c (dL (y1.1) 65536) fun y2=>.k (y2.1,aab (aab y1.2 (y2.2==0)) (aF 0 y2.1))))
def oP(x0:An)(x1:anY):=(uL x0 x1).o
def Nl:=OJ.f0 196 [.ah,.str] [.int,.bool] (fun a=>uL a.1 a.2) Tryz.func196
def uh(x0:An):Te ((anY)) Empty:=.l (aj x0) fun z1=>.b (x0.kind==1) (.c (Dx x0.text) fun y1=>.b (y1.2 != 0) (.k []) (.c (xK (y1.1)) fun y2=>.k y2)) (.c (gu z1 [[116,97,114,103,101,116],[112,117,98,108,105,115,104,101,100],[104,111,115,116,95,105,112],[112,114,111,116,111,99,111,108]]) fun y3=>.b (!y3) (.k []) (.c (oP z1 [116,97,114,103,101,116]) fun y4=>.c (oP z1 [112,117,98,108,105,115,104,101,100]) fun y5=>.c (bK z1 [104,111,115,116,95,105,112] []) fun y6=>.c (bK z1 [112,114,111,116,111,99,111,108] [116,99,112]) fun y7=>.b (aM (aM (aM (!y4.2) (!y5.2)) (!y6.2)) (!y7.2)) (.k []) (.c (xK ⟨y6.1,y5.1,y4.1,y7.1⟩) fun y8=>.k y8)))
def uj(x0:An):=(uh x0).o
def Mk:=Nl.f0 187 [.ah] [.str] (fun a=>uh a) Tryz.func187
inductive vU where
 | e (x0:An)
 | h0 (v0:Int) (v1:An) (v2:Int) (v3:anY) (v4:An)
def ql:vU->Te (An×Bool) vU
 | .e x0=>.b (aM (aF 32 (aC x0.kids)) (aF x0.kind 2)) (.k (⟨0,[],[],[]⟩,false)) (.g (.h0 0 x0 0 [] ⟨0,[],[],[]⟩))
 | .h0 v0 v1 v2 v3 v4=>.l (Ai v1.keys v0 (dflt .str)) fun z5=>.l (bZ 0 v0&&aF v0 (aC v1.keys)) fun z4=>.l (vU.h0 (au (v0+1)) v1 v2 v3) fun z3=>.l (aj v4) fun z2=>.l (ay z5) fun z1=>.l (uj (gv z1)) fun z6=>.b (aF v0 (aC v1.kids)) (.b (v1.kind==2) (.i v1.kids v0 fun y1=>.c (uj (aj y1)) fun y2=>.b (y2==[]) (.k (⟨0,[],[],[]⟩,false)) (.q (iA z2 y2 ⟨0,[],[],[]⟩) (.g (z3 (bg z2 y2 ⟨0,[],[],[]⟩))))) (.i v1.kids v0 fun y3=>.l (y3.kind==0) fun z7=>.q (z4||!z7) (.q ((z1.isSome)||!z7) (.q ((z6.isSome)||!z7) (.q (z4||!z7) (.b (aab z7 (gv z6==z5)) (.i v1.keys v0 fun y4=>.b (y4==[]) (.k (⟨0,[],[],[]⟩,false)) (.q (iA z2 y4 ⟨0,[],[],[]⟩) (.g (z3 (bg z2 y4 ⟨0,[],[],[]⟩))))) (.b (([]:anY)==[]) (.k (⟨0,[],[],[]⟩,false)) (.q (iA z2 [] ⟨0,[],[],[]⟩) (.g (z3 (bg z2 [] ⟨0,[],[],[]⟩))))))))))) (.c (aH z2 true) fun y5=>.k (aj (y5.1),y5.2))
def Dy(x0:An):=mu ql (.e x0)
def OL:=Mk.fl 127 [.ah] [.ah,.bool] ql (fun a=>.e a) (fun | .e x0=>.e [⟨.ah,x0⟩] | .h0 v0 v1 v2 v3 v4=>.h 0 ⟨72,[(1,.ptr 0 0),(2,.ptr 1 0),(4,.ptr 2 0),(5,sI v0)],[(0,.box [.d (.int .i64 v1.kind),.d (.str v1.text),.d (.slice .str v1.keys),.d (.slice .ah v1.kids)]),(1,.box [sI v2,sS v3,.d (.raw (.slice none 0 0)),.d (.raw (.slice none 0 0))]),(2,.box [.d (.int .i64 v4.kind),.d (.str v4.text),.d (.slice .str v4.keys),.d (.slice .ah v4.kids)])],3⟩) { live:=[(0,[1,2,4,5])],nk:=[(0,[(4,some 2,false,.str),(4,some 3,false,.ah)])] } Tryz.func127
inductive Fe where
 | e (x0:anY)
 | h0 (v0:anY) (v1:Int)
def qP:Fe->Te (Bool) Fe
 | .e x0=>.b (aM (aF (aC x0) 1) (aF 64 (aC x0))) (.k false) (.g (.h0 x0 0))
 | .h0 v0 v1=>.b (aF v1 (aC v0)) (.s v0 v1 fun y1=>.q ((bZ 0 v1&&aF v1 (aC v0))||!(y1 != 47)) (.b (aab (y1 != 47) (iY y1==0)) (.k false) (.g (.h0 v0 (au (v1+1)))))) (.k true)
def xL(x0:anY):=mu qP (.e x0)
def P6:=(OL.W 80 Li RL).fl 251 [.str] [.bool] qP (fun a=>.e a) (fun | .e x0=>.e [⟨.str,x0⟩] | .h0 v0 v1=>.h 0 ⟨29,[(0,sS v0),(3,sI v1)],[],0⟩) { live:=[(0,[0,3])] } Tryz.func251
inductive CB where
 | e (x0:anY)
 | h0 (v0:anY) (v1:Int) (v2:Int)
def oQ:CB->Te (Bool) CB
 | .e x0=>.c (xL x0) fun y1=>.q ((bZ 0 0&&aF 0 (aC x0))||!(!(!y1))) (.b (aM (!y1) (uH x0 0 != 47)) (.k false) (.b (x0==[47]) (.k true) (.g (.h0 x0 1 1))))
 | .h0 v0 v1 v2=>.l (cut v0 v1 v2) fun z2=>.l (au (v2+1)) fun z1=>.b (bZ v2 (aC v0)) (.q ((bZ 0 v2&&aF v2 (aC v0))||!(aF v2 (aC v0))) (.b (aab (aF v2 (aC v0)) (uH v0 v2 != 47)) (.g (.h0 v0 v1 z1)) (.q (bN v0 v1 v2) (.b (aM (aM (z2==[]) (z2==[46])) (z2==[46,46])) (.k false) (.g (.h0 v0 z1 z1)))))) (.k true)
def CF(x0:anY):=mu oQ (.e x0)
def Nn:=P6.fl 250 [.str] [.bool] oQ (fun a=>.e a) (fun | .e x0=>.e [⟨.str,x0⟩] | .h0 v0 v1 v2=>.h 0 ⟨48,[(0,sS v0),(3,sI v1),(4,sI v2)],[],0⟩) { live:=[(0,[0,3,4])] } Tryz.func250
def vV(x0:gD):Te (Bool) Empty:=.l (uH x0.source 0) fun z2=>.l (bZ 0 0&&aF 0 (aC x0.source)) fun z1=>.c (CF x0.target) fun y1=>.b (!y1) (.k false) (.b (aM (aC x0.source==0) ((bP fV) x0.source)) (.k true) (.c (xL x0.source) fun y2=>.q (z1||!y2) (.q (z1||!(y2&&(!(z2==47)))) (.k (aab y2 (aM (z2==47) (z2==46)))))))
def iD(x0:gD):=(vV x0).o
def OM:=Nn.f0 233 [.jm] [.bool] (fun a=>vV a) Tryz.func233
inductive vW where
 | e (x0:anY)
 | h0 (v0:anY) (v1:Int) (v2:Int) (v3:Int) (v4:gD) (v5:gD)
def l6:vW->Te (gD×Int) vW
 | .e x0=>.l (bZ 3 (aC x0)) fun z2=>.l (au (aC x0-3)) fun z1=>.l (cut x0 z1 (aC x0)) fun z5=>.l (z5==[58,114,111]) fun z4=>.l (bZ 0 z1&&bZ z1 (aC x0)&&bZ (aC x0) (aC x0)) fun z3=>.q (z3||!z2) (.q (z3||!(z2&&(!z4))) (.b (aab z2 (aM z4 (z5==[58,114,119]))) (.s x0 (au (aC x0-1)) fun y1=>.q (bN x0 0 z1) (.g (.h0 (cut x0 0 z1) (-1) 0 0 ⟨[],[],false⟩ ⟨[],[],(y1==111)⟩))) (.g (.h0 x0 (-1) 0 0 ⟨[],[],false⟩ ⟨[],[],false⟩))))
 | .h0 v0 v1 v2 v3 v4 v5=>.l (bN v0 (au (v1+1)) (aC v0)) fun z2=>.l (cut v0 (au (v1+1)) (aC v0)) fun z1=>.b (aF v3 (aC v0)) (.s v0 v3 fun y1=>.b (y1==58) (.g (.h0 v0 v3 (au (v2+1)) (au (v3+1)) v4 v5)) (.g (.h0 v0 v1 v2 (au (v3+1)) v4 v5))) (.b (aM (aF 1 v2) (v1==0)) (.k (⟨[],[],false⟩,3)) (.b (v2==1) (.q (bN v0 0 v1) (.q z2 (.c (iD ⟨cut v0 0 v1,z1,v5.readOnly⟩) fun y2=>.b (!y2) (.k (⟨[],[],false⟩,3)) (.k (⟨cut v0 0 v1,z1,v5.readOnly⟩,0))))) (.q z2 (.c (iD ⟨v5.source,z1,v5.readOnly⟩) fun y3=>.b (!y3) (.k (⟨[],[],false⟩,3)) (.k (⟨v5.source,z1,v5.readOnly⟩,0))))))
def Dz(x0:anY):=mu l6 (.e x0)
def OO:=OM.fl 232 [.str] [.jm,.bq] l6 (fun a=>.e a) (fun | .e x0=>.e [⟨.str,x0⟩] | .h0 v0 v1 v2 v3 v4 v5=>.h 0 ⟨74,[(0,sS v0),(2,.ptr 0 0),(4,.ptr 1 0),(6,sI v1),(7,sI v2),(8,sI v3)],[(0,.box [.d (.str v4.source),.d (.str v4.target),.d (.bool v4.readOnly)]),(1,.box [.d (.str v5.source),.d (.str v5.target),.d (.bool v5.readOnly)])],2⟩) { live:=[(0,[0,2,4,6,7,8])] } Tryz.func232
def vX(x0:An)(x1 x2:anY):Te ((anY)×Bool) Empty:=.c (bK (aj x0) x1 x2) fun y1=>.k (y1.1,aab y1.2 (aM (y1.1==[116,114,117,101]) (y1.1==[102,97,108,115,101])))
def gJ(x0:An)(x1 x2:anY):=(vX x0 x1 x2).o
def OP:=OO.f0 193 [.ah,.str,.str] [.str,.bool] (fun a=>vX a.1 a.2.1 a.2.2) Tryz.func193
def rV(x0:An):Te (gD×Bool) Empty:=.l (aj x0) fun z1=>.b (x0.kind==1) (.c (Dz x0.text) fun y1=>.k ((y1.1),(y1.2==0))) (.c (gu z1 [[115,111,117,114,99,101],[116,97,114,103,101,116],[114,101,97,100,95,111,110,108,121],[116,121,112,101]]) fun y2=>.b (!y2) (.k (⟨[],[],false⟩,false)) (.c (bK z1 [115,111,117,114,99,101] []) fun y3=>.c (bK z1 [116,97,114,103,101,116] []) fun y4=>.c (gJ z1 [114,101,97,100,95,111,110,108,121] [102,97,108,115,101]) fun y5=>.l (aab (aab y3.2 y4.2) y5.2) fun z4=>.l (y5.1==[116,114,117,101]) fun z3=>.l (iD ⟨y3.1,y4.1,z3⟩) fun z2=>.c (bK z1 [116,121,112,101] [98,105,110,100]) fun y6=>.q ((z2.isSome)||!(aab z4 y6.2)) (.k (⟨y3.1,y4.1,z3⟩,aab (aab (aab z4 y6.2) (gv z2)) (aM (aM (y6.1==[118,111,108,117,109,101]) (y6.1==[98,105,110,100])) (y6.1==[116,109,112,102,115]))))))
def Ao(x0:An):=(rV x0).o
def K9:=OP.f0 188 [.ah] [.jm,.bool] (fun a=>rV a) Tryz.func188
def xM(x0:gD):Te ((anY)) Empty:=.l (x0.source++([58]:anY)) fun z1=>.l (z1++x0.target) fun z2=>.c (iD x0) fun y1=>.b (!y1) (.k []) (.b (aF 0 (aC x0.source)) (.q (decide (x0.source.length+([58]:anY).length<=aA)) (.q (decide (z1.length+x0.target.length<=aA)) (.b x0.readOnly (.q (decide (z2.length+([58,114,111]:anY).length<=aA)) (.k (z2++([58,114,111]:anY)))) (.k z2)))) (.b x0.readOnly (.q (decide (x0.target.length+([58,114,111]:anY).length<=aA)) (.k (x0.target++([58,114,111]:anY)))) (.k x0.target)))
def Fg(x0:gD):=(xM x0).o
def P7:=K9.f0 189 [.jm] [.str] (fun a=>xM a) Tryz.func189
inductive CG where
 | e (x0:An)
 | h0 (v0:Int) (v1:An) (v2:Int) (v3:anY) (v4:An)
def oU:CG->Te (An×Bool) CG
 | .e x0=>.b (aM (aF 32 (aC x0.kids)) (aF x0.kind 2)) (.k (⟨0,[],[],[]⟩,false)) (.g (.h0 0 x0 0 [] ⟨0,[],[],[]⟩))
 | .h0 v0 v1 v2 v3 v4=>.l (aj v4) fun z3=>.l (bZ 0 v0&&aF v0 (aC v1.kids)) fun z2=>.l (v1.kind==3) fun z1=>.b (aF v0 (aC v1.kids)) (.i v1.kids v0 fun y1=>.l (y1.kind != 1) fun z4=>.c (Ao (aj y1)) fun y2=>.l ((!(!y2.2))&&z1) fun z5=>.c (Fg (y2.1)) fun y3=>.l (aM z4 (!(y1.text==y3))) fun z6=>.q (z2||!z5) (.q (z2||!(z5&&(!z4))) (.q ((bZ 0 v0&&aF v0 (aC v1.keys))||!(z5&&(!z6))) (.b (aM (!y2.2) (aab z1 (aM z6 (!(Ai v1.keys v0 (dflt .str)==(y2.1).target))))) (.k (⟨0,[],[],[]⟩,false)) (.c (ay y3) fun y4=>.q (iA z3 ((y2.1).target) y4) (.g (.h0 (au (v0+1)) v1 v2 v3 (bg z3 ((y2.1).target) y4)))))))) (.c (aH z3 true) fun y5=>.k (aj (y5.1),y5.2))
def CJ(x0:An):=mu oU (.e x0)
def Np:=P7.fl 128 [.ah] [.ah,.bool] oU (fun a=>.e a) (fun | .e x0=>.e [⟨.ah,x0⟩] | .h0 v0 v1 v2 v3 v4=>.h 0 ⟨85,[(1,.ptr 0 0),(2,.ptr 1 0),(4,.ptr 2 0),(5,sI v0)],[(0,.box [.d (.int .i64 v1.kind),.d (.str v1.text),.d (.slice .str v1.keys),.d (.slice .ah v1.kids)]),(1,.box [sI v2,sS v3,.d (.raw (.slice none 0 0)),.d (.raw (.slice none 0 0))]),(2,.box [.d (.int .i64 v4.kind),.d (.str v4.text),.d (.slice .str v4.keys),.d (.slice .ah v4.kids)])],3⟩) { live:=[(0,[1,2,4,5])],nk:=[(0,[(4,some 2,false,.str),(4,some 3,false,.ah)])] } Tryz.func128
def xO(x0:An):Te (An×Bool) Empty:=.l (aj x0) fun z1=>.b (x0.kind==0) (.c (gu ⟨3,[],[],[]⟩ [[99,111,110,100,105,116,105,111,110],[114,101,115,116,97,114,116],[114,101,113,117,105,114,101,100]]) fun y1=>.b (!y1) (.k (⟨0,[],[],[]⟩,false)) (.c (bK ⟨3,[],[],[]⟩ [99,111,110,100,105,116,105,111,110] [115,101,114,118,105,99,101,95,115,116,97,114,116,101,100]) fun y2=>.c (gJ ⟨3,[],[],[]⟩ [114,101,115,116,97,114,116] [102,97,108,115,101]) fun y3=>.c (gJ ⟨3,[],[],[]⟩ [114,101,113,117,105,114,101,100] [116,114,117,101]) fun y4=>.c (ay (y2.1)) fun y5=>.c (ay (y4.1)) fun y6=>.c (ay (y3.1)) fun y7=>.k (⟨3,[],[[99,111,110,100,105,116,105,111,110],[114,101,113,117,105,114,101,100],[114,101,115,116,97,114,116]],[y5,y6,y7]⟩,aab (aab (aab y2.2 y3.2) y4.2) (aM (aM (y2.1==[115,101,114,118,105,99,101,95,115,116,97,114,116,101,100]) (y2.1==[115,101,114,118,105,99,101,95,104,101,97,108,116,104,121])) (y2.1==[115,101,114,118,105,99,101,95,99,111,109,112,108,101,116,101,100,95,115,117,99,99,101,115,115,102,117,108,108,121]))))) (.c (gu z1 [[99,111,110,100,105,116,105,111,110],[114,101,115,116,97,114,116],[114,101,113,117,105,114,101,100]]) fun y8=>.b (!y8) (.k (⟨0,[],[],[]⟩,false)) (.c (bK z1 [99,111,110,100,105,116,105,111,110] [115,101,114,118,105,99,101,95,115,116,97,114,116,101,100]) fun y9=>.c (gJ z1 [114,101,115,116,97,114,116] [102,97,108,115,101]) fun iC=>.c (gJ z1 [114,101,113,117,105,114,101,100] [116,114,117,101]) fun yw=>.c (ay (y9.1)) fun nQ=>.c (ay (yw.1)) fun y13=>.c (ay (iC.1)) fun Am=>.k (⟨3,[],[[99,111,110,100,105,116,105,111,110],[114,101,113,117,105,114,101,100],[114,101,115,116,97,114,116]],[nQ,y13,Am]⟩,aab (aab (aab y9.2 iC.2) yw.2) (aM (aM (y9.1==[115,101,114,118,105,99,101,95,115,116,97,114,116,101,100]) (y9.1==[115,101,114,118,105,99,101,95,104,101,97,108,116,104,121])) (y9.1==[115,101,114,118,105,99,101,95,99,111,109,112,108,101,116,101,100,95,115,117,99,99,101,115,115,102,117,108,108,121])))))
def xP(x0:An):=(xO x0).o
def P8:=Np.f0 190 [.ah] [.ah,.bool] (fun a=>xO a) Tryz.func190
inductive Fj where
 | e (x0:An)
 | h0 (v0:List (anY)) (v1:Bool) (v2:Int) (v3:An) (v4:Int) (v5:anY) (v6:An)
def qQ:Fj->Te (An×Bool) Fj
 | .e x0=>.c (jV (aj x0)) fun y1=>.b (aab (x0.kind==3) (bZ (aC x0.keys) 32)) (.g (.h0 x0.keys true 0 x0 0 [] ⟨0,[],[],[]⟩)) (.g (.h0 (y1.1) (y1.2) 0 x0 0 [] ⟨0,[],[],[]⟩))
 | .h0 v0 v1 v2 v3 v4 v5 v6=>.l (bZ 0 v2&&aF v2 (aC v0)) fun z2=>.l (aj v6) fun z1=>.b (aab (aF v2 (aC v0)) v1) (.b (v3.kind==3) (.i v3.kids v2 fun y1=>.c (xP (aj y1)) fun y2=>.q (z2||!y2.2) (.i v0 v2 fun y3=>.q (iA z1 y3 (aj (y2.1))) (.g (.h0 v0 (aab y2.2 ((bP fV) y3)) (au (v2+1)) v3 v4 v5 (bg z1 y3 (aj (y2.1))))))) (.c (xP ⟨0,[],[],[]⟩) fun y4=>.q (z2||!y4.2) (.i v0 v2 fun y5=>.q (iA z1 y5 (aj (y4.1))) (.g (.h0 v0 (aab y4.2 ((bP fV) y5)) (au (v2+1)) v3 v4 v5 (bg z1 y5 (aj (y4.1)))))))) (.c (aH z1 v1) fun y6=>.k (aj (y6.1),y6.2))
def Fu(x0:An):=mu qQ (.e x0)
def P9:=P8.fl 129 [.ah] [.ah,.bool] qQ (fun a=>.e a) (fun | .e x0=>.e [⟨.ah,x0⟩] | .h0 v0 v1 v2 v3 v4 v5 v6=>.h 0 ⟨71,[(1,.ptr 0 0),(2,.ptr 1 0),(4,sL .str v0),(5,sB v1),(6,.ptr 2 0),(7,sI v2)],[(0,.box [.d (.int .i64 v3.kind),.d (.str v3.text),.d (.slice .str v3.keys),.d (.slice .ah v3.kids)]),(1,.box [sI v4,sS v5,.d (.raw (.slice none 0 0)),.d (.raw (.slice none 0 0))]),(2,.box [.d (.int .i64 v6.kind),.d (.str v6.text),.d (.slice .str v6.keys),.d (.slice .ah v6.kids)])],3⟩) { live:=[(0,[1,2,4,5,6,7])],nk:=[(0,[(6,some 2,false,.str),(6,some 3,false,.ah)])] } Tryz.func129
def um(x0:An):Te (An×Bool) Empty:=.l (aj x0) fun z1=>.b (x0.kind==1) (.c (gu ⟨3,[],[[115,101,114,118,105,99,101]],[z1]⟩ [[115,101,114,118,105,99,101],[102,105,108,101]]) fun y1=>.b (!y1) (.k (⟨0,[],[],[]⟩,false)) (.c (bK ⟨3,[],[[115,101,114,118,105,99,101]],[z1]⟩ [115,101,114,118,105,99,101] []) fun y2=>.c (bK ⟨3,[],[[115,101,114,118,105,99,101]],[z1]⟩ [102,105,108,101] [120]) fun y3=>.b (aM (aM (aM (aM (!y2.2) (!y3.2)) (!((bP fV) (y2.1)))) (aF (aC (y3.1)) 1)) (aF 64 (aC (y3.1)))) (.k (⟨0,[],[],[]⟩,false)) (.c (aH ⟨3,[],[[115,101,114,118,105,99,101]],[z1]⟩ true) fun y4=>.k (aj (y4.1),y4.2)))) (.c (gu z1 [[115,101,114,118,105,99,101],[102,105,108,101]]) fun y5=>.b (!y5) (.k (⟨0,[],[],[]⟩,false)) (.c (bK z1 [115,101,114,118,105,99,101] []) fun y6=>.c (bK z1 [102,105,108,101] [120]) fun y7=>.b (aM (aM (aM (aM (!y6.2) (!y7.2)) (!((bP fV) (y6.1)))) (aF (aC (y7.1)) 1)) (aF 64 (aC (y7.1)))) (.k (⟨0,[],[],[]⟩,false)) (.c (aH z1 true) fun y8=>.k (aj (y8.1),y8.2))))
def Bf(x0:An):=(um x0).o
def Ml:=P9.f0 130 [.ah] [.ah,.bool] (fun a=>um a) Tryz.func130
inductive qR where
 | e (x0:anY)
 | h0 (v0:anY) (v1:anY) (v2:Int)
 | h1 (v0:anY) (v1:anY) (v2:Int) (v3:Int) (v4:Bool) (v5:Int)
def qU:qR->Te (Bool) qR
 | .e x0=>.g (.h0 x0 [46,95,45,47,58,61,44,43,64,37] 0)
 | .h0 v0 v1 v2=>.b (aF v2 (aC v0)) (.s v0 v2 fun y1=>.g (.h1 v0 v1 v2 y1 (aM (aM (aab (bZ 97 y1) (bZ y1 122)) (aab (bZ 65 y1) (bZ y1 90))) (aab (bZ 48 y1) (bZ y1 57))) 0)) (.k (aF 0 (aC v0)))
 | .h1 v0 v1 v2 v3 v4 v5=>.b (aF v5 (aC v1)) (.q ((bZ 0 v5&&aF v5 (aC v1))||!(!v4)) (.g (.h1 v0 v1 v2 v3 (aM v4 (uH v1 v5==v3)) (au (v5+1))))) (.b (!v4) (.k false) (.g (.h0 v0 v1 (au (v2+1)))))
def xQ(x0:anY):=mu qU (.e x0)
def Qa:=Ml.fl 252 [.str] [.bool] qU (fun a=>.e a) (fun | .e x0=>.e [⟨.str,x0⟩] | .h0 v0 v1 v2=>.h 0 ⟨58,[(0,sS v0),(3,sS v1),(4,sI v2)],[],0⟩ | .h1 v0 v1 v2 v3 v4 v5=>.h 1 ⟨58,[(0,sS v0),(3,sS v1),(4,sI v2),(5,.d (.int .u8 v3)),(6,sB v4),(7,sI v5)],[],0⟩) { live:=[(0,[0,3,4]),(1,[0,3,4,5,6,7])] } Tryz.func252
inductive qV where
 | e (x0:List (anY))
 | h0 (v0:List (anY)) (v1:anY) (v2:Int)
 | h1 (v0:List (anY)) (v1:anY) (v2:Int) (v3:Int)
def qW:qV->Te ((anY)) qV
 | .e x0=>.g (.h0 x0 [] 0)
 | .h0 v0 v1 v2=>.l (v1++([32]:anY)) fun z1=>.b (aF v2 (aC v0)) (.b (aF 0 v2) (.q (decide (v1.length+([32]:anY).length<=aA)) (.i v0 v2 fun y1=>.c (xQ y1) fun y2=>.b y2 (.q (fU v0 v2) (.q (decide (z1.length+y1.length<=aA)) (.g (.h0 v0 (z1++y1) (au (v2+1)))))) (.q (decide (z1.length+([39]:anY).length<=aA)) (.g (.h1 v0 (z1++([39]:anY)) v2 0))))) (.i v0 v2 fun y4=>.c (xQ y4) fun y5=>.b y5 (.q (fU v0 v2) (.q (decide (v1.length+y4.length<=aA)) (.g (.h0 v0 (v1++y4) (au (v2+1)))))) (.q (decide (v1.length+([39]:anY).length<=aA)) (.g (.h1 v0 (v1++([39]:anY)) v2 0))))) (.k v1)
 | .h1 v0 v1 v2 v3=>.l (fU v0 v2) fun z3=>.l (v1++([39,92,39]:anY)) fun z2=>.l (au (v3+1)) fun z1=>.i v0 v2 fun y1=>.l (cut y1 v3 z1) fun z4=>.b (aF v3 (aC y1)) (.q z3 (.s y1 v3 fun y3=>.b (y3==39) (.q (decide (v1.length+([39,92,39]:anY).length<=aA)) (.q z3 (.q (bN y1 v3 z1) (.q (decide (z2.length+z4.length<=aA)) (.g (.h1 v0 (z2++z4) v2 z1)))))) (.q z3 (.q (bN y1 v3 z1) (.q (decide (v1.length+z4.length<=aA)) (.g (.h1 v0 (v1++z4) v2 z1))))))) (.q (decide (v1.length+([39]:anY).length<=aA)) (.g (.h0 v0 (v1++([39]:anY)) (au (v2+1)))))
def Fw(x0:List (anY)):=mu qW (.e x0)
def Qb:=Qa.fl 234 [.bH] [.str] qW (fun a=>.e a) (fun | .e x0=>.e [⟨.bH,x0⟩] | .h0 v0 v1 v2=>.h 0 ⟨60,[(0,sL .str v0),(3,sS v1),(4,sI v2)],[],0⟩ | .h1 v0 v1 v2 v3=>.h 1 ⟨60,[(0,sL .str v0),(3,sS v1),(4,sI v2),(5,sI v3)],[],0⟩) { live:=[(0,[0,3,4]),(1,[0,3,4,5])] } Tryz.func234
def xR(x0:An):Te ((anY)×Int) Empty:=.b (x0.kind==1) (.k (x0.text,1)) (.c (jV (aj x0)) fun y1=>.l (aC (y1.1)) fun z1=>.b (aM (!y1.2) (z1==0)) (.k ([],0)) (.i y1.1 0 fun y2=>.b (aab (y2==[78,79,78,69]) (z1==1)) (.k ([],2)) (.q (fU y1.1 0) (.b (aab (y2==[67,77,68,45,83,72,69,76,76]) (z1==2)) (.i y1.1 1 fun y4=>.k (y4,1)) (.q (fU y1.1 0) (.b (aab (y2==[67,77,68]) (aF 1 z1)) (.q (bN (y1.1) 1 z1) (.c (Fw (cut (y1.1) 1 z1)) fun y6=>.k (y6,1))) (.k ([],0))))))))
def xU(x0:An):=(xR x0).o
def Qc:=Qb.f0 194 [.ah] [.str,.int] (fun a=>xR a) Tryz.func194
inductive DC where
 | e (x0:anY)
 | h0 (v0:anY) (v1:Int)
def vY:DC->Te ((anY)×Int×(anY)×Bool) DC
 | .e x0=>.g (.h0 x0 0)
 | .h0 v0 v1=>.l (bZ 0 v1&&aF v1 (aC v0)) fun z5=>.l (aab (aF v1 (aC v0)) (bZ 48 (uH v0 v1))) fun z4=>.l (cut v0 0 v1) fun z3=>.l (lW z3) fun z2=>.l (cut v0 v1 (aC v0)) fun z1=>.l (uH z1 0) fun z12=>.l (bZ 0 0&&aF 0 (aC z1)) fun AY=>.l (cut z1 1 (aC z1)) fun tT=>.l (bN z1 1 (aC z1)) fun z9=>.l (aab (bZ 2 (aC z1)) (z12==109)) fun z8=>.l (bZ 1 (aC z1)) fun z7=>.l (AY||!z7) fun z6=>.q (z5||!(aF v1 (aC v0))) (.q (z5||!z4) (.b (aab z4 (bZ (uH v0 v1) 57)) (.g (.h0 v0 (au (v1+1)))) (.q (bN v0 0 v1) (.q (bN v0 v1 (aC v0)) (.q (AY||!(bZ 2 (aC z1))) (.q ((bZ 0 1&&aF 1 (aC z1))||!z8) (.b (aab z8 (uH z1 1==115)) (.q (bN z1 2 (aC z1)) (.c z2 fun y1=>.k (z3,3,cut z1 2 (aC z1),y1))) (.q z6 (.b (aab z7 (z12==104)) (.q z9 (.c z2 fun y2=>.k (z3,0,tT,y2))) (.q z6 (.b (aab z7 (z12==109)) (.q z9 (.c z2 fun y3=>.k (z3,1,tT,y3))) (.q z6 (.b (aab z7 (z12==115)) (.q z9 (.c z2 fun y4=>.k (z3,2,tT,y4))) (.k ([],0,[],false)))))))))))))))
def DF(x0:anY):=mu vY (.e x0)
def OQ:=Qc.fl 253 [.str] [.str,.int,.str,.bool] vY (fun a=>.e a) (fun | .e x0=>.e [⟨.str,x0⟩] | .h0 v0 v1=>.h 0 ⟨90,[(0,sS v0),(6,sI v1)],[],0⟩) { live:=[(0,[0,6])] } Tryz.func253
def DI:Te (abq) Empty:=.k ⟨3600000,60000,1000,1⟩
def vZ:=(DI).o
def OT:=OQ.f0 254 [] [.AO] (fun _=>DI) Tryz.func254
inductive qm where
 | e (x0:anY)
 | h0 (v0:anY) (v1:Bool) (v2:Int) (v3:List Int)
 | h1 (v0:Bool) (v1:Int) (v2:Int) (v3:List Int) (v4:List Int)
def jX:qm->Te (Int×Int) qm
 | .e x0=>.b (aC x0==0) (.k (0,3)) (.g (.h0 x0 false (-1) [0,0,0,0]))
 | .h0 v0 v1 v2 v3=>.b (aF 0 (aC v0)) (.c (DF v0) fun y1=>.l (bZ 0 y1.2.1&&aF y1.2.1 4) fun z2=>.l (nL (y1.2.1)) fun z1=>.b (aM (aM (!y1.2.2.2) (bZ y1.2.1 v2)) (aab (y1.1==[48]) (aM (bZ 0 v2) (aF 0 (aC (y1.2.2.1)))))) (.k (0,3)) (.c (lX (y1.1)) fun y2=>.b (aF 1099511627776 y2) (.q z2 (.q (Nat.blt z1 v3.length) (.g (.h0 (y1.2.2.1) true (y1.2.1) (List.set v3 z1 0))))) (.q z2 (.q (Nat.blt z1 v3.length) (.g (.h0 (y1.2.2.1) v1 (y1.2.1) (List.set v3 z1 y2))))))) (.c vZ fun y3=>.g (.h1 v1 0 0 v3 [y3.e0,y3.e1,y3.e2,y3.e3]))
 | .h1 v0 v1 v2 v3 v4=>.l (au (v2+1)) fun z4=>.l (dflt .int) fun z3=>.l (au (v1+au ((List.getD v3 (nL v2) z3)*(List.getD v4 (nL v2) z3)))) fun z2=>.l (bZ 0 v2&&aF v2 4) fun z1=>.b (aF v2 4) (.q z1 (.q (Nat.blt (nL v2) v3.length) (.q z1 (.q (Nat.blt (nL v2) v4.length) (.q (!((List.getD v4 (nL v2) z3)==0)) (.b (aF (au (Int.tdiv 1099511627776 (List.getD v4 (nL v2) z3))) (List.getD v3 (nL v2) z3)) (.b (!true) (.q z1 (.q (Nat.blt (nL v2) v3.length) (.q z1 (.q (Nat.blt (nL v2) v4.length) (.g (.h1 true z2 z4 v3 v4)))))) (.g (.h1 true v1 z4 v3 v4))) (.b (!v0) (.q z1 (.q (Nat.blt (nL v2) v3.length) (.q z1 (.q (Nat.blt (nL v2) v4.length) (.g (.h1 v0 z2 z4 v3 v4)))))) (.g (.h1 v0 v1 z4 v3 v4))))))))) (.b (aM v0 (aF 1099511627776 v1)) (.k (0,9)) (.k (v1,0)))
def DJ(x0:anY):=mu jX (.e x0)
def OU:=OT.fl 235 [.str] [.int,.bq] jX (fun a=>.e a) (fun | .e x0=>.e [⟨.str,x0⟩] | .h0 v0 v1 v2 v3=>.h 0 ⟨87,[(0,sS v0),(4,.ptr 0 0),(5,sB v1),(6,sI v2)],[(0,.arr .int v3 false)],1⟩ | .h1 v0 v1 v2 v3 v4=>.h 1 ⟨87,[(4,.ptr 0 0),(5,sB v0),(12,.ptr 1 0),(13,sI v1),(14,sI v2)],[(0,.arr .int v3 false),(1,.arr .int v4 false)],2⟩) { live:=[(0,[0,4,5,6]),(1,[4,5,12,13,14])],arr:=[(2,[(4,some .int)]),(18,[(12,some .int)])] } Tryz.func235
def DK:Te (abp) Empty:=.k ⟨[104],[109],[115],[109,115]⟩
def DL:=(DK).o
def OV:=OU.f0 255 [] [.AL] (fun _=>DK) Tryz.func255
inductive Fx where
 | e (x0:Int)
 | h0 (v0:Int) (v1:anY) (v2:Int) (v3:List Int) (v4:List (anY))
def qX:Fx->Te ((anY)) Fx
 | .e x0=>.b (aM (aF x0 0) (aF 1099511627776 x0)) (.k []) (.b (x0==0) (.k [48,115]) (.c vZ fun y1=>.c DL fun y2=>.g (.h0 x0 [] 0 [y1.e0,y1.e1,y1.e2,y1.e3] [y2.e0,y2.e1,y2.e2,y2.e3])))
 | .h0 v0 v1 v2 v3 v4=>.l (dflt .int) fun z4=>.l (au (Int.tdiv v0 (List.getD v3 (nL v2) z4))) fun z3=>.l (bZ 0 v2&&aF v2 4) fun z2=>.l (!((List.getD v3 (nL v2) z4)==0)) fun z1=>.b (aF v2 4) (.q z2 (.q (Nat.blt (nL v2) v3.length) (.q z1 (.b (aF 0 z3) (.q z2 (.q (Nat.blt (nL v2) v3.length) (.q z1 (.c (gq z3) fun y1=>.q (decide (v1.length+y1.length<=aA)) (.q z2 (.q (Nat.blt (nL v2) v4.length) (.q (decide ((v1++y1).length+(List.getD v4 (nL v2) (dflt .str)).length<=aA)) (.q z2 (.q (Nat.blt (nL v2) v3.length) (.q z1 (.g (.h0 (Int.tmod v0 (List.getD v3 (nL v2) z4)) ((v1++y1)++(List.getD v4 (nL v2) (dflt .str))) (au (v2+1)) v3 v4)))))))))))) (.q z2 (.q (Nat.blt (nL v2) v3.length) (.q z1 (.g (.h0 (Int.tmod v0 (List.getD v3 (nL v2) z4)) v1 (au (v2+1)) v3 v4))))))))) (.k v1)
def Fy(x0:Int):=mu qX (.e x0)
def Qd:=OV.fl 236 [.int] [.str] qX (fun a=>.e a) (fun | .e x0=>.e [⟨.int,x0⟩] | .h0 v0 v1 v2 v3 v4=>.h 0 ⟨45,[(0,sI v0),(3,sS v1),(4,.ptr 0 0),(5,.ptr 1 0),(6,sI v2)],[(0,.arr .int v3 false),(1,.arr .str v4 false)],2⟩) { live:=[(0,[0,3,4,5,6])],arr:=[(8,[(4,some .int),(5,some .str)])] } Tryz.func236
def xV(x0:An)(x1:anY)(x2:Int):Te ((anY)×Bool) Empty:=.l (aj x0) fun z1=>.q ((fun n _=>fit n) z1 x1) (.b (!(aB z1 x1)) (.k ([],true)) (.c (bK z1 x1 []) fun y1=>.c (DJ (y1.1)) fun y2=>.c (Fy (y2.1)) fun y3=>.k (y3,aab (aab y1.2 (y2.2==0)) (bZ x2 y2.1))))
def xW(x0:An)(x1:anY)(x2:Int):=(xV x0 x1 x2).o
def Qe:=Qd.f0 195 [.ah,.str,.int] [.str,.bool] (fun a=>xV a.1 a.2.1 a.2.2) Tryz.func195
def uM(x0:An):Te (An×Bool) Empty:=.l (aj x0) fun z5=>.l (ay [116,114,117,101]) fun z4=>.l (oP z5 [114,101,116,114,105,101,115]) fun z3=>.l (xW z5 [105,110,116,101,114,118,97,108] 1) fun z2=>.l (xW z5 [115,116,97,114,116,95,112,101,114,105,111,100] 0) fun z1=>.c (gu z5 [[116,101,115,116],[105,110,116,101,114,118,97,108],[115,116,97,114,116,95,112,101,114,105,111,100],[114,101,116,114,105,101,115],[100,105,115,97,98,108,101]]) fun y1=>.b (!y1) (.k (⟨0,[],[],[]⟩,false)) (.c (gJ z5 [100,105,115,97,98,108,101] [102,97,108,115,101]) fun y2=>.l (y2.1==[116,114,117,101]) fun z6=>.q ((fun n _=>fit n) z5 [116,101,115,116]) (.b (aB z5 [116,101,115,116]) (.c (xU (aj (aG z5 [116,101,115,116]))) fun y3=>.l (ay (y3.1)) fun z7=>.b (y3.2==0) (.k (⟨0,[],[],[]⟩,false)) (.b (y3.2==2) (.c z7 fun y4=>.l (aj (bg ⟨0,[],[],[]⟩ [116,101,115,116] y4)) fun z8=>.q (iA ⟨0,[],[],[]⟩ [116,101,115,116] y4) (.c z2 fun y5=>.c z1 fun y6=>.l (ay (y6.1)) fun z9=>.c z3 fun y7=>.l (aF 0 y7.1) fun AY=>.l (gq (y7.1)) fun tT=>.b (aM (aM (aM (aM (!y2.2) (!y5.2)) (!y6.2)) (!y7.2)) (aF 10 y7.1)) (.k (⟨0,[],[],[]⟩,false)) (.b (([116,114,117,101]:anY)==[116,114,117,101]) (.c z4 fun y8=>.k (⟨3,[],[[100,105,115,97,98,108,101]],[y8]⟩,true)) (.b (!(y5.1==[])) (.c (ay (y5.1)) fun y9=>.l (aj (bg z8 [105,110,116,101,114,118,97,108] y9)) fun z12=>.q (iA z8 [105,110,116,101,114,118,97,108] y9) (.b (!(y6.1==[])) (.c z9 fun iC=>.l (aj (bg z12 [115,116,97,114,116,95,112,101,114,105,111,100] iC)) fun z13=>.q (iA z12 [115,116,97,114,116,95,112,101,114,105,111,100] iC) (.b AY (.c tT fun yw=>.c (ay yw) fun nQ=>.q (iA z13 [114,101,116,114,105,101,115] nQ) (.c (aH (aj (bg z13 [114,101,116,114,105,101,115] nQ)) true) fun y13=>.k (aj (y13.1),y13.2))) (.c (aH z13 true) fun Am=>.k (aj (Am.1),Am.2)))) (.b AY (.c tT fun y15=>.c (ay y15) fun Vi=>.q (iA z12 [114,101,116,114,105,101,115] Vi) (.c (aH (aj (bg z12 [114,101,116,114,105,101,115] Vi)) true) fun Vj=>.k (aj (Vj.1),Vj.2))) (.c (aH z12 true) fun Vk=>.k (aj (Vk.1),Vk.2))))) (.b (!(y6.1==[])) (.c z9 fun y19=>.l (aj (bg z8 [115,116,97,114,116,95,112,101,114,105,111,100] y19)) fun z14=>.q (iA z8 [115,116,97,114,116,95,112,101,114,105,111,100] y19) (.b AY (.c tT fun y20=>.c (ay y20) fun y21=>.q (iA z14 [114,101,116,114,105,101,115] y21) (.c (aH (aj (bg z14 [114,101,116,114,105,101,115] y21)) true) fun y22=>.k (aj (y22.1),y22.2))) (.c (aH z14 true) fun y23=>.k (aj (y23.1),y23.2)))) (.b AY (.c tT fun y24=>.c (ay y24) fun y25=>.q (iA z8 [114,101,116,114,105,101,115] y25) (.c (aH (aj (bg z8 [114,101,116,114,105,101,115] y25)) true) fun y26=>.k (aj (y26.1),y26.2))) (.c (aH z8 true) fun y27=>.k (aj (y27.1),y27.2)))))))) (.c z7 fun y28=>.l (aj (bg ⟨0,[],[],[]⟩ [116,101,115,116] y28)) fun jE=>.q (iA ⟨0,[],[],[]⟩ [116,101,115,116] y28) (.c z2 fun y29=>.c z1 fun Yz=>.l (ay (Yz.1)) fun jM=>.c z3 fun y31=>.l (aF 0 y31.1) fun ku=>.l (gq (y31.1)) fun z17=>.b (aM (aM (aM (aM (!y2.2) (!y29.2)) (!Yz.2)) (!y31.2)) (aF 10 y31.1)) (.k (⟨0,[],[],[]⟩,false)) (.b z6 (.c z4 fun y32=>.k (⟨3,[],[[100,105,115,97,98,108,101]],[y32]⟩,true)) (.b (!(y29.1==[])) (.c (ay (y29.1)) fun y33=>.l (aj (bg jE [105,110,116,101,114,118,97,108] y33)) fun zA=>.q (iA jE [105,110,116,101,114,118,97,108] y33) (.b (!(Yz.1==[])) (.c jM fun y34=>.l (aj (bg zA [115,116,97,114,116,95,112,101,114,105,111,100] y34)) fun z20=>.q (iA zA [115,116,97,114,116,95,112,101,114,105,111,100] y34) (.b ku (.c z17 fun y35=>.c (ay y35) fun y36=>.q (iA z20 [114,101,116,114,105,101,115] y36) (.c (aH (aj (bg z20 [114,101,116,114,105,101,115] y36)) true) fun y37=>.k (aj (y37.1),y37.2))) (.c (aH z20 true) fun y38=>.k (aj (y38.1),y38.2)))) (.b ku (.c z17 fun y39=>.c (ay y39) fun y40=>.q (iA zA [114,101,116,114,105,101,115] y40) (.c (aH (aj (bg zA [114,101,116,114,105,101,115] y40)) true) fun y41=>.k (aj (y41.1),y41.2))) (.c (aH zA true) fun y42=>.k (aj (y42.1),y42.2))))) (.b (!(Yz.1==[])) (.c jM fun y43=>.l (aj (bg jE [115,116,97,114,116,95,112,101,114,105,111,100] y43)) fun z21=>.q (iA jE [115,116,97,114,116,95,112,101,114,105,111,100] y43) (.b ku (.c z17 fun y44=>.c (ay y44) fun y45=>.q (iA z21 [114,101,116,114,105,101,115] y45) (.c (aH (aj (bg z21 [114,101,116,114,105,101,115] y45)) true) fun y46=>.k (aj (y46.1),y46.2))) (.c (aH z21 true) fun y47=>.k (aj (y47.1),y47.2)))) (.b ku (.c z17 fun y48=>.c (ay y48) fun y49=>.q (iA jE [114,101,116,114,105,101,115] y49) (.c (aH (aj (bg jE [114,101,116,114,105,101,115] y49)) true) fun y50=>.k (aj (y50.1),y50.2))) (.c (aH jE true) fun y51=>.k (aj (y51.1),y51.2)))))))))) (.c z2 fun y52=>.c z1 fun y53=>.l (ay (y53.1)) fun z22=>.c z3 fun y54=>.l (aF 0 y54.1) fun z24=>.l (gq (y54.1)) fun z23=>.b (aM (aM (aM (aM (!y2.2) (!y52.2)) (!y53.2)) (!y54.2)) (aF 10 y54.1)) (.k (⟨0,[],[],[]⟩,false)) (.b z6 (.c z4 fun y55=>.k (⟨3,[],[[100,105,115,97,98,108,101]],[y55]⟩,true)) (.b (!(y52.1==[])) (.c (ay (y52.1)) fun y56=>.l (aj (bg ⟨0,[],[],[]⟩ [105,110,116,101,114,118,97,108] y56)) fun z25=>.q (iA ⟨0,[],[],[]⟩ [105,110,116,101,114,118,97,108] y56) (.b (!(y53.1==[])) (.c z22 fun y57=>.l (aj (bg z25 [115,116,97,114,116,95,112,101,114,105,111,100] y57)) fun z26=>.q (iA z25 [115,116,97,114,116,95,112,101,114,105,111,100] y57) (.b z24 (.c z23 fun y58=>.c (ay y58) fun y59=>.q (iA z26 [114,101,116,114,105,101,115] y59) (.c (aH (aj (bg z26 [114,101,116,114,105,101,115] y59)) true) fun y60=>.k (aj (y60.1),y60.2))) (.c (aH z26 true) fun y61=>.k (aj (y61.1),y61.2)))) (.b z24 (.c z23 fun y62=>.c (ay y62) fun y63=>.q (iA z25 [114,101,116,114,105,101,115] y63) (.c (aH (aj (bg z25 [114,101,116,114,105,101,115] y63)) true) fun y64=>.k (aj (y64.1),y64.2))) (.c (aH z25 true) fun y65=>.k (aj (y65.1),y65.2))))) (.b (!(y53.1==[])) (.c z22 fun y66=>.l (aj (bg ⟨0,[],[],[]⟩ [115,116,97,114,116,95,112,101,114,105,111,100] y66)) fun z27=>.q (iA ⟨0,[],[],[]⟩ [115,116,97,114,116,95,112,101,114,105,111,100] y66) (.b z24 (.c z23 fun y67=>.c (ay y67) fun y68=>.q (iA z27 [114,101,116,114,105,101,115] y68) (.c (aH (aj (bg z27 [114,101,116,114,105,101,115] y68)) true) fun y69=>.k (aj (y69.1),y69.2))) (.c (aH z27 true) fun y70=>.k (aj (y70.1),y70.2)))) (.b z24 (.c z23 fun y71=>.c (ay y71) fun y72=>.q (iA ⟨0,[],[],[]⟩ [114,101,116,114,105,101,115] y72) (.c (aH (aj (bg ⟨0,[],[],[]⟩ [114,101,116,114,105,101,115] y72)) true) fun y73=>.k (aj (y73.1),y73.2))) (.c (aH ⟨0,[],[],[]⟩ true) fun y74=>.k (aj (y74.1),y74.2)))))))))
def CK(x0:An):=(uM x0).o
def Nq:=Qe.f0 131 [.ah] [.ah,.bool] (fun a=>uM a) Tryz.func131
def wh(x0:An)(x1:Int):Te (An×Bool) Empty:=.l (aj x0) fun z1=>.b (aF x1 5) (.c (GQ z1 x1) fun y1=>.k (aj (y1.1),y1.2)) (.b (x1==5) (.c (Dv z1) fun y2=>.k (aj (y2.1),y2.2)) (.b (aM (x1==6) (x1==7)) (.c (Dw z1 (x1==6)) fun y3=>.k (aj (y3.1),y3.2)) (.b (x1==8) (.c (yT z1) fun y4=>.k (aj (y4.1),y4.2)) (.b (x1==9) (.c (Dy z1) fun y5=>.k (aj (y5.1),y5.2)) (.b (x1==10) (.c (CJ z1) fun y6=>.k (aj (y6.1),y6.2)) (.b (x1==11) (.c (Fu z1) fun y7=>.k (aj (y7.1),y7.2)) (.b (x1==12) (.c (Bf z1) fun y8=>.k (aj (y8.1),y8.2)) (.c (CK z1) fun y9=>.k (aj (y9.1),y9.2)))))))))
def DN(x0:An)(x1:Int):=(wh x0 x1).o
def OW:=Nq.f0 102 [.ah,.int] [.ah,.bool] (fun a=>wh a.1 a.2) Tryz.func102
inductive uo where
 | e (x0:An)
 | h0 (v0:Int) (v1:An) (v2:Int) (v3:anY) (v4:anY) (v5:Int) (v6:An)
def nY:uo->Te (jD) uo
 | .e x0=>.b (aab (x0.kind != 0) (x0.kind != 3)) (.k ⟨⟨0,[],[],[]⟩,[],10⟩) (.g (.h0 0 x0 0 [] [] 0 ⟨3,[],[],[]⟩))
 | .h0 v0 v1 v2 v3 v4 v5 v6=>.l (aj v6) fun z3=>.l (fU v1.keys v0) fun z2=>.l (uo.h0 (au (v0+1)) v1 v2 v3 v4 v5) fun z1=>.b (aF v0 (aC v1.keys)) (.i v1.keys v0 fun y1=>.c (ug y1) fun y2=>.b y2 (.g (z1 v6)) (.q z2 (.c (Cy y1) fun y4=>.b (aF y4 0) (.q z2 (.k ⟨⟨0,[],[],[]⟩,y1,10⟩)) (.i v1.kids v0 fun y6=>.b (y6.kind==0) (.g (z1 v6)) (.q (fU v1.kids v0) (.c (DN (aj y6) y4) fun y8=>.b (!y8.2) (.q z2 (.k ⟨⟨0,[],[],[]⟩,y1,10⟩)) (.q z2 (.q (iA z3 y1 (aj (y8.1))) (.g (z1 (bg z3 y1 (aj (y8.1))))))))))))) (.q ((wg 10000 13) z3) (.k ⟨aj ((aL 13) z3),[],0⟩))
def Bg(x0:An):=mu nY (.e x0)
def Mq:=(OW.W 47 (kW 13) (Jz 13)).fl 79 [.ah] [.iW] nY (fun a=>.e a) (fun | .e x0=>.e [⟨.ah,x0⟩] | .h0 v0 v1 v2 v3 v4 v5 v6=>.h 0 ⟨81,[(1,.ptr 0 0),(2,.ptr 1 0),(3,.ptr 2 0),(4,sI v0)],[(0,.box [.d (.int .i64 v1.kind),.d (.str v1.text),.d (.slice .str v1.keys),.d (.slice .ah v1.kids)]),(1,.box [sI v2,sS v3,.d (.raw (.slice none 0 0)),.d (.raw (.slice none 0 0)),sS v4,sI v5]),(2,.box [.d (.int .i64 v6.kind),.d (.str v6.text),.d (.slice .str v6.keys),.d (.slice .ah v6.kids)])],3⟩) { live:=[(0,[1,2,3,4])],nk:=[(0,[(3,some 2,false,.str),(3,some 3,false,.ah)])] } Tryz.func79
inductive Ap where
 | e (x0:An)
 | h0 (v0:Int) (v1:An) (v2:Int) (v3:anY) (v4:anY) (v5:Int) (v6:An)
def mY:Ap->Te (jD) Ap
 | .e x0=>.b (x0.kind != 3) (.k ⟨⟨0,[],[],[]⟩,[115,101,114,118,105,99,101,115],10⟩) (.g (.h0 0 x0 0 [] [] 0 ⟨3,[],[],[]⟩))
 | .h0 v0 v1 v2 v3 v4 v5 v6=>.l (aj v6) fun z2=>.l (fU v1.keys v0) fun z1=>.b (aF v0 (aC v1.keys)) (.i v1.keys v0 fun y1=>.l (decide (([115,101,114,118,105,99,101,115,46]:anY).length+y1.length<=aA)) fun z4=>.l (([115,101,114,118,105,99,101,115,46]:anY)++y1) fun z3=>.l (z3++([46]:anY)) fun z5=>.b (!((bP fV) y1)) (.q z1 (.q z4 (.q z1 (.b (y1==[]) (.k ⟨⟨0,[],[],[]⟩,[115,101,114,118,105,99,101,115],10⟩) (.k ⟨⟨0,[],[],[]⟩,z3,10⟩))))) (.i v1.kids v0 fun y4=>.c (Bg (aj y4)) fun y5=>.b (y5.e != 0) (.q z1 (.q z4 (.b (!(y5.path==[])) (.q (decide (z3.length+([46]:anY).length<=aA)) (.q (decide (z5.length+(y5.path).length<=aA)) (.k ⟨⟨0,[],[],[]⟩,(z5++y5.path),y5.e⟩))) (.k ⟨⟨0,[],[],[]⟩,z3,y5.e⟩)))) (.q z1 (.q (iA z2 y1 (aj (y5.n))) (.g (.h0 (au (v0+1)) v1 v2 v3 v4 v5 (bg z2 y1 (aj (y5.n))))))))) (.b (aF 16 (aC v6.keys)) (.k ⟨⟨0,[],[],[]⟩,[115,101,114,118,105,99,101,115],9⟩) (.q ((wg 10000 14) z2) (.k ⟨aj ((aL 14) z2),[],0⟩)))
def Aq(x0:An):=mu mY (.e x0)
def La:=(Mq.W 47 (kW 14) (Jz 14)).fl 44 [.ah] [.iW] mY (fun a=>.e a) (fun | .e x0=>.e [⟨.ah,x0⟩] | .h0 v0 v1 v2 v3 v4 v5 v6=>.h 0 ⟨85,[(1,.ptr 0 0),(2,.ptr 1 0),(3,.ptr 2 0),(4,sI v0)],[(0,.box [.d (.int .i64 v1.kind),.d (.str v1.text),.d (.slice .str v1.keys),.d (.slice .ah v1.kids)]),(1,.box [sI v2,sS v3,.d (.raw (.slice none 0 0)),.d (.raw (.slice none 0 0)),sS v4,sI v5]),(2,.box [.d (.int .i64 v6.kind),.d (.str v6.text),.d (.slice .str v6.keys),.d (.slice .ah v6.kids)])],3⟩) { live:=[(0,[1,2,3,4])],nk:=[(0,[(3,some 2,false,.str),(3,some 3,false,.ah)])] } Tryz.func44
inductive xX where
 | e (x0:An)
 | h0 (v0:Int) (v1:An) (v2:Int) (v3:anY) (v4:anY) (v5:Int) (v6:An)
def qY:xX->Te (jD) xX
 | .e x0=>.b (aab (x0.kind != 0) (x0.kind != 3)) (.k ⟨⟨0,[],[],[]⟩,[],10⟩) (.g (.h0 0 x0 0 [] [] 0 ⟨3,[],[],[]⟩))
 | .h0 v0 v1 v2 v3 v4 v5 v6=>.l (aj v6) fun z2=>.l (aj ((aL 15) z2)) fun z3=>.l (xX.h0 (au (v0+1)) v1 v2 v3 v4 v5) fun z1=>.b (aF v0 (aC v1.keys)) (.i v1.keys v0 fun y1=>.l (y1==[110,97,109,101]) fun z5=>.l (y1==[115,101,114,118,105,99,101,115]) fun z4=>.i v1.kids v0 fun y2=>.l (aj y2) fun z6=>.c (ug y1) fun y3=>.b y3 (.g (z1 v6)) (.b (aab (aab (aab (!z5) (!z4)) (!(y1==[110,101,116,119,111,114,107,115]))) (!(y1==[118,111,108,117,109,101,115]))) (.k ⟨⟨0,[],[],[]⟩,y1,10⟩) (.b (y2.kind==0) (.g (z1 v6)) (.b z4 (.c (Aq z6) fun y4=>.l (aj (y4.n)) fun z7=>.b (y4.e != 0) (.k ⟨z7,y4.path,y4.e⟩) (.q (iA z2 y1 z7) (.g (z1 (bg z2 y1 z7))))) (.b z5 (.b (aM (y2.kind != 1) (!((bP CV) (y2.text)))) (.k ⟨⟨0,[],[],[]⟩,y1,10⟩) (.q (iA z2 y1 z6) (.g (z1 (bg z2 y1 z6))))) (.c (yT z6) fun y5=>.b (!y5.2) (.k ⟨⟨0,[],[],[]⟩,y1,10⟩) (.q (iA z2 y1 (aj (y5.1))) (.g (z1 (bg z2 y1 (aj (y5.1)))))))))))) (.q ((wg 10000 15) z2) (.b (!(lg z3)) (.k ⟨⟨0,[],[],[]⟩,[],9⟩) (.k ⟨z3,[],0⟩)))
def kC(x0:An):=mu qY (.e x0)
def Qf:=(((La.W 45 RQ ama).W 48 ZT asW).W 47 (kW 15) (Jz 15)).fl 20 [.ah] [.iW] qY (fun a=>.e a) (fun | .e x0=>.e [⟨.ah,x0⟩] | .h0 v0 v1 v2 v3 v4 v5 v6=>.h 0 ⟨104,[(1,.ptr 0 0),(2,.ptr 1 0),(3,.ptr 2 0),(4,sI v0)],[(0,.box [.d (.int .i64 v1.kind),.d (.str v1.text),.d (.slice .str v1.keys),.d (.slice .ah v1.kids)]),(1,.box [sI v2,sS v3,.d (.raw (.slice none 0 0)),.d (.raw (.slice none 0 0)),sS v4,sI v5]),(2,.box [.d (.int .i64 v6.kind),.d (.str v6.text),.d (.slice .str v6.keys),.d (.slice .ah v6.kids)])],3⟩) { live:=[(0,[1,2,3,4])],nk:=[(0,[(3,some 2,false,.str),(3,some 3,false,.ah)])] } Tryz.func20
def Km(x0 x1:An):Te (Bool) Empty:=.k (aab (x0.kind==3) (x1.kind==3))
def Tt(x0 x1:An):=(Km x0 x1).o
def agC:=(agy.or Qf).f0 32 [.ah,.ah] [.bool] (fun a=>Km a.1 a.2) Tryz.func32
inductive OX where
 | e (x0:An) (x1:An)
 | h0 (v0:List (anY)) (v1:Int) (v2:Int) (v3:An) (v4:An) (v5:Int) (v6:anY) (v7:Int) (v8:anY) (v9:List (anY)) (v10:List An)
def DR(self:An->An->Option An):OX->Te (An) OX
 | .e x0 x1=>.l (both x0.keys x1.keys) fun z1=>.c (Tt (aj x0) (aj x1)) fun y1=>.b (!y1) (.k (aj x1)) (.q (Tf x0.keys x1.keys) (.g (.h0 z1 (aC z1) 0 x0 x1 0 [] 3 [] [] [])))
 | .h0 v0 v1 v2 v3 v4 v5 v6 v7 v8 v9 v10=>.l (au (v2+1)) fun z3=>.l (aj v4) fun z2=>.l (aj v3) fun z1=>.b (aF v2 v1) (.i v0 v2 fun y1=>.l (aj (aG z2 y1)) fun z7=>.l (aj (aG z1 y1)) fun z6=>.l (OX.h0 v0 v1 z3 v3 v4 v5 v6 v7 v8 (v9++([y1]:List (anY)))) fun z5=>.l (decide ((v9.length+([y1]:List (anY)).length)*16<=av)) fun z4=>.q ((fun n _=>fit n) z1 y1) (.q ((fun n _=>fit n) z2 y1) (.b (!(aB z2 y1)) (.q z4 (.q (decide ((v10.length+([z6]:List An).length)*72<=av)) (.g (z5 (v10++([z6]:List An)))))) (.b (aab (aB z1 y1) (!(y1==[101,120,116,101,110,100,115]))) (.c (self z6 z7) fun y2=>.q z4 (.q (decide ((v10.length+([aj y2]:List An).length)*72<=av)) (.g (z5 (v10++([aj y2]:List An)))))) (.q z4 (.q (decide ((v10.length+([z7]:List An).length)*72<=av)) (.g (z5 (v10++([z7]:List An)))))))))) (.k ⟨v7,v8,v9,v10⟩)
def JA(n:Nat):An->An->Option An:=Nat.rec (motive:=fun _=>An->An->Option An) (fun _ _=>none) (fun _ self x0 x1=>mu (DR self) (.e x0 x1)) n
def DT(x0 x1:An):Option An:=JA qM x0 x1
def amj:=(agC.W 33 adg avC).fr 14 [.ah,.ah] [.ah] (fun n a=>JA n a.1 a.2) (fun S=>DR fun x0 x1=>S (x0,x1)) (fun a=>.e a.1 a.2) (fun | .e x0 x1=>.e [⟨.ah,x0⟩,⟨.ah,x1⟩] | .h0 v0 v1 v2 v3 v4 v5 v6 v7 v8 v9 v10=>.h 0 ⟨67,[(2,.ptr 0 0),(3,.ptr 1 0),(4,.ptr 2 0),(5,.ptr 3 0),(22,sL .str v0),(23,sI v1),(24,sI v2)],[(0,.box [.d (.int .i64 v3.kind),.d (.str v3.text),.d (.slice .str v3.keys),.d (.slice .ah v3.kids)]),(1,.box [.d (.int .i64 v4.kind),.d (.str v4.text),.d (.slice .str v4.keys),.d (.slice .ah v4.kids)]),(2,.box [sI v5,sS v6,.d (.raw (.slice none 0 0)),.d (.raw (.slice none 0 0))]),(3,.box [sI v7,sS v8,.grow .str v9 4,.grow .ah v10 5]),(4,.tail true),(5,.tail true)],6⟩) { live:=[(0,[2,3,4,5,22,23,24])],nk:=[(0,[(5,some 2,true,.str),(5,some 3,true,.ah)])] } Tryz.func14
inductive VA where
 | e (x0:List An)
 | h0 (v0:List An) (v1:Int) (v2:Int) (v3:Int) (v4:anY) (v5:An)
def GX:VA->Te (An×(anY)×Int) VA
 | .e x0=>.g (.h0 x0 (x0.length) 0 0 [] ⟨3,[],[],[]⟩)
 | .h0 v0 v1 v2 v3 v4 v5=>.b (aF v2 v1) (.i v0 v2 fun y1=>.b (v2==0) (.g (.h0 v0 v1 (au (v2+1)) v3 v4 y1)) (.c (DT (aj v5) (aj y1)) fun y2=>.g (.h0 v0 v1 (au (v2+1)) v3 v4 y2))) (.c (kN (aj v5)) fun y3=>.k (aj (y3.1),y3.2.1,y3.2.2))
def VB(x0:List An):=mu GX (.e x0)
def VD:=amj.fl 7 [.dP] [.ah,.str,.bq] GX (fun a=>.e a) (fun | .e x0=>.e [⟨.dP,x0⟩] | .h0 v0 v1 v2 v3 v4 v5=>.h 0 ⟨28,[(2,.ptr 0 0),(5,.ptr 1 0),(9,sL .ah v0),(10,sI v1),(11,sI v2)],[(0,.box [sI v3,sS v4,.d (.raw (.slice none 0 0)),.d (.raw (.slice none 0 0))]),(1,.box [.d (.int .i64 v5.kind),.d (.str v5.text),.d (.slice .str v5.keys),.d (.slice .ah v5.kids)])],2⟩) { live:=[(0,[2,5,9,10,11])],nk:=[(0,[(5,some 2,false,.str),(5,some 3,false,.ah)])] } Tryz.func7
inductive yV where
 | e (x0:An) (x1:An)
 | h0 (v0:List (anY)) (v1:Int) (v2:An) (v3:An) (v4:Int) (v5:anY) (v6:Int) (v7:anY) (v8:List (anY)) (v9:List An)
def nZ(self:An->An->Option An):yV->Te (An) yV
 | .e x0 x1=>.b (aM (x0.kind != 3) (x1.kind != 3)) (.k (aj x1)) (.q (Tf x0.keys x1.keys) (.g (.h0 (both x0.keys x1.keys) 0 x0 x1 0 [] 3 [] [] [])))
 | .h0 v0 v1 v2 v3 v4 v5 v6 v7 v8 v9=>.l (au (v1+1)) fun z4=>.l (fU v0 v1) fun z3=>.l (aj v3) fun z2=>.l (aj v2) fun z1=>.b (aF v1 (aC v0)) (.i v0 v1 fun y1=>.l (aj (aG z2 y1)) fun z8=>.l (aj (aG z1 y1)) fun z7=>.l (yV.h0 v0 z4 v2 v3 v4 v5 v6 v7 (v8++([y1]:List (anY)))) fun z6=>.l (decide ((v8.length+([y1]:List (anY)).length)*16<=av)) fun z5=>.q ((fun n _=>fit n) z1 y1) (.q z3 (.q ((fun n _=>fit n) z2 y1) (.b (!(aB z2 y1)) (.q z3 (.q z5 (.q (decide ((v9.length+([z7]:List An).length)*72<=av)) (.g (z6 (v9++([z7]:List An))))))) (.q ((bZ 0 v1&&aF v1 (aC v0))||!(aB z1 y1)) (.b (aab (aB z1 y1) (!(y1==[101,120,116,101,110,100,115]))) (.c (self z7 z8) fun y4=>.q z3 (.q z5 (.q (decide ((v9.length+([aj y4]:List An).length)*72<=av)) (.g (z6 (v9++([aj y4]:List An))))))) (.q z3 (.q z5 (.q (decide ((v9.length+([z8]:List An).length)*72<=av)) (.g (z6 (v9++([z8]:List An))))))))))))) (.k ⟨v6,v7,v8,v9⟩)
def rW(n:Nat):An->An->Option An:=Nat.rec (motive:=fun _=>An->An->Option An) (fun _ _=>none) (fun _ self x0 x1=>mu (nZ self) (.e x0 x1)) n
def GY(x0 x1:An):Option An:=rW qM x0 x1
def Sq:=(VD.W 49 adE avX).fr 21 [.ah,.ah] [.ah] (fun n a=>rW n a.1 a.2) (fun S=>nZ fun x0 x1=>S (x0,x1)) (fun a=>.e a.1 a.2) (fun | .e x0 x1=>.e [⟨.ah,x0⟩,⟨.ah,x1⟩] | .h0 v0 v1 v2 v3 v4 v5 v6 v7 v8 v9=>.h 0 ⟨83,[(2,.ptr 0 0),(3,.ptr 1 0),(4,.ptr 2 0),(5,sL .str v0),(6,.ptr 3 0),(7,sI v1)],[(0,.box [.d (.int .i64 v2.kind),.d (.str v2.text),.d (.slice .str v2.keys),.d (.slice .ah v2.kids)]),(1,.box [.d (.int .i64 v3.kind),.d (.str v3.text),.d (.slice .str v3.keys),.d (.slice .ah v3.kids)]),(2,.box [sI v4,sS v5,.d (.raw (.slice none 0 0)),.d (.raw (.slice none 0 0))]),(3,.box [sI v6,sS v7,.grow .str v8 4,.grow .ah v9 5]),(4,.tail true),(5,.tail true)],6⟩) { live:=[(0,[2,3,4,5,6,7])],nk:=[(0,[(6,some 2,true,.str),(6,some 3,true,.ah)])] } Tryz.func21
inductive FB where
 | e (x0:List An)
 | h0 (v0:List An) (v1:Int) (v2:Int) (v3:anY) (v4:anY) (v5:Int) (v6:An)
def qZ:FB->Te (jD) FB
 | .e x0=>.b (aC x0==0) (.c (kC ⟨3,[],[],[]⟩) fun y1=>.k ⟨aj (y1.n),y1.path,y1.e⟩) (.i x0 0 fun y2=>.g (.h0 x0 1 0 [] [] 0 y2))
 | .h0 v0 v1 v2 v3 v4 v5 v6=>.b (aF v1 (aC v0)) (.i v0 v1 fun y1=>.c (GY (aj v6) (aj y1)) fun y2=>.g (.h0 v0 (au (v1+1)) v2 v3 v4 v5 y2)) (.c (kC (aj v6)) fun y3=>.k ⟨aj (y3.n),y3.path,y3.e⟩)
def FC(x0:List An):=mu qZ (.e x0)
def Qg:=Sq.fl 8 [.dP] [.iW] qZ (fun a=>.e a) (fun | .e x0=>.e [⟨.dP,x0⟩] | .h0 v0 v1 v2 v3 v4 v5 v6=>.h 0 ⟨27,[(0,sL .ah v0),(2,.ptr 0 0),(3,.ptr 1 0),(4,sI v1)],[(0,.box [sI v2,sS v3,.d (.raw (.slice none 0 0)),.d (.raw (.slice none 0 0)),sS v4,sI v5]),(1,.box [.d (.int .i64 v6.kind),.d (.str v6.text),.d (.slice .str v6.keys),.d (.slice .ah v6.kids)])],2⟩) { live:=[(0,[0,2,3,4])] } Tryz.func8
end Go.Proofs.YtibpdjmikfmmaaaGreatDoor.Rf
