/- Part 5 of a proof: the texts I4 M2 T1 T2 T3 T4 T5 T6 T7 T8 T9 T10 T11 T12 T13 T14 T15 T16 T17 X1 X2 X3 X4 X5, one behind the other. -/
import Derived.Test.YtclnniijooeajaaGreatDoorTw1
import Derived.Test.YtclnniijooeajaaGreatDoorTw4
import Derived.WalkKit
noncomputable section
namespace Go.Proofs.YtclnniijooeajaaGreatDoor.Rf
open Go Go.RowKit Go.Sort Go.Proofs.YtclnniijooeajaaGreatDoor.bA
section
def UZ:jq E:=Ng (E:=E) [.str] [.bool] fun a=>iR a
theorem afJ:bE E 200 UZ:=UK.top (by kernel_rfl)
theorem ayW {f:FuncId} {a t:E.Ty} {ok:E.Den a->Bool} {F:E.Den a->E.Den t} (ex:∃fn,Tryz.prog.funcs[f]? = some fn/\(fn.name == "runtime.NumGoroutine")=false/\fn.body.isNone=false) (h:∀x,ok x=true->EK E f [⟨a,x⟩] [⟨t,F x⟩]):bE E f (EM a t ok F) :=
 ⟨ex,fun args r hr=>by
  unfold EM at hr;split at hr
  ·split at hr
   ·rename_i x hx;injection hr with hr
    injection hr with h1 h2
    subst h2;rw[iD hx];exact h _ h1
   ·cases hr
  ·cases hr⟩
section
noncomputable abbrev Pj:Func:=Tryz.f198
noncomputable def agF:Code:=.seq (.region 9 (i7 9) false) .ret
theorem ayX:Pj.body=some (.seq (.region 0 (i7 0) false) (.seq (.seq (.region 1 (i7 1) false) (.cond (.tmp 11) (.seq (.region 2 (i7 2) false) .ret) .skip)) (.seq (.seq (.region 3 (i7 3) false) (.cond (.tmp 13) (.seq (.region 4 (i7 4) false) .ret) .skip))
  (.seq (.seq (.region 5 (i7 5) false) (.block 0 (.rangeFunc (.tmp 16) #[17] A3 B4))) agF)))):=by kernel_rfl
noncomputable def mT:List (FuncId×Func):=[(228,Tryz.f228),(239,Tryz.f239)]
noncomputable def mO:aI E:=aaC (jX [(200,UZ)]) mT
theorem WR:aL E mO:=ahS (gu (.cons afJ .nil) .nil .nil .nil) mix (.cons (by kernel_rfl) (by kernel_rfl) (by kernel_rfl) (.cons (by kernel_rfl) (by kernel_rfl) (by kernel_rfl) .nil))
def bx0:List (Nat×aS E):=[(0,.box [.d (.bool false)])]
def X5(r:anP):av E:=⟨28,[(2,.ptr 0 0),(16,.fn 241 [] [.ptr 36 0,.ptr 35 0,.ptr 37 0])],[(0,.box [.d (.bool false)]),(35,.box [.d (.str r)]),(36,.box [.d (.str [47])]),(37,.box [.d (.int .i64 0)])],60⟩
def c1(p:Bool)(s:anP):Bool:=bif(!p)then true else((((List.getD s (Int.toNat (0:Int)) 0).toNat:Nat):Int)!=(47:Int))
theorem aFw(s:anP):ng mO (i7 0) 28 [(0,.d (.str s))] (i7 0).toList [] [] 0 (pk [0,2] [0] 10)=some ⟨28,[(0,.d (.str s)),(2,.ptr 0 0)],bx0,10⟩:=by kernel_rfl
theorem aFx(s:anP):ng mO (i7 1) 28 [(0,.d (.str s)),(2,.ptr 0 0)] (i7 1).toList [] bx0 10 (pk [11,0,2] [0] 20)=bif(iR s).isSome then bif((decide ((0:Int)<=0)&&decide ((0:Int)<(s.length:Int))) || !(!(!(gv (iR s)))))then some ⟨28,[(11,.d (.bool (c1 (gv (iR s)) s))),(0,.d (.str s)),(2,.ptr 0 0)],bx0,20⟩else none else none:=by kernel_rfl
theorem aFy(s:anP)(b:Bool):ng mO (i7 3) 28 [(11,.d (.bool b)),(0,.d (.str s)),(2,.ptr 0 0)] (i7 3).toList [] bx0 20 (pk [13,0,2] [0] 30)=some ⟨28,[(13,.d (.bool (s==[47]))),(0,.d (.str s)),(2,.ptr 0 0)],bx0,30⟩:=by kernel_rfl
theorem aFz(s:anP)(b:Bool):ng mO (i7 5) 28 [(13,.d (.bool b)),(0,.d (.str s)),(2,.ptr 0 0)] (i7 5).toList [] bx0 30 (pk [2,16] [0,35,36,37] 60) =
  bif decide ((0:Int)<=1)&&decide ((1:Int)<=(s.length:Int))&&decide ((s.length:Int)<=(s.length:Int))then some (X5 (List.take (Int.toNat (s.length:Int)-Int.toNat 1) (List.drop (Int.toNat 1) s)))else none:=by kernel_rfl
noncomputable def agG(e:dO)(S:av E):Option (List (TV E)):=match e with | .ret=>Ld Pj .ret S | _=>none
theorem e2(s:anP)(b:Bool):evU mO {} 1 (.seq (.region 2 (i7 2) false) .ret) ⟨28,[(11,.d (.bool b)),(0,.d (.str s)),(2,.ptr 0 0)],bx0,20⟩ agG=some [⟨.bool,false⟩]:=by kernel_rfl
theorem e4(s:anP)(b:Bool):evU mO {} 1 (.seq (.region 4 (i7 4) false) .ret) ⟨28,[(13,.d (.bool b)),(0,.d (.str s)),(2,.ptr 0 0)],bx0,30⟩ agG=some [⟨.bool,true⟩]:=by kernel_rfl
theorem e9(r:anP):evU mO {} 1 agF ⟨28,[(2,.ptr 0 0)],lI r,210⟩ (Ld Pj)=some [⟨.bool,true⟩]:=by kernel_rfl
theorem avw{w:World}{ro:Nat->Nat->Prop}(s:anP)(kP:∀k o,ro k o->k<w.heap.size):bN E ⟨w,none,none,[],fun _=>none⟩ ro ⟨28,[(0,.d (.str s))],[],0⟩ { tmps:=#[.string ⟨s.toArray⟩]++Array.replicate (28-1) undef,defers:=[] } w (fun _=>none) ro where
 base:=⟨⟨rfl,rfl,rfl,abH _,fun _ _ _=>rfl⟩,kP,fun k o h=>.inl h,(fun id gh k h=>by cases h),rfl,(fun q h=>by cases h),(fun k o h=>by cases h)⟩
 size:=by simp
 tmps:=fun t x hl=>by
  simp only[bA.look]at hl;cases hb:Nat.beq 0 t with
  | true =>rw[hb]at hl;have:=aax hb;subst this;cases hl;exact⟨.string ⟨s.toArray⟩,by rw[Array.getElem?_append_left (by simp)];rfl,aP.d _ _ (.str s)⟩
  | false=>rw[hb]at hl;cases hl
 objs:=fun id o hl=>by cases hl
 inj:=fun id id' o o' gh bD k hl=>by cases hl
 fresh:=fun _ _=>rfl
 ids:=fun id o hl=>by cases hl
theorem ase{w w':World}{k:Nat}(h:w'.heap[k]? = w.heap[k]?)(o:Nat):w'.cell? ⟨k,o,none⟩=w.cell? ⟨k,o,none⟩:=by unfold World.cell?;rw[h]
def RB(W:World)(aQ:Nat->Nat->Prop)(res:List (TV E))(e:Ending)(w':World):Prop:=∃v,e = .returned v/\Below W.heap.size W w'/\qj E w' (fun k o=>aQ k o\/(W.heap.size<=k/\k<w'.heap.size)) v res
theorem leave0{W:World}{aQ:Nat->Nat->Prop}{res:List (TV E)}{e:dO}{S':av E}{a':Act}{w':World}{ι':Nat->Option Gh}{ro':Nat->Nat->Prop}(nc':aR S'.tmps)(g':bN E ⟨W,none,none,[],fun _=>none⟩ aQ S' a' w' ι' ro')(hk:Ld Pj e S'=some res) :
  bodyPostM Fence.wide 0 Tryz.prog Pj (RB W aQ res) e.toExit a' w':=by
 have q4:=FX nc' g' hk;have hd:a'.defers=[]:=g'.base.defers;cases e with
 | normal=>show LeavesInM _ _ _ _ _ _ a'.defers _ _;rw[hd];exact q4.2
 | ret=>show LeavesInM _ _ _ _ _ _ a'.defers _ _;rw[hd];exact q4.2
 | exit id=>cases hk
 | goto l=>cases hk
theorem leave1{W:World}{D:Nat}{aQ:Nat->Nat->Prop}{res:List (TV E)}{e:dO}{S':av E}{a':Act}{w':World}{ι':Nat->Option Gh}{ro':Nat->Nat->Prop}(hWw:W.heap.size<=D)(nc':aR S'.tmps)
  (g':bN E ⟨W,none,none,[{ target:=.collected D,args:=#[] }],fun k=>if k=D then some (.deferred (some []))else none⟩ aQ S' a' w' ι' ro') (hk:Ld Pj e S'=some res) :
  bodyPostM Fence.wide 0 Tryz.prog Pj (RB W aQ res) e.toExit a' w':=by
 have hdD:=(g'.base.held D (.deferred (some [])) (if_pos rfl)).1;have hdf:a'.defers=[{ target:=.collected D,args:=#[] }]:=g'.base.defers;obtain⟨q1,q2⟩:=g'.amY rfl (l:=D) (o:=.deferred (some [])) (o':=.deferred none) (if_pos rfl) hWw rfl rfl;have q3:bN E ⟨W,none,none,[],fun _=>none⟩ aQ S' { a' with defers:=[] } (w'.putObj D (.deferred none)) ι' ro' :=
  q1.turn rfl (H:=fun _=>none) (dl:=[]) rfl rfl rfl rfl rfl (abH _) (fun _ _=>.inr rfl) (fun _ _ _=>rfl) (fun k o hk=>by cases hk)
 have q4:=FX nc' q3 hk;cases e with
 | normal=>show LeavesInM _ _ _ _ _ _ a'.defers _ _;rw[hdf];exact⟨by simp,.inl ⟨D,_,rfl,run_takeDeferred hdD,q4.2⟩⟩
 | ret=>show LeavesInM _ _ _ _ _ _ a'.defers _ _;rw[hdf];exact⟨by simp,.inl ⟨D,_,rfl,run_takeDeferred hdD,q4.2⟩⟩
 | exit id=>cases hk
 | goto l=>cases hk
def qW(s:anP):Bool:=gv (iR s)&&(s.headD 0==47)&&((s==[47]) || !(sM (s.drop 1)).any jY)
theorem asf(s:anP)(hs:s.length<=1000000)(p:Bool)(hp:iR s=some p)(h0:p=true->0<s.length):EK E 198 [⟨.str,s⟩] [⟨.bool,qW s⟩]:=by
 intro W aQ vals hargs kP
 match vals,hargs with
 | [u],⟨h1,_⟩ =>
 have eu:u = .string ⟨s.toArray⟩:=by
  rcases h1 with⟨ha,_⟩ | ⟨_,d,hd,hr⟩
  ·cases ha
  ·have hd:([.str s]:List (bP E.Den))=[d]:=hd;injection hd with hd _
   subst hd;cases hr;rfl
 subst eu;refine(callsIn_wide (n:=0)).1 (callsIn_of_wp_marks (show Tryz.prog.funcs[198]? = some Pj by kernel_rfl) ayX trivial ?_);have hnt:Pj.ntmps=28:=by kernel_rfl
 rw[hnt,show([Value.string ⟨s.toArray⟩].toArray:Array Value) = #[.string ⟨s.toArray⟩]from rfl,show(#[Value.string ⟨s.toArray⟩]:Array Value).size=1 from rfl];show Code.wpIn (Wd none) 0 Tryz.prog _ (bodyPostM Fence.wide 0 Tryz.prog Pj (RB W aQ [⟨.bool,qW s⟩])) _ W;refine wpIn_seq ?_;refine yP WR rfl (fun p hp=>by simp at hp;subst hp;rfl) (avw s kP) (by kernel_rfl) _ _ _ _ (aFw s) fun a0 w0 ι0 r0 nc0 g0 k0=>?_
 refine wpIn_seq (wpIn_seq ?_);have hg1:gv (iR s)=p:=by rw[hp];rfl
 have h1:=aFx s;rw[hg1,show(iR s).isSome=true by rw[hp];rfl,cond_true,show((decide ((0:Int)<=0)&&decide ((0:Int)<(s.length:Int))) || !(!(!p)))=true by
  cases p with
  | false=>simp
  | true=>simp[h0 rfl],cond_true]at h1
 refine yP WR rfl nc0 g0 (by kernel_rfl) _ _ _ _ h1 fun a1 w1 ι1 r1 nc1 g1 k1=>?_
 have hb1:=KU g1 (t:=11) (b:=c1 p s) rfl;have hc1:c1 p s = !(p&&(s.headD 0==47)):=by
  unfold c1;cases p with
  | false=>rfl
  | true =>
   have hl:=h0 rfl
   match s,hl with
   | c::r,_ =>
    show(((c.toNat:Nat):Int)!=47) = !(true&&(c==47));rw[aeP,Bool.eq_iff_iff];simp only[bne_iff_ne,ne_eq,ajv,afb];constructor
    ·intro h e;exact h (by rw[e];rfl)
    ·intro h e;have e:c.toNat=47:=by omega
     exact h (UInt8.toNat_inj.1 (by rw[e];rfl))
 have aBf:∀(c:Code) (S:av E) (a:Act) (w:World) (ι:Nat->Option Gh) (ro:Nat->Nat->Prop) (Q:Exit->Act->World->Prop),aR S.tmps->bN E ⟨W,none,none,[],fun _=>none⟩ aQ S a w ι ro->evU mO {} 1 c S agG=some [⟨.bool,qW s⟩] ->
   (∀a' w',bodyPostM Fence.wide 0 Tryz.prog Pj (RB W aQ [⟨.bool,qW s⟩]) .ret a' w'->Q .ret a' w')->Code.wpIn (Wd none) 0 Tryz.prog c Q a w:=by
  intro c S a w ι ro Q nc g he hq;show Code.wpIn Fence.wide 0 Tryz.prog c _ a w;refine wpIn_wide.2 ?_;exact Ul (rr:=[⟨.bool,qW s⟩]) (n:=S.n) WR mix (h:={}) (m:=1) c S agG _ a w ι ro nc g rfl he fun e S' a' w' ι' ro' nc' g' hn' hk=>by
   cases e with
   | ret=>exact hq _ _ (leave0 (e:=.ret) nc' g' hk)
   | normal=>cases hk
   | exit id=>cases hk
   | goto l=>cases hk
 cases hcc:c1 p s with
 | true =>
  rw[hcc]at hb1;have hv:qW s=false:=by rw[hcc]at hc1;unfold qW;rw[hg1,show(p&&(s.headD 0==47))=false by cases hx:(p&&(s.headD 0==47))with | false=>rfl | true=>(rw[hx]at hc1;cases hc1)];rfl
  refine wpIn_cond_true hb1 ?_;exact aBf _ _ a1 w1 ι1 r1 _ nc1 g1 (by rw[hv];exact e2 s _) fun _ _ h=>h
 | false =>
 rw[hcc]at hb1;have hv:qW s=((s==[47]) || !(sM (s.drop 1)).any jY):=by rw[hcc]at hc1;unfold qW;rw[hg1,show(p&&(s.headD 0==47))=true by cases hx:(p&&(s.headD 0==47))with | true=>rfl | false=>(rw[hx]at hc1;cases hc1),aeP]
 have hlen:0<s.length:=by
  refine h0 ?_;rw[hcc]at hc1;cases p with
  | true=>rfl
  | false=>cases hc1
 refine wpIn_cond_false hb1 (wpIn_skip ?_);refine wpIn_seq (wpIn_seq ?_);refine yP WR rfl nc1 g1 (by kernel_rfl) _ _ _ _ (aFy s _) fun a3 w3 ι3 r3 nc3 g3 k3=>?_
 have hb3:=KU g3 (t:=13) (b:=s==[47]) rfl;cases hc3:s==[47]with
 | true =>rw[hc3]at hb3;refine wpIn_cond_true hb3 ?_;exact aBf _ _ a3 w3 ι3 r3 _ nc3 g3 (by rw[hv,hc3];exact e4 s _) fun _ _ h=>h
 | false =>
 rw[hc3]at hb3;rw[hc3,ajB]at hv;refine wpIn_cond_false hb3 (wpIn_skip ?_);refine wpIn_seq (wpIn_seq ?_);have h5:=aFz s (s==[47]);rw[dT (show(0:Int)<=1 by omega),dT (show(1:Int)<=(s.length:Int) by omega),dT (show(s.length:Int)<=(s.length:Int) by omega)]at h5;simp only[abW,cond_true,aam]at h5;rw[show List.take (s.length-Int.toNat 1) (List.drop (Int.toNat 1) s)=s.drop 1 from aeM (by rw[abP];exact abH _)]at h5;refine yP WR rfl nc3 g3 (by kernel_rfl) _ _ _ _ h5 fun a w ι ro nc g k5=>?_
 obtain⟨v6,h6,r6⟩:=g.tmps 2 (.ptr 0 0) rfl;obtain⟨v10,h10,r10⟩:=g.tmps 16 (.fn 241 [] [.ptr 36 0,.ptr 35 0,.ptr 37 0]) rfl;have r6:aP E w ro ι v6 (.ptr 0 0):=r6;have r10:aP E w ro ι v10 (.fn 241 [] [.ptr 36 0,.ptr 35 0,.ptr 37 0]):=r10;cases r6 with
 | ptr yK g6 _ _ hi0 hv0 =>
 cases r10 with
 | fn _ vs us _ _ hvs Xy _ hur =>
 have aFA:vs = #[]:=aiJ hvs;subst aFA;obtain⟨us⟩:=us
 match us,Xy,hur with
 | [x,q,r],_,hur =>
 have rp:aP E w ro ι x (.ptr 36 0):=hur 0 x _ rfl rfl;have rq:aP E w ro ι q (.ptr 35 0):=hur 1 q _ rfl rfl;have rr:aP E w ro ι r (.ptr 37 0):=hur 2 r _ rfl rfl;cases rp with
 | ptr gh2 b2 _ _ hi2 hv2 =>
 cases rq with
 | ptr gh1 b1 _ _ hi1 hv1 =>
 cases rr with
 | ptr gh3 b3 _ _ hi3 hv3 =>
 obtain⟨_,g4'⟩:=Na (w0:=⟨W,none,none,[],fun _=>none⟩) (S:=X5 (s.drop 1)) [0,35,36,37] (by decide) [] (fun t y h=>by cases h) (fun q h=>by cases h) nc g;generalize hι:(fun j:Nat=>((([0,35,36,37]:List Nat)[j]?).bind ι:Option Gh))=ι4 at g4';have g4:bN E ⟨W,none,none,[],fun _=>none⟩ aQ ⟨28,[],lI (s.drop 1),5⟩ a w ι4 ro:=g4'.frame g4'.base.defers g4'.size g4'.tmps (by show 4<=5;omega);have hcap:aBe ι4 #[.pointer (some ⟨b2,0,none⟩),.pointer (some ⟨b1,0,none⟩),.pointer (some ⟨b3,0,none⟩)]:=by subst hι;exact⟨gh1,gh2,gh3,b1,b2,b3,rfl,⟨hi1,hv1⟩,⟨hi2,hv2⟩,⟨hi3,hv3⟩⟩
 have aFB:ι4 0=some yK:=by subst hι;exact hi0
 have hda:a.defers=[]:=g4.base.defers;have hsz:a.tmps.size=28:=g4.size;have hWw:W.heap.size<=w.heap.size:=g4.base.below.size;refine wpIn_block ?_;refine wpIn_rangeFunc fun fn hfn=>?_
 let Lv:Loop:=rc fn a.tmps w.heap.size .ready none;let W1:World:=(w.alloc (.deferred (some []))).alloc (.loop Lv);have hfr:∀k,k<w.heap.size->W1.heap[k]? = w.heap[k]? := fun k hk =>(Below.heap_alloc (w.alloc (.deferred (some []))) (.loop Lv) k (by rw[World.size_alloc];omega)).trans (Below.heap_alloc w (.deferred (some [])) k hk)
 have hD:W1.heap[w.heap.size]? = some (.deferred (some [])):=(Below.heap_alloc (w.alloc (.deferred (some []))) (.loop Lv) _ (by rw[World.size_alloc];omega)).trans (World.alloc_heap_new w _);have hL:W1.heap[w.heap.size+1]? = some (.loop Lv):=by have:=World.alloc_heap_new (w.alloc (.deferred (some []))) (.loop Lv);rwa[World.size_alloc]at this
 have hgW:bN E (Cb W (w.heap.size+1) w.heap.size (.loop Lv)) aQ ⟨28,[],lI (s.drop 1),5⟩ a W1 ι4 ro:=by
  refine g4.turn rfl (H:=hd (w.heap.size+1) w.heap.size (.loop Lv)) (dl:=[]) hda rfl rfl rfl rfl (by show w.heap.size<=((w.alloc (.deferred (some []))).alloc (.loop Lv)).heap.size;rw[World.size_alloc,World.size_alloc];omega) (fun k hk=>.inr (hfr k hk)) (fun k o hk=>ase (hfr k hk) o) (fun k o hk=>?_);have hgh:∀id gh,ι4 id=some gh->∀k,w.heap.size<=k->gh.blk≠some k:=fun id gh h1 k h2 h3=>by have:=(g4.base.uE id gh k h1 h3).2;omega
  unfold hd at hk;split at hk
  ·rename_i e;subst e;cases hk;exact⟨hL,fun id gh h1=>hgh id gh h1 _ (by omega)⟩
  ·split at hk
   ·rename_i e;subst e;cases hk;exact⟨hD,fun id gh h1=>hgh id gh h1 _ (by omega)⟩
   ·cases hk
 have hev:a.eval (.tmp 16) = .func (.func 241) #[] #[.pointer (some ⟨b2,0,none⟩),.pointer (some ⟨b1,0,none⟩),.pointer (some ⟨b3,0,none⟩)]:=by simp[Act.eval,h10]
 refine⟨w.heap.size+1,[{ target:=.collected w.heap.size,args:=#[] }],W1, { target:=.fn (.func 241) #[.pointer (some ⟨b2,0,none⟩),.pointer (some ⟨b1,0,none⟩),.pointer (some ⟨b3,0,none⟩)],args:=#[.func (.yield (w.heap.size+1)) #[] #[]] },W1,241,
  #[.func (.yield (w.heap.size+1)) #[] #[]] ++ #[.pointer (some ⟨b2,0,none⟩),.pointer (some ⟨b1,0,none⟩),.pointer (some ⟨b3,0,none⟩)],W1,run_enterLoop_outer fn a.tmps #[17] A3 B4,?_,fun _ _=>trivial,?_,fun h=>(by cases h),?_⟩
 ·simp only[resolve,hev];simp[go_sem]
 ·have h1:Tryz.prog.funcs[241]? = some Tryz.f241:=by kernel_rfl
  have h2:((Tryz.f241).name == "runtime.NumGoroutine")=false:=by kernel_rfl
  have h3:(Tryz.f241).body.isNone=false:=by kernel_rfl
  have hn:¬ (Tryz.f241).name = "runtime.NumGoroutine" := by intro e;rw[e]at h2;simp at h2
  have hb:¬ (Tryz.f241).body=none:=by intro e;rw[e]at h3;simp at h3
  simp only[invoke,callFunc];simp[h1,hn,hb,program,Sem.run]
 ·refine aa2.2 ((ayV (by omega) hsz h6 hv0 (by rw[abP];omega) aFB hcap hgW).mono fun e w5 he=>?_);obtain⟨⟨v,rfl⟩,ι5,ro5,rest,hi5,g5⟩:=he;have hbs:(Ph fn a.tmps w.heap.size ((sM (s.drop 1)).any jY)) = .loop { Lv with state:=bif(sM (s.drop 1)).any jY then .done else .ready,pending:=bif(sM (s.drop 1)).any jY then some .ret else none }:=rfl;rw[hbs]at g5;refine⟨bif(sM (s.drop 1)).any jY then some .ret else none,_,run_endLoop (aa5 g5) (by cases(sM (s.drop 1)).any jY<;>simp),?_⟩;obtain⟨g6',_⟩:=aa4 (o':=.loop { Lv with state:=.exhausted,pending:=bif(sM (s.drop 1)).any jY then some .ret else none }) g5 (by omega) rfl rfl;have g7:=g6'.frame (a':=a) (m:=28) (nx:=210) (tm:=[(2,.ptr 0 0)]) hda hsz (fun t y hl=>by
   simp only[bA.look]at hl;cases hb:Nat.beq 2 t with
   | true =>rw[hb]at hl;have:=aax hb;subst this;cases hl;exact⟨_,h6,aP.ptr yK g6 0 0 hi5 hv0⟩
   | false=>rw[hb]at hl;cases hl) (abH _)
  have g8:bN E ⟨W,none,none,[{ target:=.collected w.heap.size,args:=#[] }],fun k=>if k=w.heap.size then some (.deferred (some []))else none⟩ aQ ⟨28,[(2,.ptr 0 0)],lI rest,210⟩ { a with defers:=[{ target:=.collected w.heap.size,args:=#[] }]++a.defers } (w5.putObj (w.heap.size+1) (.loop { Lv with state:=.exhausted,pending:=bif(sM (s.drop 1)).any jY then some .ret else none })) ι5 ro5:=by
   refine g7.turn rfl (H:=fun k=>if k=w.heap.size then some (.deferred (some []))else none) (dl:=[{ target:=.collected w.heap.size,args:=#[] }]) (by show[_]++a.defers=_;rw[hda];rfl) rfl rfl rfl rfl (abH _) (fun _ _=>.inr rfl) (fun _ _ _=>rfl) (fun k o hk=>?_);split at hk
   ·rename_i e;subst e;cases hk;exact g7.base.held _ _ (by show hd _ _ _ _=_;unfold hd;rw[if_neg (by omega),if_pos rfl])
   ·cases hk
  cases hany:(sM (s.drop 1)).any jY with
  | false =>rw[hany]at g8 hv;show Code.wpIn Fence.wide 0 Tryz.prog agF _ _ _;refine wpIn_wide.2 ?_;exact Ul (rr:=[⟨.bool,qW s⟩]) (n:=28) WR mix (h:={}) (m:=1) agF _ (Ld Pj) _ _ _ ι5 ro5 (fun p hp=>by simp at hp;subst hp;rfl) g8 rfl (by rw[hv];exact e9 rest) fun e S' a' w' ι' ro' nc' g' hn' hk=>leave1 hWw nc' g' hk
  | true =>rw[hany]at g8 hv;refine wpIn_ret ?_;exact leave1 (e:=.ret) hWw (fun p hp=>by simp at hp;subst hp;rfl) g8 (by rw[hv];kernel_rfl)
def okT(s:anP):Bool:=decide (s.length<=1000000)&&((iR s).isSome&&(!(gv (iR s))||decide (0<s.length)))
noncomputable def aeH:jq E:=EM (E:=E) .str .bool okT qW
def apK:FuncId:=198
theorem apL:bE E apK aeH:=ayW ⟨Pj,by kernel_rfl,by kernel_rfl,by kernel_rfl⟩ fun s hk=>by
 simp only[okT,abG,amy,ajv,abK]at hk;obtain⟨h1,h2,h3⟩:=hk;obtain⟨p,hp⟩:=Option.isSome_iff_exists.1 h2;refine asf s h1 p hp fun e=>?_
 rw[hp]at h3;rcases h3 with h | h
 ·subst e;cases h
 ·exact h
end
end
section
def D6(x0:fZ):Te (Bool) Empty:=.l (H6 x0.source) fun z5=>.l (tH x0.source 0) fun z4=>.l (qW x0.target) fun z3=>.l (iR x0.source) fun z2=>.l (aN (x0.source==[]) (gv z5)) fun z1=>.l ((z3&&(!z1))&&gv z2) fun z6=>.q (okT x0.target) (.q ((z5.isSome) || !(z3&&(!(x0.source==[])))) (.q ((z2.isSome) || !(z3&&(!z1))) (.q (fV x0.source 0 || !z6) (.q (fV x0.source 0 || !(z6&&(!(z4==47)))) (.k (aab z3 (aN z1 (aab (gv z2) (aN (z4==47) (z4==46))))))))))
def gB(x0:fZ):=(D6 x0).o
def afK:=(acW.W 198 aeH apL).f0 155 [.jk] [.bool] (fun a=>D6 a) Tryz.func155
def Gj(x0:Node):Te (fZ×Bool) Empty:=.c (aW ⟨aj x0,aC x0.keys,(x0.kind != 3)⟩ [115,111,117,114,99,101] []) fun y1=>.c (aW ⟨aj ((y1.1).n),(y1.1).left,(y1.1).bad⟩ [116,97,114,103,101,116] []) fun y2=>.c (fq ⟨aj ((y2.1).n),(y2.1).left,(y2.1).bad⟩ [114,101,97,100,95,111,110,108,121] false) fun y3=>.l (gB ⟨y1.2,y2.2,y3.2⟩) fun z1=>.c (aW ⟨aj ((y3.1).n),(y3.1).left,(y3.1).bad⟩ [116,121,112,101] [98,105,110,100]) fun y4=>.l (aab (!(y4.1).bad) ((y4.1).left==0)) fun z2=>.q ((z1.isSome) || !z2) (.k (⟨y1.2,y2.2,y3.2⟩,aab (aab z2 (gv z1)) (aN (aN (y4.2==[98,105,110,100]) (y4.2==[118,111,108,117,109,101])) (y4.2==[116,109,112,102,115]))))
def Gl(x0:Node):=(Gj x0).o
def aiK:=afK.f0 98 [.ah] [.jk,.bool] (fun a=>Gj a) Tryz.func98
def D7(x0:anP):Te (fZ×Int) Empty:=.l (dflt .str) fun z2=>.l (eT x0 [58] 0 (-1)) fun z1=>.l (aF 1 (aC z1)) fun z4=>.l (au (aC z1-1)) fun z3=>.l (Am z1 z3 z2==[114,111]) fun z6=>.l (cut z1 0 z3) fun z5=>.q (Rc x0 [58] 0 (-1)) (.q (fV z1 z3 || !z4) (.q (fV z1 z3 || !(z4&&(!z6))) (.b (aab z4 (aN z6 (Am z1 z3 z2==[114,119]))) (.i z1 z3 fun y1=>.l (y1==[114,111]) fun z7=>.q (bM z1 0 z3) (.b (aC z5==1) (.i z5 0 fun y2=>.c (gB ⟨[],y2,z7⟩) fun y3=>.b (!y3) (.k (⟨[],[],false⟩,3)) (.k (⟨[],y2,z7⟩,0))) (.b (aC z5==2) (.i z5 0 fun y4=>.i z5 1 fun y5=>.b (y4==[]) (.k (⟨[],[],false⟩,3)) (.c (gB ⟨y4,y5,z7⟩) fun y6=>.b (!y6) (.k (⟨[],[],false⟩,3)) (.k (⟨y4,y5,z7⟩,0)))) (.c (gB ⟨[],[],z7⟩) fun y7=>.b (!y7) (.k (⟨[],[],false⟩,3)) (.k (⟨[],[],z7⟩,0)))))) (.b (aC z1==1) (.i z1 0 fun y8=>.c (gB ⟨[],y8,false⟩) fun y9=>.b (!y9) (.k (⟨[],[],false⟩,3)) (.k (⟨[],y8,false⟩,0))) (.b (aC z1==2) (.i z1 0 fun iq=>.i z1 1 fun xK=>.b (iq==[]) (.k (⟨[],[],false⟩,3)) (.c (gB ⟨iq,xK,false⟩) fun nG=>.b (!nG) (.k (⟨[],[],false⟩,3)) (.k (⟨iq,xK,false⟩,0)))) (.c (gB ⟨[],[],false⟩) fun y13=>.b (!y13) (.k (⟨[],[],false⟩,3)) (.k (⟨[],[],false⟩,0))))))))
def yQ(x0:anP):=(D7 x0).o
def afL:=aiK.f0 99 [.str] [.jk,.aY] (fun a=>D7 a) Tryz.func99 { frz:=[3] }
def Gm(x0:fZ):Te ((anP)) Empty:=.l (x0.source++([58]:anP)) fun z1=>.l (z1++x0.target) fun z2=>.c (gB x0) fun y1=>.b (!y1) (.k []) (.b (!(x0.source==[])) (.q (decide (x0.source.length+([58]:anP).length<=aA)) (.q (decide (z1.length+x0.target.length<=aA)) (.b x0.readOnly (.q (decide (z2.length+([58,114,111]:anP).length<=aA)) (.k (z2++([58,114,111]:anP)))) (.k z2)))) (.b x0.readOnly (.q (decide (x0.target.length+([58,114,111]:anP).length<=aA)) (.k (x0.target++([58,114,111]:anP)))) (.k x0.target)))
def wN(x0:fZ):=(Gm x0).o
def aiL:=afL.f0 100 [.jk] [.str] (fun a=>Gm a) Tryz.func100
inductive SA where
 | e (x0:Node)
 | h0 (v0:List Node) (v1:Int) (v2:Int) (v3:Int) (v4:anP) (v5:form)
 | h1 (v0:List (anP)) (v1:Int) (v2:Int) (v3:Node) (v4:Int) (v5:anP) (v6:form)
def nZ:SA->Te (Node×Int) SA
 | .e x0=>.c (jR (aj x0) 2) fun y1=>.b y1 (.g (.h0 x0.kids (aC x0.kids) 0 0 [] ⟨⟨0,[],[],[]⟩,false⟩)) (.c (jR (aj x0) 3) fun y2=>.b y2 (.g (.h1 x0.keys (aC x0.keys) 0 x0 0 [] ⟨⟨0,[],[],[]⟩,false⟩)) (.c eD fun y3=>.k (aj (y3.1),y3.2)))
 | .h0 v0 v1 v2 v3 v4 v5=>.l (aj v5.n) fun z2=>.l (Am v0 v2 (dflt .ah)) fun z1=>.b (aF v2 v1) (.q (fV v0 v2) (.c (Gl (aj z1)) fun y2=>.b (z1.kind==1) (.c (yQ (z1.text)) fun y3=>.c (bY ⟨z2,v5.bad⟩ (!(y3.2==0))) fun y4=>.c (wN (y3.1)) fun y5=>.c (cB ⟨aj ((y4.1).n),(y4.1).bad⟩ ((y3.1).target) (dz y5)) fun y6=>.g (.h0 v0 v1 (au (v2+1)) v3 v4 ⟨aj ((y6.1).n),(y6.1).bad⟩)) (.c (bY ⟨z2,v5.bad⟩ (!y2.2)) fun y7=>.c (wN (y2.1)) fun y8=>.c (cB ⟨aj ((y7.1).n),(y7.1).bad⟩ ((y2.1).target) (dz y8)) fun y9=>.g (.h0 v0 v1 (au (v2+1)) v3 v4 ⟨aj ((y9.1).n),(y9.1).bad⟩)))) (.c (dD ⟨z2,v5.bad⟩) fun iq=>.k (aj (iq.2.1),iq.2.2))
 | .h1 v0 v1 v2 v3 v4 v5 v6=>.b (aF v2 v1) (.i v0 v2 fun y1=>.i v3.kids v2 fun y2=>.c (yQ (y2.text)) fun y3=>.l (wN (y3.1)) fun z2=>.l (aN (aN (y2.kind != 1) (y3.2 != 0)) (!((y3.1).target==y1))) fun z1=>.q ((z2.isSome) || !(!z1)) (.c (bY ⟨aj v6.n,v6.bad⟩ (aN z1 (!(gv z2==y2.text)))) fun y4=>.c (cB ⟨aj ((y4.1).n),(y4.1).bad⟩ y1 (aj y2)) fun y5=>.g (.h1 v0 v1 (au (v2+1)) v3 v4 v5 ⟨aj ((y5.1).n),(y5.1).bad⟩))) (.c (dD ⟨aj v6.n,v6.bad⟩) fun y6=>.k (aj (y6.2.1),y6.2.2))
def uq(x0:Node):=mu nZ (.e x0)
def afM:=aiL.fl 46 [.ah] [.ah,.aY] nZ (fun a=>.e a) (fun | .e x0=>.e [⟨.ah,x0⟩] | .h0 v0 v1 v2 v3 v4 v5=>.h 0 ⟨104,[(2,.ptr 0 0),(4,.ptr 1 0),(22,.d (.slice .ah v0)),(23,.d (.int .i64 v1)),(24,.d (.int .i64 v2))],[(0,.box [.d (.int .i64 v3),.d (.str v4),.d (.raw (.slice none 0 0)),.d (.raw (.slice none 0 0))]),(1,.box [.d (.int .i64 v5.n.kind),.d (.str v5.n.text),.d (.slice .str v5.n.keys),.d (.slice .ah v5.n.kids),.d (.bool v5.bad)])],2⟩ | .h1 v0 v1 v2 v3 v4 v5 v6=>.h 1 ⟨104,[(1,.ptr 0 0),(2,.ptr 1 0),(4,.ptr 2 0),(58,.d (.slice .str v0)),(59,.d (.int .i64 v1)),(60,.d (.int .i64 v2))],[(0,.box [.d (.int .i64 v3.kind),.d (.str v3.text),.d (.slice .str v3.keys),.d (.slice .ah v3.kids)]),(1,.box [.d (.int .i64 v4),.d (.str v5),.d (.raw (.slice none 0 0)),.d (.raw (.slice none 0 0))]),(2,.box [.d (.int .i64 v6.n.kind),.d (.str v6.n.text),.d (.slice .str v6.n.keys),.d (.slice .ah v6.n.kids),.d (.bool v6.bad)])],3⟩) { live:=[(0,[2,4,22,23,24]),(1,[1,2,4,58,59,60])],oO:=[(0,[(4,some 2,false,.str),(4,some 3,false,.ah)]),(1,[(4,some 2,false,.str),(4,some 3,false,.ah)])] } Tryz.func46
inductive jO where
 | e (x0:Node)
 | h0 (v0:List (anP)) (v1:Int) (v2:Int) (v3:Node) (v4:Int) (v5:anP) (v6:Node)
def fC:jO->Te (Node×(anP)×Int) jO
 | .e x0=>.b (x0.kind==0) (.k (⟨3,[],[],[]⟩,[],0)) (.b (x0.kind != 3) (.k (⟨0,[],[],[]⟩,[],10)) (.g (.h0 x0.keys (aC x0.keys) 0 x0 0 [] ⟨3,[],[],[]⟩)))
 | .h0 v0 v1 v2 v3 v4 v5 v6=>.l (aj v6) fun z2=>.l (jO.h0 v0 v1 (au (v2+1)) v3 v4 v5) fun z1=>.b (aF v2 v1) (.i v0 v2 fun y1=>.l (y1==[112,111,114,116,115]) fun z14=>.l (y1==[118,111,108,117,109,101,115]) fun z13=>.l (y1==[112,114,111,102,105,108,101,115]) fun z12=>.l (y1==[99,112,117,115]) fun Av=>.l (y1==[115,99,97,108,101]) fun sI=>.l (y1==[114,101,115,116,97,114,116]) fun z9=>.l (y1==[101,120,116,101,110,100,115]) fun z8=>.l (y1==[110,101,116,119,111,114,107,115]) fun z7=>.l (y1==[109,101,109,95,108,105,109,105,116]) fun z6=>.l (y1==[100,101,112,101,110,100,115,95,111,110]) fun z5=>.l (y1==[104,101,97,108,116,104,99,104,101,99,107]) fun z4=>.l (y1==[101,110,118,105,114,111,110,109,101,110,116]) fun z3=>.i v3.kids v2 fun y2=>.l (aj y2) fun yR=>.l (uq yR) fun z29=>.l (wF yR z3) fun z28=>.l (nH yR) fun z27=>.l (zu yR) fun z26=>.l (zm yR) fun z25=>.l (wM yR) fun z24=>.l (wJ yR) fun z23=>.l (uj yR) fun z22=>.l (rY yR) fun z21=>.l (rX yR) fun z20=>.l (y2.kind != 0) fun ko=>.l (y2.kind==0) fun z17=>.l (fU z2 y1 yR) fun jJ=>.l (z1 (bf z2 y1 yR)) fun jD=>.c (sG y1) fun y3=>.b y3 (.g (z1 v6)) (.b (y1==[105,109,97,103,101]) (.b z17 (.b ko (.q jJ (.g jD)) (.g (z1 v6))) (.c (zi yR) fun y4=>.b (y4.2 != 0) (.k (⟨0,[],[],[]⟩,y1,y4.2)) (.b ((y4.1).kind != 0) (.q (fU z2 y1 (aj (y4.1))) (.g (z1 (bf z2 y1 (aj (y4.1)))))) (.g (z1 v6))))) (.b (y1==[99,111,109,109,97,110,100]) (.b z17 (.b ko (.q jJ (.g jD)) (.g (z1 v6))) (.c (wE yR) fun y5=>.b (y5.2 != 0) (.k (⟨0,[],[],[]⟩,y1,y5.2)) (.b ((y5.1).kind != 0) (.q (fU z2 y1 (aj (y5.1))) (.g (z1 (bf z2 y1 (aj (y5.1)))))) (.g (z1 v6))))) (.b z3 (.b z3 (.b z17 (.b ko (.q jJ (.g jD)) (.g (z1 v6))) (.c z28 fun y6=>.b (y6.2 != 0) (.k (⟨0,[],[],[]⟩,y1,y6.2)) (.b ((y6.1).kind != 0) (.q (fU z2 y1 (aj (y6.1))) (.g (z1 (bf z2 y1 (aj (y6.1)))))) (.g (z1 v6))))) (.b z14 (.b z17 (.b ko (.q jJ (.g jD)) (.g (z1 v6))) (.c (sJ yR) fun y7=>.b (y7.2 != 0) (.k (⟨0,[],[],[]⟩,y1,y7.2)) (.b ((y7.1).kind != 0) (.q (fU z2 y1 (aj (y7.1))) (.g (z1 (bf z2 y1 (aj (y7.1)))))) (.g (z1 v6))))) (.b z13 (.b z17 (.b ko (.q jJ (.g jD)) (.g (z1 v6))) (.c z29 fun y8=>.b (y8.2 != 0) (.k (⟨0,[],[],[]⟩,y1,y8.2)) (.b ((y8.1).kind != 0) (.q (fU z2 y1 (aj (y8.1))) (.g (z1 (bf z2 y1 (aj (y8.1)))))) (.g (z1 v6))))) (.b z7 (.b z7 (.b z17 (.b ko (.q jJ (.g jD)) (.g (z1 v6))) (.c z27 fun y9=>.b (y9.2 != 0) (.k (⟨0,[],[],[]⟩,y1,y9.2)) (.b ((y9.1).kind != 0) (.q (fU z2 y1 (aj (y9.1))) (.g (z1 (bf z2 y1 (aj (y9.1)))))) (.g (z1 v6))))) (.b z5 (.b z17 (.b ko (.q jJ (.g jD)) (.g (z1 v6))) (.c z25 fun iq=>.b (iq.2 != 0) (.k (⟨0,[],[],[]⟩,y1,iq.2)) (.b ((iq.1).kind != 0) (.q (fU z2 y1 (aj (iq.1))) (.g (z1 (bf z2 y1 (aj (iq.1)))))) (.g (z1 v6))))) (.b z8 (.b z17 (.b ko (.q jJ (.g jD)) (.g (z1 v6))) (.c z20 fun xK=>.b (xK.2 != 0) (.k (⟨0,[],[],[]⟩,y1,xK.2)) (.b ((xK.1).kind != 0) (.q (fU z2 y1 (aj (xK.1))) (.g (z1 (bf z2 y1 (aj (xK.1)))))) (.g (z1 v6))))) (.b z4 (.b z17 (.b ko (.q jJ (.g jD)) (.g (z1 v6))) (.c z22 fun nG=>.b (nG.2 != 0) (.k (⟨0,[],[],[]⟩,y1,nG.2)) (.b ((nG.1).kind != 0) (.q (fU z2 y1 (aj (nG.1))) (.g (z1 (bf z2 y1 (aj (nG.1)))))) (.g (z1 v6))))) (.b z9 (.b z17 (.b ko (.q jJ (.g jD)) (.g (z1 v6))) (.c z21 fun y13=>.b (y13.2 != 0) (.k (⟨0,[],[],[]⟩,y1,y13.2)) (.b ((y13.1).kind != 0) (.q (fU z2 y1 (aj (y13.1))) (.g (z1 (bf z2 y1 (aj (y13.1)))))) (.g (z1 v6))))) (.b sI (.b z17 (.b ko (.q jJ (.g jD)) (.g (z1 v6))) (.c z23 fun zY=>.b (zY.2 != 0) (.k (⟨0,[],[],[]⟩,y1,zY.2)) (.b ((zY.1).kind != 0) (.q (fU z2 y1 (aj (zY.1))) (.g (z1 (bf z2 y1 (aj (zY.1)))))) (.g (z1 v6))))) (.b Av (.b z17 (.b ko (.q jJ (.g jD)) (.g (z1 v6))) (.c z26 fun y15=>.b (y15.2 != 0) (.k (⟨0,[],[],[]⟩,y1,y15.2)) (.b ((y15.1).kind != 0) (.q (fU z2 y1 (aj (y15.1))) (.g (z1 (bf z2 y1 (aj (y15.1)))))) (.g (z1 v6))))) (.b z6 (.b z17 (.b ko (.q jJ (.g jD)) (.g (z1 v6))) (.c z24 fun UL=>.b (UL.2 != 0) (.k (⟨0,[],[],[]⟩,y1,UL.2)) (.b ((UL.1).kind != 0) (.q (fU z2 y1 (aj (UL.1))) (.g (z1 (bf z2 y1 (aj (UL.1)))))) (.g (z1 v6))))) (.k (⟨0,[],[],[]⟩,y1,10)))))))))) (.b z12 (.b z17 (.b ko (.q jJ (.g jD)) (.g (z1 v6))) (.c z27 fun UM=>.b (UM.2 != 0) (.k (⟨0,[],[],[]⟩,y1,UM.2)) (.b ((UM.1).kind != 0) (.q (fU z2 y1 (aj (UM.1))) (.g (z1 (bf z2 y1 (aj (UM.1)))))) (.g (z1 v6))))) (.b z5 (.b z17 (.b ko (.q jJ (.g jD)) (.g (z1 v6))) (.c z25 fun UN=>.b (UN.2 != 0) (.k (⟨0,[],[],[]⟩,y1,UN.2)) (.b ((UN.1).kind != 0) (.q (fU z2 y1 (aj (UN.1))) (.g (z1 (bf z2 y1 (aj (UN.1)))))) (.g (z1 v6))))) (.b z8 (.b z17 (.b ko (.q jJ (.g jD)) (.g (z1 v6))) (.c z20 fun y19=>.b (y19.2 != 0) (.k (⟨0,[],[],[]⟩,y1,y19.2)) (.b ((y19.1).kind != 0) (.q (fU z2 y1 (aj (y19.1))) (.g (z1 (bf z2 y1 (aj (y19.1)))))) (.g (z1 v6))))) (.b z4 (.b z17 (.b ko (.q jJ (.g jD)) (.g (z1 v6))) (.c z22 fun y20=>.b (y20.2 != 0) (.k (⟨0,[],[],[]⟩,y1,y20.2)) (.b ((y20.1).kind != 0) (.q (fU z2 y1 (aj (y20.1))) (.g (z1 (bf z2 y1 (aj (y20.1)))))) (.g (z1 v6))))) (.b z9 (.b z17 (.b ko (.q jJ (.g jD)) (.g (z1 v6))) (.c z21 fun y21=>.b (y21.2 != 0) (.k (⟨0,[],[],[]⟩,y1,y21.2)) (.b ((y21.1).kind != 0) (.q (fU z2 y1 (aj (y21.1))) (.g (z1 (bf z2 y1 (aj (y21.1)))))) (.g (z1 v6))))) (.b sI (.b z17 (.b ko (.q jJ (.g jD)) (.g (z1 v6))) (.c z23 fun y22=>.b (y22.2 != 0) (.k (⟨0,[],[],[]⟩,y1,y22.2)) (.b ((y22.1).kind != 0) (.q (fU z2 y1 (aj (y22.1))) (.g (z1 (bf z2 y1 (aj (y22.1)))))) (.g (z1 v6))))) (.b Av (.b z17 (.b ko (.q jJ (.g jD)) (.g (z1 v6))) (.c z26 fun y23=>.b (y23.2 != 0) (.k (⟨0,[],[],[]⟩,y1,y23.2)) (.b ((y23.1).kind != 0) (.q (fU z2 y1 (aj (y23.1))) (.g (z1 (bf z2 y1 (aj (y23.1)))))) (.g (z1 v6))))) (.b z6 (.b z17 (.b ko (.q jJ (.g jD)) (.g (z1 v6))) (.c z24 fun y24=>.b (y24.2 != 0) (.k (⟨0,[],[],[]⟩,y1,y24.2)) (.b ((y24.1).kind != 0) (.q (fU z2 y1 (aj (y24.1))) (.g (z1 (bf z2 y1 (aj (y24.1)))))) (.g (z1 v6))))) (.k (⟨0,[],[],[]⟩,y1,10)))))))))))))) (.b (y1==[108,97,98,101,108,115]) (.b z17 (.b ko (.q jJ (.g jD)) (.g (z1 v6))) (.c z28 fun y25=>.b (y25.2 != 0) (.k (⟨0,[],[],[]⟩,y1,y25.2)) (.b ((y25.1).kind != 0) (.q (fU z2 y1 (aj (y25.1))) (.g (z1 (bf z2 y1 (aj (y25.1)))))) (.g (z1 v6))))) (.b z14 (.b z17 (.b ko (.q jJ (.g jD)) (.g (z1 v6))) (.c (sJ yR) fun y26=>.b (y26.2 != 0) (.k (⟨0,[],[],[]⟩,y1,y26.2)) (.b ((y26.1).kind != 0) (.q (fU z2 y1 (aj (y26.1))) (.g (z1 (bf z2 y1 (aj (y26.1)))))) (.g (z1 v6))))) (.b z13 (.b z17 (.b ko (.q jJ (.g jD)) (.g (z1 v6))) (.c z29 fun y27=>.b (y27.2 != 0) (.k (⟨0,[],[],[]⟩,y1,y27.2)) (.b ((y27.1).kind != 0) (.q (fU z2 y1 (aj (y27.1))) (.g (z1 (bf z2 y1 (aj (y27.1)))))) (.g (z1 v6))))) (.b z7 (.b z7 (.b z17 (.b ko (.q jJ (.g jD)) (.g (z1 v6))) (.c z27 fun y28=>.b (y28.2 != 0) (.k (⟨0,[],[],[]⟩,y1,y28.2)) (.b ((y28.1).kind != 0) (.q (fU z2 y1 (aj (y28.1))) (.g (z1 (bf z2 y1 (aj (y28.1)))))) (.g (z1 v6))))) (.b z5 (.b z17 (.b ko (.q jJ (.g jD)) (.g (z1 v6))) (.c z25 fun y29=>.b (y29.2 != 0) (.k (⟨0,[],[],[]⟩,y1,y29.2)) (.b ((y29.1).kind != 0) (.q (fU z2 y1 (aj (y29.1))) (.g (z1 (bf z2 y1 (aj (y29.1)))))) (.g (z1 v6))))) (.b z8 (.b z17 (.b ko (.q jJ (.g jD)) (.g (z1 v6))) (.c z20 fun X0=>.b (X0.2 != 0) (.k (⟨0,[],[],[]⟩,y1,X0.2)) (.b ((X0.1).kind != 0) (.q (fU z2 y1 (aj (X0.1))) (.g (z1 (bf z2 y1 (aj (X0.1)))))) (.g (z1 v6))))) (.b z4 (.b z17 (.b ko (.q jJ (.g jD)) (.g (z1 v6))) (.c z22 fun y31=>.b (y31.2 != 0) (.k (⟨0,[],[],[]⟩,y1,y31.2)) (.b ((y31.1).kind != 0) (.q (fU z2 y1 (aj (y31.1))) (.g (z1 (bf z2 y1 (aj (y31.1)))))) (.g (z1 v6))))) (.b z9 (.b z17 (.b ko (.q jJ (.g jD)) (.g (z1 v6))) (.c z21 fun y32=>.b (y32.2 != 0) (.k (⟨0,[],[],[]⟩,y1,y32.2)) (.b ((y32.1).kind != 0) (.q (fU z2 y1 (aj (y32.1))) (.g (z1 (bf z2 y1 (aj (y32.1)))))) (.g (z1 v6))))) (.b sI (.b z17 (.b ko (.q jJ (.g jD)) (.g (z1 v6))) (.c z23 fun y33=>.b (y33.2 != 0) (.k (⟨0,[],[],[]⟩,y1,y33.2)) (.b ((y33.1).kind != 0) (.q (fU z2 y1 (aj (y33.1))) (.g (z1 (bf z2 y1 (aj (y33.1)))))) (.g (z1 v6))))) (.b Av (.b z17 (.b ko (.q jJ (.g jD)) (.g (z1 v6))) (.c z26 fun y34=>.b (y34.2 != 0) (.k (⟨0,[],[],[]⟩,y1,y34.2)) (.b ((y34.1).kind != 0) (.q (fU z2 y1 (aj (y34.1))) (.g (z1 (bf z2 y1 (aj (y34.1)))))) (.g (z1 v6))))) (.b z6 (.b z17 (.b ko (.q jJ (.g jD)) (.g (z1 v6))) (.c z24 fun y35=>.b (y35.2 != 0) (.k (⟨0,[],[],[]⟩,y1,y35.2)) (.b ((y35.1).kind != 0) (.q (fU z2 y1 (aj (y35.1))) (.g (z1 (bf z2 y1 (aj (y35.1)))))) (.g (z1 v6))))) (.k (⟨0,[],[],[]⟩,y1,10)))))))))) (.b z12 (.b z17 (.b ko (.q jJ (.g jD)) (.g (z1 v6))) (.c z27 fun y36=>.b (y36.2 != 0) (.k (⟨0,[],[],[]⟩,y1,y36.2)) (.b ((y36.1).kind != 0) (.q (fU z2 y1 (aj (y36.1))) (.g (z1 (bf z2 y1 (aj (y36.1)))))) (.g (z1 v6))))) (.b z5 (.b z17 (.b ko (.q jJ (.g jD)) (.g (z1 v6))) (.c z25 fun y37=>.b (y37.2 != 0) (.k (⟨0,[],[],[]⟩,y1,y37.2)) (.b ((y37.1).kind != 0) (.q (fU z2 y1 (aj (y37.1))) (.g (z1 (bf z2 y1 (aj (y37.1)))))) (.g (z1 v6))))) (.b z8 (.b z17 (.b ko (.q jJ (.g jD)) (.g (z1 v6))) (.c z20 fun y38=>.b (y38.2 != 0) (.k (⟨0,[],[],[]⟩,y1,y38.2)) (.b ((y38.1).kind != 0) (.q (fU z2 y1 (aj (y38.1))) (.g (z1 (bf z2 y1 (aj (y38.1)))))) (.g (z1 v6))))) (.b z4 (.b z17 (.b ko (.q jJ (.g jD)) (.g (z1 v6))) (.c z22 fun y39=>.b (y39.2 != 0) (.k (⟨0,[],[],[]⟩,y1,y39.2)) (.b ((y39.1).kind != 0) (.q (fU z2 y1 (aj (y39.1))) (.g (z1 (bf z2 y1 (aj (y39.1)))))) (.g (z1 v6))))) (.b z9 (.b z17 (.b ko (.q jJ (.g jD)) (.g (z1 v6))) (.c z21 fun y40=>.b (y40.2 != 0) (.k (⟨0,[],[],[]⟩,y1,y40.2)) (.b ((y40.1).kind != 0) (.q (fU z2 y1 (aj (y40.1))) (.g (z1 (bf z2 y1 (aj (y40.1)))))) (.g (z1 v6))))) (.b sI (.b z17 (.b ko (.q jJ (.g jD)) (.g (z1 v6))) (.c z23 fun y41=>.b (y41.2 != 0) (.k (⟨0,[],[],[]⟩,y1,y41.2)) (.b ((y41.1).kind != 0) (.q (fU z2 y1 (aj (y41.1))) (.g (z1 (bf z2 y1 (aj (y41.1)))))) (.g (z1 v6))))) (.b Av (.b z17 (.b ko (.q jJ (.g jD)) (.g (z1 v6))) (.c z26 fun y42=>.b (y42.2 != 0) (.k (⟨0,[],[],[]⟩,y1,y42.2)) (.b ((y42.1).kind != 0) (.q (fU z2 y1 (aj (y42.1))) (.g (z1 (bf z2 y1 (aj (y42.1)))))) (.g (z1 v6))))) (.b z6 (.b z17 (.b ko (.q jJ (.g jD)) (.g (z1 v6))) (.c z24 fun y43=>.b (y43.2 != 0) (.k (⟨0,[],[],[]⟩,y1,y43.2)) (.b ((y43.1).kind != 0) (.q (fU z2 y1 (aj (y43.1))) (.g (z1 (bf z2 y1 (aj (y43.1)))))) (.g (z1 v6))))) (.k (⟨0,[],[],[]⟩,y1,10)))))))))))))))))) (.q ((wg 10000 1000) z2) (.k (aj ((dR 1000) z2),[],0)))
def jP(x0:Node):=mu fC (.e x0)
def FC:=(((afM.I 18 Tryz.func18).I 20 Tryz.func20).I 43 Tryz.func43).cl 17 [.ah,.str,.aY] [.v .ah,.c 18 [] []] fC (fun a=>.e a) (fun | .e x0=>.c [.v ⟨.ah,x0⟩,.c 18 [] []] | .h0 v0 v1 v2 v3 v4 v5 v6=>.h 0 ⟨57,[(1,.d (.raw (.func (.func 18) #[] #[]))),(2,.ptr 0 0),(4,.ptr 1 0),(7,.ptr 2 0),(23,.d (.slice .str v0)),(24,.d (.int .i64 v1)),(25,.d (.int .i64 v2))],[(0,.box [.d (.int .i64 v3.kind),.d (.str v3.text),.d (.slice .str v3.keys),.d (.slice .ah v3.kids)]),(1,.box [.d (.int .i64 v4),.d (.str v5),.d (.raw (.slice none 0 0)),.d (.raw (.slice none 0 0))]),(2,.box [.d (.int .i64 v6.kind),.d (.str v6.text),.d (.slice .str v6.keys),.d (.slice .ah v6.kids)])],3⟩) { live:=[(0,[1,2,4,7,23,24,25])],oO:=[(0,[(7,some 2,false,.str),(7,some 3,false,.ah)])] } Tryz.func17
def yw(x0:Node):Te (Node×(anP)×Int) Empty:=.c (jP (aj x0)) fun y1=>.k (aj (y1.1),y1.2.1,y1.2.2)
def oQ(x0:Node):=(yw x0).o
def Zc:=FC.f0 7 [.ah] [.ah,.str,.aY] (fun a=>yw a) Tryz.func7
inductive sN where
 | e (x0:Node)
 | h0 (v0:List (anP)) (v1:Int) (v2:Int) (v3:Node) (v4:Int) (v5:anP) (v6:Node)
def gy:sN->Te (Node×(anP)×Int) sN
 | .e x0=>.b (x0.kind==0) (.k (⟨3,[],[],[]⟩,[],0)) (.b (x0.kind != 3) (.k (⟨0,[],[],[]⟩,[],10)) (.g (.h0 x0.keys (aC x0.keys) 0 x0 0 [] ⟨3,[],[],[]⟩)))
 | .h0 v0 v1 v2 v3 v4 v5 v6=>.l (aj v6) fun z1=>.b (aF v2 v1) (.i v0 v2 fun y1=>.i v3.kids v2 fun y2=>.c (iP y1) fun y3=>.b (!y3) (.c (yM [[115,101,114,118,105,99,101,115],y1]) fun y4=>.k (⟨0,[],[],[]⟩,y4,10)) (.c (oQ (aj y2)) fun y5=>.c (yM [[115,101,114,118,105,99,101,115],y1,y5.2.1]) fun y6=>.b (y5.2.2 != 0) (.k (⟨0,[],[],[]⟩,y6,y5.2.2)) (.b ((y5.1).kind != 0) (.q (fU z1 y1 (aj (y5.1))) (.g (.h0 v0 v1 (au (v2+1)) v3 v4 v5 (bf z1 y1 (aj (y5.1)))))) (.g (.h0 v0 v1 (au (v2+1)) v3 v4 v5 v6))))) (.q ((wg 10000 1000) z1) (.k (aj ((dR 1000) z1),[],0)))
def jH(x0:Node):=mu gy (.e x0)
def Es:=(Zc.I 64 Tryz.func64).cl 17 [.ah,.str,.aY] [.v .ah,.c 64 [] []] gy (fun a=>.e a) (fun | .e x0=>.c [.v ⟨.ah,x0⟩,.c 64 [] []] | .h0 v0 v1 v2 v3 v4 v5 v6=>.h 0 ⟨57,[(1,.d (.raw (.func (.func 64) #[] #[]))),(2,.ptr 0 0),(4,.ptr 1 0),(7,.ptr 2 0),(23,.d (.slice .str v0)),(24,.d (.int .i64 v1)),(25,.d (.int .i64 v2))],[(0,.box [.d (.int .i64 v3.kind),.d (.str v3.text),.d (.slice .str v3.keys),.d (.slice .ah v3.kids)]),(1,.box [.d (.int .i64 v4),.d (.str v5),.d (.raw (.slice none 0 0)),.d (.raw (.slice none 0 0))]),(2,.box [.d (.int .i64 v6.kind),.d (.str v6.text),.d (.slice .str v6.keys),.d (.slice .ah v6.kids)])],3⟩) { live:=[(0,[1,2,4,7,23,24,25])],oO:=[(0,[(7,some 2,false,.str),(7,some 3,false,.ah)])] } Tryz.func17
def vT(x0:Node):Te (Node×(anP)×Int) Empty:=.b (x0.kind != 3) (.k (⟨0,[],[],[]⟩,[115,101,114,118,105,99,101,115],10)) (.c (jH (aj x0)) fun y1=>.b (aab (y1.2.2==0) (aF 16 (aC ((y1.1).keys)))) (.k (⟨0,[],[],[]⟩,[115,101,114,118,105,99,101,115],9)) (.k (aj (y1.1),y1.2.1,y1.2.2)))
def kY(x0:Node):=(vT x0).o
def Xq:=Es.f0 28 [.ah] [.ah,.str,.aY] (fun a=>vT a) Tryz.func28
def aa9(x0:anP)(x1:Node):Te (Node×(anP)×Int) Empty:=.l (BM x1.text) fun z4=>.l (x0==[110,97,109,101]) fun z3=>.l (aj x1) fun z2=>.l (x0==[115,101,114,118,105,99,101,115]) fun z1=>.c (sG x0) fun y1=>.b y1 (.k (⟨0,[],[],[]⟩,[],0)) (.b (aab (aab (aab (!z3) (!z1)) (!(x0==[110,101,116,119,111,114,107,115]))) (!(x0==[118,111,108,117,109,101,115]))) (.k (⟨0,[],[],[]⟩,x0,10)) (.b (x1.kind==0) (.k (z2,[],0)) (.b z1 (.c (kY z2) fun y2=>.k (aj (y2.1),y2.2.1,y2.2.2)) (.b z3 (.q ((z4.isSome) || !(!(x1.kind != 1))) (.b (aN (x1.kind != 1) (!(gv z4))) (.k (⟨0,[],[],[]⟩,x0,10)) (.k (z2,[],0)))) (.c (nH z2) fun y3=>.k (aj (y3.1),x0,y3.2))))))
def abb:=Xq.f0 27 [.str,.ah] [.ah,.str,.aY] (fun a=>aa9 a.1 a.2) Tryz.func27
inductive oU where
 | e (x0:Node)
 | h0 (v0:List (anP)) (v1:Int) (v2:Int) (v3:Node) (v4:Int) (v5:anP) (v6:Node)
def iA:oU->Te (Node×(anP)×Int) oU
 | .e x0=>.b (x0.kind==0) (.k (⟨3,[],[],[]⟩,[],0)) (.b (x0.kind != 3) (.k (⟨0,[],[],[]⟩,[],10)) (.g (.h0 x0.keys (aC x0.keys) 0 x0 0 [] ⟨3,[],[],[]⟩)))
 | .h0 v0 v1 v2 v3 v4 v5 v6=>.l (aj v6) fun z2=>.l (oU.h0 v0 v1 (au (v2+1)) v3 v4 v5) fun z1=>.b (aF v2 v1) (.i v0 v2 fun y1=>.l (y1==[110,97,109,101]) fun z4=>.l (y1==[115,101,114,118,105,99,101,115]) fun z3=>.i v3.kids v2 fun y2=>.l (BM (y2.text)) fun z6=>.l (aj y2) fun z5=>.l (z1 (bf z2 y1 z5)) fun z7=>.c (sG y1) fun y3=>.b y3 (.g (z1 v6)) (.b (aab (aab (aab (!z4) (!z3)) (!(y1==[110,101,116,119,111,114,107,115]))) (!(y1==[118,111,108,117,109,101,115]))) (.k (⟨0,[],[],[]⟩,y1,10)) (.b (y2.kind==0) (.b (y2.kind != 0) (.q (fU z2 y1 z5) (.g z7)) (.g (z1 v6))) (.b z3 (.c (kY z5) fun y4=>.b (y4.2.2 != 0) (.k (⟨0,[],[],[]⟩,y4.2.1,y4.2.2)) (.b ((y4.1).kind != 0) (.q (fU z2 y1 (aj (y4.1))) (.g (z1 (bf z2 y1 (aj (y4.1)))))) (.g (z1 v6)))) (.b z4 (.q ((z6.isSome) || !(!(y2.kind != 1))) (.b (aN (y2.kind != 1) (!(gv z6))) (.k (⟨0,[],[],[]⟩,y1,10)) (.b (y2.kind != 0) (.q (fU z2 y1 z5) (.g z7)) (.g (z1 v6))))) (.c (nH z5) fun y5=>.b (y5.2 != 0) (.k (⟨0,[],[],[]⟩,y1,y5.2)) (.b ((y5.1).kind != 0) (.q (fU z2 y1 (aj (y5.1))) (.g (z1 (bf z2 y1 (aj (y5.1)))))) (.g (z1 v6))))))))) (.q ((wg 10000 1000) z2) (.k (aj ((dR 1000) z2),[],0)))
def jv(x0:Node):=mu iA (.e x0)
def H7:=(abb.I 27 Tryz.func27).cl 17 [.ah,.str,.aY] [.v .ah,.c 27 [] []] iA (fun a=>.e a) (fun | .e x0=>.c [.v ⟨.ah,x0⟩,.c 27 [] []] | .h0 v0 v1 v2 v3 v4 v5 v6=>.h 0 ⟨57,[(1,.d (.raw (.func (.func 27) #[] #[]))),(2,.ptr 0 0),(4,.ptr 1 0),(7,.ptr 2 0),(23,.d (.slice .str v0)),(24,.d (.int .i64 v1)),(25,.d (.int .i64 v2))],[(0,.box [.d (.int .i64 v3.kind),.d (.str v3.text),.d (.slice .str v3.keys),.d (.slice .ah v3.kids)]),(1,.box [.d (.int .i64 v4),.d (.str v5),.d (.raw (.slice none 0 0)),.d (.raw (.slice none 0 0))]),(2,.box [.d (.int .i64 v6.kind),.d (.str v6.text),.d (.slice .str v6.keys),.d (.slice .ah v6.kids)])],3⟩) { live:=[(0,[1,2,4,7,23,24,25])],oO:=[(0,[(7,some 2,false,.str),(7,some 3,false,.ah)])] } Tryz.func17
def D8(x0:Node):Te (Node×(anP)×Int) Empty:=.c (jv (aj x0)) fun y1=>.l (Aw (aj (y1.1))) fun z1=>.q ((z1.isSome) || !(y1.2.2==0)) (.b (aab (y1.2.2==0) (!(gv z1))) (.k (⟨0,[],[],[]⟩,[],9)) (.k (aj (y1.1),y1.2.1,y1.2.2)))
def iB(x0:Node):=(D8 x0).o
def SB:=H7.f0 12 [.ah] [.ah,.str,.aY] (fun a=>D8 a) Tryz.func12
end
section
abbrev Z{α:Type}[Df α](o:Option α)(Q:α->Prop):Prop:=o.isSome=true/\Q (gv o)
theorem zof{α:Type}[Df α]{o:Option α}{Q:α->Prop}(h:∃r,o=some r/\Q r):Z o Q:=by obtain⟨r,rfl,h⟩:=h;exact⟨rfl,h⟩
theorem bZ{ρ:Type}[Df ρ]{t:Te ρ Empty}{m:Option ρ}{Q:ρ->Prop}(hm:m=t.o)(h:t.run Prop Q (fun _=>False) False):Z m Q:=zof (awT Q hm h)
theorem jy{ρ σ:Type}[Df ρ]{t:Tree ρ σ}{m:Option ρ}{s:σ}{Q:ρ->Prop}(hm:m=mu t s)(I:σ->Prop)(M:σ->Nat)(hs:I s)(hM:M s<1000000000000000000000000000000)(h:∀s,I s->(t s).run Prop Q (fun s'=>I s'/\M s'<M s) False):Z m Q:=zof (come Q hm I M hs hM h)
theorem wZ{α:Type}[Df α](o:Option α)(f:α->Prop):cl o False f=(o.isSome=true/\f (gv o)):=by
 rw[wC];cases o with
 | none=>simp
 | some r=>simp[gv]
theorem dx{n:Int}(h : -9223372036854775808<=n/\n<=9223372036854775807):au n=n:=aU h.1 h.2
theorem gM{α:Type}(l:List α)(d:α){i:Int}(h:0<=i)(h':i<(l.length:Int)):l.getD i.toNat d∈l:=by rw[List.getD,aac (by omega)];exact aeC _
theorem trB:(∀(c:Bool) (a b:Prop),(bif c then a else b)=((c=true->a)/\(c=false->b)))/\(∀(α:Type) [Df α] (l:List α) (i:Int) (f:α->Prop),ix l i False f=(0<=i/\i<(l.length:Int)/\f (l.getD i.toNat Df.d)))/\(∀(l:anP) (i:Int) (f:Int->Prop),O7 l i False f=(0<=i/\i<(l.length:Int)/\f ((l.getD i.toNat 0).toNat:Int))) /\
  (∀(c:Bool) (a:Prop),ck c False a=(c=true/\a))/\(∀(α:Type) [Df α] (o:Option α) (f:α->Prop),cl o False f=(o.isSome=true/\f (gv o)))/\(∀x:Node,aj x=x)/\(∀a b:Bool,((a||b)=true)=(a=true\/b=true))/\(∀a b:Bool,((a&&b)=true)=(a=true/\b=true))/\(∀(p:Prop) [Decidable p],(decide p=true)=p) /\
  (∀a:Bool,((!a)=true)=(a=false))/\(∀(p:Prop) [Decidable p],(decide p=false)=¬p)/\(∀(β:Type) (l:List β) (i:Int),fV l i=(decide ((0:Int)<=i)&&decide (i<(l.length:Int))))/\(∀(β:Type) (l:List β) (a b:Int),bM l a b=(decide ((0:Int)<=a)&&decide (a<=b)&&decide (b<=(l.length:Int)))) /\
  (∀(α:Type) [BEq α] [LawfulBEq α] (a b:α),((a==b)=true)=(a=b))/\(∀s p:anP,uX s p=(decide (s.length<=1000000)&&decide (p.length=1)))/\(∀(s p:anP) (a b:Int),Rc s p a b=(decide (s.length<=1000000)&&decide (p.length=1)&&(a==0)&&(b == -1))) :=
 ⟨wB,fun _ _=>wI,wS,wK,fun _ _=>wZ,aV,fun _ _=>by simp,fun _ _=>by simp,fun _ _=>by simp,fun _=>by simp,fun _ _=>by simp,fun _ _ _=>rfl,fun _ _ _ _=>rfl,fun _ _ _ _ _=>by simp,fun _ _=>rfl,fun _ _ _ _=>rfl⟩
theorem bB:type_of% (And.intro @aM (And.intro bg trB)):=And.intro @aM (And.intro bg trB)
theorem mo(s p:anP):Z (iF s p) fun r=>r=p.isPrefixOf s:=by
 refine bZ rfl ?_;simp only[bB,mh];refine⟨by omega,?_⟩;rw[Bool.eq_iff_iff,List.isPrefixOf_iff_prefix];by_cases h:(p.length:Int)<=(s.length:Int)
 ·simp only[h,decide_true,cond_true,cut,aam,Int.toNat_zero,amB,aeh,beq_iff_eq];exact⟨fun e=>List.prefix_iff_eq_take.2 e.symm,fun e=>(List.prefix_iff_eq_take.1 e).symm⟩
 ·simp only[h,decide_false,cond_false];exact⟨fun e=>(by cases e),fun e=>(by have:=e.length_le;omega)⟩
theorem Tt(s p:anP):Z (G8 s p) fun r=>r=p.isPrefixOf s:=by refine bZ rfl ?_;simp only[bB,zG];grind[mo]
theorem Et(s:anP):Z (sG s) fun r=>r=[120,45].isPrefixOf s:=by refine bZ rfl ?_;simp only[bB,En];grind[Tt]
theorem Gp(c:Int):Z (wu c) fun _=>True:=by refine bZ rfl ?_;simp only[bB,Lp]
theorem yS(c:Int):Z (nW c) fun _=>True:=by refine bZ rfl ?_;simp only[bB,DV];grind[Gp]
theorem qX(c:Int):Z (fE c) fun _=>True:=by refine bZ rfl ?_;simp only[bB,JQ]
theorem Zd(c:Int):Z (Eo c) fun _=>True:=by refine bZ rfl ?_;simp only[bB,x9];grind[yS,qX]
theorem xI(s:anP):Z (jA s) fun r=>r=true->0<s.length/\s.length<=24:=by
 refine jy rfl (fun | .e x=>x=s | .h0 x i=>x=s/\0<s.length/\s.length<=24/\1<=i/\i<=s.length) (fun | .e x=>100 | .h0 x i=>(s.length-i).toNat) rfl (by show 100<_;omega) ?_;rintro(x | ⟨x,i⟩) hs
 ·cases hs;simp only[bB,dJ];grind[Zd]
 ·obtain⟨rfl,h1,h2,h3,h4⟩:=hs;simp only[bB,dJ];have:=@dx (i+1);grind[yS,qX]
end
section
theorem gL(x0:anP):Z (iP x0) fun _=>True:=by
 refine bZ rfl ?_;simp only[bB,Bw]
 all_goals grind[xI]
theorem Kc(x0:Int):Z (Cv x0) fun _=>True:=by
 refine bZ rfl ?_;simp only[bB,vR]
 all_goals grind[yS]
theorem vQ(x0:anP):Z (jh x0) fun _=>True:=by
 refine jy rfl (fun | .e y0=>y0=x0 | .h0 v0 v1=>0<=v1/\v1<=(v0.length:Int)/\v0.length<=1000000/\v0=x0) (fun | .e _=>10000000000 | .h0 v0 v1=>((v0.length:Int)-v1).toNat) rfl (by show 10000000000<_;omega) ?_;rintro(y0 | ⟨v0,v1⟩) hs
 ·cases hs;simp only[bB,dh]
  all_goals grind[Kc,yS,qX]
 ·dsimp only at hs;simp only[bB,dh];have:=@dx (v1+1)
  all_goals grind[Kc,yS,qX]
theorem uN(x0:anP):Z (zV x0) fun _=>True:=by
 refine bZ rfl ?_;simp only[bB,zU]
 all_goals grind[vQ]
theorem Lx(x0:Int):Z (Er x0) fun _=>True:=by
 refine bZ rfl ?_;simp only[bB,yt]
 all_goals grind[qX,Gp]
theorem xJ(x0:anP):Z (jB x0) fun _=>True:=by
 refine jy rfl (fun | .e y0=>y0=x0 | .h0 v0 v1=>0<=v1/\v1<=(v0.length:Int)/\v0.length<=1000000/\v0=x0) (fun | .e _=>10000000000 | .h0 v0 v1=>((v0.length:Int)-v1).toNat) rfl (by show 10000000000<_;omega) ?_;rintro(y0 | ⟨v0,v1⟩) hs
 ·cases hs;simp only[bB,dK]
  all_goals grind[Lx,qX,Gp]
 ·dsimp only at hs;simp only[bB,dK];have:=@dx (v1+1)
  all_goals grind[Lx,qX,Gp]
theorem acY(x0:anP):Z (BM x0) fun _=>True:=by
 refine bZ rfl ?_;simp only[bB,BL]
 all_goals grind[xJ]
theorem zw:Z (eD ) fun _=>True:=by
 refine bZ rfl ?_;simp only[bB,II]
 all_goals grind
theorem afN(x0:anP):Z (JU x0) fun _=>True:=by
 refine bZ rfl ?_;simp only[bB,JR]
 all_goals grind
theorem dZ(x0:Node)(x1:Int):Z (jR x0 x1) fun r=>r=true->x0.kind=x1/\x0.kids.length<=32:=by
 refine bZ rfl ?_;simp only[bB,HZ]
 all_goals grind
theorem U0(x0:Int):Z (F6 x0) fun _=>True:=by
 refine bZ rfl ?_;simp only[bB,Ls]
 all_goals grind
theorem SC(x0:anP)(x1:Int)(hp:x0.length<=1000000):Z (yN x0 x1) fun _=>True:=by
 refine jy rfl (fun | .e y0 y1=>y0=x0/\y1=x1 | .h0 v0 v1 v2 v3 v4 v5=>0<=v5/\v5<=v4/\v4=(v0.length:Int)/\v0.length<=1000000/\v0=x0/\v1=x1/\v4=(x0.length:Int)) (fun | .e _ _=>10000000000 | .h0 v0 v1 v2 v3 v4 v5=>(v4-v5).toNat) ⟨rfl,rfl⟩ (by show 10000000000<_;omega) ?_;rintro(⟨y0,y1⟩ | ⟨v0,v1,v2,v3,v4,v5⟩) hs
 ·obtain⟨rfl,rfl⟩:=hs;simp only[bB,nX]
  all_goals grind
 ·dsimp only at hs;simp only[bB,nX];have:=@dx (v5+1)
  all_goals grind
theorem og(x0:anP)(x1:Int)(hp:x0.length<=1000000):Z (gN x0 x1) fun _=>True:=by
 refine bZ rfl ?_;simp only[bB,yO]
 all_goals grind[SC]
theorem LA(x0:anP)(hp:x0.length<=1000000):Z (iR x0) fun r=>r=true->0<x0.length:=by
 refine jy rfl (fun | .e y0=>y0=x0 | .h0 v0 v1 v2=>0<=v2/\v2<=v1/\v1=(v0.length:Int)/\v0.length<=1000000/\v0=x0/\v1=(x0.length:Int)) (fun | .e _=>10000000000 | .h0 v0 v1 v2=>(v1-v2).toNat) rfl (by show 10000000000<_;omega) ?_;rintro(y0 | ⟨v0,v1,v2⟩) hs
 ·cases hs;simp only[bB,wH]
  all_goals grind
 ·dsimp only at hs;simp only[bB,wH];have:=@dx (v2+1)
  all_goals grind
theorem acZ(x0:anP):Z (H6 x0) fun _=>True:=by
 refine bZ rfl ?_;simp only[bB,BF]
 all_goals grind[gL]
theorem sO(x0:List (anP))(hp:x0.length<=1000000/\∀s∈x0,s.length<=1000000):Z (fI x0) fun _=>True:=by
 refine jy rfl (fun | .e y0=>y0=x0 | .h0 v0 v1 v2=>0<=v2/\v2<=v1/\v1=(v0.length:Int)/\v0.length<=1000000/\v0=x0/\v1=(x0.length:Int)) (fun | .e _=>10000000000 | .h0 v0 v1 v2=>(v1-v2).toNat) rfl (by show 10000000000<_;omega) ?_;rintro(y0 | ⟨v0,v1,v2⟩) hs
 ·cases hs;simp only[bB,dG]
  all_goals grind[gM,og]
 ·dsimp only at hs;simp only[bB,dG];have:=@dx (v2+1)
  all_goals grind[gM,og]
theorem rA(x0:List (anP))(hp:x0.length<=1000000/\∀s∈x0,s.length<=1000000):Z (cZ x0) fun _=>True:=by
 refine bZ rfl ?_;simp only[bB,eU]
 all_goals grind[sO]
end
section
theorem gM0{α:Type}(l:List α)(d:α)(h:0<l.length):l.getD 0 d∈l:=by rw[List.getD,aac h];exact aeC _
theorem gM1{α:Type}(l:List α)(d:α)(h:1<l.length):l.getD 1 d∈l:=by rw[List.getD,aac h];exact aeC _
theorem abd(sep:anP):∀(k:Nat) (s p:anP),p∈Lib.splitK sep 0 k s->p.length<=s.length
 | 0,s,p,h=>by simp only[Lib.splitK,List.mem_singleton]at h;rw[h];exact abH _
 | k+1,s,p,h=>by
  unfold Lib.splitK at h;split at h
  ·rw[List.mem_singleton]at h;rw[h];exact abH _
  ·rcases amG.1 h with h | h
   ·rw[h,aeb];omega
   ·have:=abd sep k _ p h;rw[abP]at this;omega
theorem Rm(sep:anP):∀(k:Nat) (s:anP),0<(Lib.splitK sep 0 k s).length/\(Lib.splitK sep 0 k s).length<=k+1
 | 0,s=>by simp[Lib.splitK]
 | k+1,s=>by
  unfold Lib.splitK;split
  ·simp
  ·have:=Rm sep k (s.drop ((Lib.index s sep).toNat+sep.length));simp only[List.length_cons];omega
theorem aDb(s p:anP)(a b:Int)(h:p.length=1):0<(eT s p a b).length/\(eT s p a b).length<=s.length+1/\∀x∈eT s p a b,x.length<=s.length:=by
 match p,h with
 | [c],_ =>
 refine⟨(Rm [c] _ s).1,?_,fun x hx=>abd [c] _ s x hx⟩;have h1:=(Rm [c] (Lib.count s [c]) s).2;rw[Lib.count_one]at h1;have h2:=List.count_le_length (a:=c) (l:=s);have h3:(eT s [c] a b).length<=s.count c+1:=by unfold eT Lib.split;rw[Lib.count_one];exact h1
 omega
theorem D9(s:anP)(c:UInt8)(a b:Int):0<(eT s [c] a b).length/\(eT s [c] a b).length<=s.length+1/\∀x∈eT s [c] a b,x.length<=s.length:=aDb s [c] a b rfl
theorem Rn(s:anP)(c:UInt8)(a b:Int)(i:Nat):((eT s [c] a b).getD i (Df.d:anP)).length<=s.length:=by
 rw[List.getD];cases h:(eT s [c] a b)[i]? with
 | none=>exact aas _
 | some x=>exact(D9 s c a b).2.2 x (ae7 h)
theorem WS(s:anP)(c:UInt8)(a b:Int)(i:Nat):((eT s [c] a b).getD i (dflt Ty.str:anP)).length<=s.length:=Rn s c a b i
theorem iK(s p:anP):(mg s p).length<=s.length:=by
 unfold mg;cases decide (0<=ql s p)with
 | true=>simp only[cond_true,aeb];omega
 | false=>exact abH _
theorem iL(s p:anP):(qm s p).length<=s.length:=by
 unfold qm;cases decide (0<=ql s p)with
 | true=>simp only[cond_true,abP];omega
 | false=>exact aas _
theorem ac0(x0:anP)(hp:x0.length<=1000000):Z (rW x0) fun _=>True:=by
 refine bZ rfl ?_;simp only[bB,BA]
 all_goals grind[dx,gM0,gM1,gM,D9,Rn,WS,iK,iL,rA]
theorem LB(x0:Port)(hp:x0.host.length<=1000000):Z (dH x0) fun r=>r=true->(1<=x0.iW/\x0.iW<=65535)/\0<=x0.out/\x0.out<=65535:=by
 refine bZ rfl ?_;simp only[bB,Gb]
 all_goals grind[dx,gM0,gM1,gM,D9,Rn,WS,iK,iL,ac0]
theorem afO(x0:anP)(hp:x0.length<=1000000):Z (jL x0) fun _=>True:=by
 refine bZ rfl ?_;simp only[bB,DW]
 all_goals grind[dx,gM0,gM1,gM,D9,Rn,WS,iK,iL,og]
theorem AA(x0:anP)(hp:x0.length<=1000000):Z (Au x0) fun r=>r.1.host.length<=x0.length:=by
 refine bZ rfl ?_;simp only[bB,Gc]
 (repeat' (first | (intro _) | (apply And.intro)))<;>grind[dx,gM0,gM1,gM,D9,Rn,WS,iK,iL,LB,afO]
end
section
theorem p10(v0:Int)(h:2<=v0):(10:Int) ^ (v0-1).toNat=10*(10:Int) ^ (v0-2).toNat:=by rw[show(v0-1).toNat=(v0-2).toNat+1 by omega,Int.pow_succ];omega
theorem aDc:∀n:Nat,(2:Int)<=(10:Int) ^ n->1<=n
 | 0,h=>by simp at h
 | n+1,_=>by omega
theorem AB{n:Int}(h0:0<=n)(h1:n<18446744073709551616):IntKind.wrap .u64 n=n:=by show n%18446744073709551616=n;exact Int.emod_eq_of_lt h0 h1
theorem AJ(x0:Int)(hp : -9223372036854775808<=x0/\x0<=9223372036854775807):Z (qp x0) fun r=>r.length<=20:=by
 refine jy rfl (fun | .e y0=>y0=x0 | .h0 v0 v1 v2 v3=>2<=v0/\v0<=20/\0<=v2/\v2<18446744073709551616/\v2<(10:Int) ^ (v0-1).toNat/\v3.length=20) (fun | .e _=>10000000000 | .h0 v0 v1 v2 v3=>v0.toNat) rfl (by show 10000000000<_;omega) ?_;rintro(y0 | ⟨v0,v1,v2,v3⟩) hs
 ·cases hs;simp only[bB,wG];have e1:0<=x0->IntKind.wrap .u64 x0=x0:=fun h=>AB h (by omega)
  have e2:x0<0->IntKind.wrap .u64 (0-IntKind.wrap .u64 x0) = -x0:=fun h=>by show(0-x0%18446744073709551616)%18446744073709551616 = -x0;omega
  refine⟨fun h=>?_,fun h=>?_⟩
  ·rw[e2 h];refine⟨⟨by omega,by omega,by omega,by omega,?_,rfl⟩,by show(20:Int).toNat<10000000000;decide⟩;rw[show((20:Int)-1).toNat=19 from rfl];omega
  ·rw[e1 (by omega)];refine⟨⟨by omega,by omega,by omega,by omega,?_,rfl⟩,by show(20:Int).toNat<10000000000;decide⟩;rw[show((20:Int)-1).toNat=19 from rfl];omega
 ·obtain⟨h1,h2,h3,h4,h5,h6⟩:=hs;have e1:au (v0-1)=v0-1:=aU (by omega) (by omega);have e2:au (v0-2)=v0-2:=aU (by omega) (by omega);have e3:Int.tdiv v2 10=v2 / 10:=ae8 h3;have e4:IntKind.wrap .u64 (v2 / 10)=v2 / 10:=AB (by omega) (by omega);have e5:=p10 v0 h1;have e6:=aDc (v0-2).toNat;simp only[bB,wG,e1,e2,e3,e4,ahX,show v0-1-1=v0-2 by omega,amx,h6,List.length_map,cut,aeb,abP,Nat.blt_eq,Nat.beq_eq];generalize (10:Int) ^ (v0-2).toNat=q at e5 e6 ⊢;rw[e5]at h5
  (repeat' (first | (intro _) | (apply And.intro)))<;>first | omega | trivial | rfl | (rename_i hz;have hz:=afb.1 hz;have:=e6 (by omega);omega)
theorem NR(x0:Port)(hp:x0.host.length<=1000000):Z (zk x0) fun r=>r.length<=x0.host.length+100:=by
 refine bZ rfl ?_;simp only[bB,IQ,List.length_append,List.length_cons,List.length_nil,aA];have h1:=LB x0 hp;have h2:=AJ x0.out;have h3:=AJ x0.iW
 (repeat' (first | (intro _) | (apply And.intro)))<;>grind
end
section
def wr:Nat->Node->Prop
 | 0,_=>False
 | n+1,x=>x.keys.length<=300/\x.kids.length<=300/\(x.kind=0\/x.kind=3->x.keys.length=x.kids.length)/\x.text.length<=30000/\(∀k∈x.keys,k.length<=30000)/\∀y∈x.kids,wr n y
theorem apM:∀{d:Nat} {x:Node},wr d x->wg 1000 d x=true
 | 0,_,h=>h.elim
 | _+1,_,h=>eZ.2 ⟨Nat.le_trans h.1 (by decide),Nat.le_trans h.2.1 (by decide),fun e=>h.2.2.1 (.inr e),fun y hy=>apM (h.2.2.2.2.2 y hy)⟩
theorem ac1:∀{n:Nat} {x:Node} (k:Nat),wr n x->wr (n+k) x
 | 0,_,_,h=>h.elim
 | n+1,x,k,h=>by rw[Nat.add_right_comm];exact⟨h.1,h.2.1,h.2.2.1,h.2.2.2.1,h.2.2.2.2.1,fun y hy=>ac1 k (h.2.2.2.2.2 y hy)⟩
def W(d:Nat)(n:Node):Prop:=wr d n
def G(d:Nat)(n:Node):Prop:=wg 1000 d n=true
def TL(l:List (anP)):Prop:=∀s∈l,s.length<=30000
theorem jc:TL []:=fun s h=>by cases h
theorem jd{l:List (anP)}{s:anP}(h:TL l)(hs:s.length<=30000):TL (l++[s]):=fun x hx=>by
 rcases List.mem_append.1 hx with hx | hx
 ·exact h x hx
 ·rw[List.mem_singleton.1 hx];exact hs
theorem kZ{l:List (anP)}(h:TL l)(i:Nat):(l.getD i (Df.d:anP)).length<=30000:=by
 rw[List.getD];cases e:l[i]? with
 | none=>exact aas _
 | some x=>exact h x (ae7 e)
theorem om{l:List (anP)}(h:TL l)(i:Nat):(l.getD i (dflt Ty.str:anP)).length<=30000:=kZ h i
theorem W_z{d:Nat}{n:Node}(h:W (d+1) n):n.keys.length<=300/\n.kids.length<=300/\(n.kind=3->n.keys.length=n.kids.length)/\n.text.length<=30000/\TL n.keys:=by exact⟨h.1,h.2.1,fun e=>h.2.2.1 (.inr e),h.2.2.2.1,h.2.2.2.2.1⟩
theorem W_k{d:Nat}{n:Node}(h:W (d+1) n)(h0:n.kind=0):W (d+1) ⟨3,n.text,n.keys,n.kids⟩:=⟨h.1,h.2.1,fun _=>h.2.2.1 (.inl h0),h.2.2.2.1,h.2.2.2.2.1,h.2.2.2.2.2⟩
theorem W_d{d:Nat}{n:Node}(h:W (d+2) n)(i:Nat):W (d+1) (n.kids.getD i (Df.d:Node)):=by
 rw[List.getD];cases e:n.kids[i]? with
 | none=>exact⟨aas _,aas _,(fun _=>rfl),aas _,(fun k hk=>by cases hk),(fun y hy=>by cases hy)⟩
 | some x=>exact h.2.2.2.2.2 x (ae7 e)
theorem aDd{d:Nat}{n:Node}(h:W (d+2) n)(k:anP)(hk:aD n k=true):W (d+1) (aJ n k):=h.2.2.2.2.2 _ (xZ hk)
theorem aDe{d:Nat}{n:Node}(h:W (d+1) n):fit n=true:=Pf (apM h) (by omega)
theorem W_G{d:Nat}{n:Node}(h:W d n):G d n:=apM h
theorem Ze{d:Nat}{n:Node}(k:Nat)(h:G d n):G (d+k) n:=wo k h
def Fm(n:Node):Prop:=(n.kind=0\/n.kind=3)/\n.keys.length=n.kids.length/\∀y∈n.kids,G 500 y
theorem iM:Fm ⟨0,[],[],[]⟩:=⟨.inl rfl,rfl,fun y h=>by cases h⟩
theorem je{n:Node}(h:Fm n)(hl:n.kids.length<=1000):fit n=true:=by refine rV.2 ⟨⟨by have:=h.2.1;omega,by omega⟩,fun _=>h.2.1⟩
theorem ayY{n:Node}{k:anP}{v:Node}(h:Fm n)(hl:n.kids.length<=1000):fU n k v=true:=by refine rV.2 ⟨⟨by have:=h.2.1;show n.keys.length<=_;omega,by show n.kids.length<=_;omega⟩,fun _=>h.2.1⟩
theorem mem_set{l:List Node}{i:Nat}{v y:Node}(h:y∈l.set i v):y∈l\/y=v:=List.mem_or_eq_of_mem_set h
theorem ayZ{n:Node}{k:anP}{v:Node}(h:Fm n)(hv:G 500 v):Fm (bf n k v)/\(bf n k v).kids.length<=n.kids.length+1/\(bf n k v).kind=3:=by
 obtain⟨h1,h2,h3⟩:=h;unfold bf;rw[show(bif n.kind != 3 then n.kind != 0 else false)=false by rcases h1 with h1 | h1<;>rw[h1]<;>rfl,cond_false];cases decide (0<=index n.keys k)with
 | true =>
  rw[cond_true];refine⟨⟨.inr rfl,by simp[h2],fun y hy=>?_⟩,by simp,rfl⟩;rcases mem_set hy with hy | rfl
  ·exact h3 y hy
  ·exact hv
 | false =>
  rw[cond_false];refine⟨⟨.inr rfl,by simp[h2],fun y hy=>?_⟩,by simp,rfl⟩;rcases List.mem_append.1 hy with hy | hy
  ·exact h3 y hy
  ·rw[List.mem_singleton.1 hy];exact hv
theorem aFC{n:Node}(h:Fm n)(hl:n.kids.length<=1000):G 501 ⟨3,n.text,n.keys,n.kids⟩:=eZ.2 ⟨by have:=h.2.1;show n.keys.length<=_;omega,hl,fun _=>h.2.1,h.2.2⟩
theorem U1:∀(m d:Nat) (x:Node),G d x->G d (dR m x)
 | 0,_,_,h=>h
 | m+1,0,_,h=>by cases h
 | m+1,d+1,x,h=>by
  have hx:=eZ.1 h;unfold dR;cases(x.kids.length:Int)==0 with
  | true=>exact h
  | false =>
   rw[cond_false];cases hk:x.kind != 3 with
   | true =>rw[cond_true];refine eZ.2 ⟨aas _,by simpa using hx.2.1,fun e=>by simp[show x.kind=3 from e]at hk,fun y hy=>?_⟩;obtain⟨z,hz,rfl⟩:=List.mem_map.1 hy;exact U1 m d z (hx.2.2.2 z hz)
   | false =>
    rw[cond_false];have hl:=Pl.uK x.keys;refine eZ.2 ⟨by show(Pl.bn x.keys).length<=_;omega,by show((Pl.bn x.keys).map _).length<=_;rw[List.length_map];omega,fun _=>by simp,fun y hy=>?_⟩;obtain⟨k,hk',rfl⟩:=List.mem_map.1 hy;have h3:x.kind=3:=by simpa using hk
    exact U1 m d _ (Uy h (Ux h h3 (Pl.kE.1 hk')))
theorem avx{x:Node}(h:G 600 x):wg 10000 1000 x=true:=wo (n:=600) 400 (apz (by omega) h)
theorem U2(d:Nat):G (d+1) ⟨0,[],[],[]⟩:=eZ.2 ⟨aas _,aas _,(fun h=>by cases h),(fun y hy=>by cases hy)⟩
theorem apN(d:Nat)(k:Int)(s:anP)(h:k≠3):G (d+1) ⟨k,s,[],[]⟩:=eZ.2 ⟨aas _,aas _,(fun e=>absurd e h),(fun y hy=>by cases hy)⟩
theorem nL:G 500 ⟨0,[],[],[]⟩:=U2 499
theorem kS:G 501 ⟨0,[],[],[]⟩:=U2 500
theorem mQ(s:anP):G 500 (dz s):=apN 499 1 s (by decide)
theorem nM(s:anP):G 501 (dz s):=apN 500 1 s (by decide)
def W2(n:Node):Prop:=W 492 n
def W1(n:Node):Prop:=W 491 n
def W0(n:Node):Prop:=W 490 n
theorem lg{n:Node}(h:W2 n):n.keys.length<=300/\n.kids.length<=300/\(n.kind=3->n.keys.length=n.kids.length)/\n.text.length<=30000/\TL n.keys:=W_z (d:=491) h
theorem nN{n:Node}(h:W1 n):n.keys.length<=300/\n.kids.length<=300/\(n.kind=3->n.keys.length=n.kids.length)/\n.text.length<=30000/\TL n.keys:=W_z (d:=490) h
theorem oo{n:Node}(h:W2 n)(i:Nat):W1 (n.kids.getD i (Df.d:Node)):=W_d (d:=490) h i
theorem oq{n:Node}(h:W2 n)(i:Nat):W1 (n.kids.getD i (dflt Ty.ah:Node)):=W_d (d:=490) h i
theorem aBj{n:Node}(h:W2 n)(k:anP)(hk:aD n k=true):W1 (aJ n k):=aDd (d:=490) h k hk
theorem kI{n:Node}(h:W2 n):G 501 n:=wo (n:=492) 9 (W_G h)
theorem lq{n:Node}(h:W1 n):W2 n:=ac1 (n:=491) 1 h
theorem aFD{n:Node}(h:W2 n)(h0:n.kind=0):W2 ⟨3,n.text,n.keys,n.kids⟩:=W_k (d:=491) h h0
theorem abe{n:Node}(h:W2 n):fit n=true:=aDe (d:=491) h
theorem ou{n:Node}(h:W1 n):G 500 n:=wo (n:=491) 9 (W_G h)
theorem X3:Z eD fun r=>r.1=⟨0,[],[],[]⟩:=by refine bZ rfl ?_;simp only[bB,II]
theorem dW(f:form)(b:Bool):Z (bY f b) fun r=>r.1.n=f.n:=by refine bZ rfl ?_;simp only[bB,yc]
theorem dM(f:form)(k:anP)(v:Node)(h:Fm f.n/\f.n.kids.length<=900/\G 500 v):Z (cB f k v) fun r=>Fm r.1.n/\r.1.n.kids.length<=f.n.kids.length+1:=by refine bZ rfl ?_;simp only[bB,zX];have:=ayZ (k:=k) h.1 h.2.2;exact⟨ayY h.1 (by omega),this.1,this.2.1⟩
theorem dI(f:form)(h:Fm f.n/\f.n.kids.length<=900):Z (dD f) fun r=>G 501 r.2.1:=by refine bZ rfl ?_;simp only[bB,yg];have h1:=X3;have h2:=U2 500;have h3:=aFC h.1 (by omega);have h4:=U1 1000 501 _ h3;have h5:=avx (Ze (d:=501) 99 h3);grind
theorem jl(f:field)(k o:anP)(h:W2 f.n/\o.length<=30000):Z (aW f k o) fun r=>r.1.n=f.n/\r.2.length<=30000:=by refine bZ rfl ?_;simp only[bB,vS];have h1:=abe h.1;have h2:=aBj h.1 k;have h3:=@nN (aJ f.n k);grind
theorem AL(f:field)(k:anP)(o:Bool)(h:W2 f.n):Z (fq f k o) fun r=>r.1.n=f.n:=by refine bZ rfl ?_;simp only[bB,uL];grind[jl]
theorem U3(f:field)(k:anP)(h:W2 f.n):Z (kG f k) fun r=>r.1.n=f.n:=by refine bZ rfl ?_;simp only[bB,qo];have h1:=abe h;grind[jl,og]
attribute [irreducible] TL Fm G W W0 W1 W2
end
section
theorem bL:eD.isSome=true/\(gv eD).1=⟨0,[],[],[]⟩:=X3
theorem LC(x0:Node)(hp:W2 x0):Z (nD x0) fun r=>G 501 r.1:=by
 refine bZ rfl ?_;simp only[bB,nC]
 all_goals grind[afN,bL,kI,U2]
theorem Eu(x0 x1:anP):Z (jG x0 x1) fun r=>r.1.length<=x0.length:=by
 refine bZ rfl ?_;simp only[bB,jF,cut,aeb,abP];have:=mo x0 x1;have h2:x1.isPrefixOf x0=true->x1.length<=x0.length:=fun h=>(List.isPrefixOf_iff_prefix.1 h).length_le
 grind
theorem jM(x0:Node)(hp:W2 x0):Z (nE x0) fun r=>TL r.1/\r.1.length<=x0.kids.length:=by
 refine jy rfl (fun | .e y0=>y0=x0 | .h0 v0 v1 v2 v3 v4=>0<=v3/\v3<=v2/\v2=(v1.length:Int)/\v1.length<=400/\v1=x0.kids/\v2=(x0.kids.length:Int)/\v4=x0/\TL v0/\(v0.length:Int)<=v3) (fun | .e _=>10000000000 | .h0 v0 v1 v2 v3 v4=>(v2-v3).toNat) rfl (by show 10000000000<_;omega) ?_;rintro(y0 | ⟨v0,v1,v2,v3,v4⟩) hs
 ·cases hs;simp only[bB,wz]
  (repeat' (first | (intro _) | (apply And.intro)))<;>grind[dx,aB,aA,jc,jd,kZ,om, -> lg,oo,oq, -> nN,ou,lq,kI,iM,je,nL,kS,mQ,nM,iK,iL,bL,dZ]
 ·dsimp only at hs;simp only[bB,wz];have:=@dx (v3+1)
  (repeat' (first | (intro _) | (apply And.intro)))<;>grind[dx,aB,aA,jc,jd,kZ,om, -> lg,oo,oq, -> nN,ou,lq,kI,iM,je,nL,kS,mQ,nM,iK,iL,bL,dZ]
theorem alo(x0:Node)(hp:W2 x0):Z (zi x0) fun r=>G 501 r.1:=by
 refine bZ rfl ?_;simp only[bB,IJ]
 all_goals grind[dx,aB,aA,jc,jd,kZ,om, -> lg,oo,oq, -> nN,ou,lq,kI,iM,je,nL,kS,mQ,nM,iK,iL,bL,LC]
theorem Tv(x0 x1:anP):Z (tF x0 x1) fun r=>r.1.length<=x0.length:=by
 refine bZ rfl ?_;simp only[bB,tC]
 all_goals grind[dx,aB,aA,jc,jd,kZ,om, -> lg,oo,oq, -> nN,ou,lq,kI,iM,je,nL,kS,mQ,nM,iK,iL,bL,Eu]
theorem Zf(x0:anP)(hp:x0.length<=100000):Z (yj x0) fun _=>True:=by
 refine bZ rfl ?_;simp only[bB,yh]
 (repeat' (first | (intro _) | (apply And.intro)))<;>grind[dx,aB,aA,jc,jd,kZ,om, -> lg,oo,oq, -> nN,ou,lq,kI,iM,je,nL,kS,mQ,nM,iK,iL,bL,og,Tv]
theorem Jy(x0:Node)(hp:W2 x0):Z (lD x0) fun r=>G 501 r.1:=by
 refine bZ rfl ?_;simp only[bB,lC]
 all_goals grind[dx,aB,aA,jc,jd,kZ,om, -> lg,oo,oq, -> nN,ou,lq,kI,iM,je,nL,kS,mQ,nM,iK,iL,bL,Zf]
theorem ac2(x0:Node)(hp:W2 x0):Z (rY x0) fun r=>G 501 r.1:=by
 refine bZ rfl ?_;simp only[bB,BI]
 all_goals grind[dx,aB,aA,jc,jd,kZ,om, -> lg,oo,oq, -> nN,ou,lq,kI,iM,je,nL,kS,mQ,nM,iK,iL,bL,Jy]
theorem ac3(x0:anP)(hp:x0.length<=100000):Z (BK x0) fun _=>True:=by
 refine bZ rfl ?_;simp only[bB,BJ]
 all_goals grind[dx,aB,aA,jc,jd,kZ,om, -> lg,oo,oq, -> nN,ou,lq,kI,iM,je,nL,kS,mQ,nM,iK,iL,bL,og]
theorem KJ(x0:Node)(hp:W2 x0):Z (mJ x0) fun r=>G 501 r.1:=by
 refine bZ rfl ?_;simp only[bB,mI]
 all_goals grind[dx,aB,aA,jc,jd,kZ,om, -> lg,oo,oq, -> nN,ou,lq,kI,iM,je,nL,kS,mQ,nM,iK,iL,bL,ac3]
theorem aiN(x0:Node)(hp:W2 x0):Z (wJ x0) fun r=>G 501 r.1:=by
 refine bZ rfl ?_;simp only[bB,Gf]
 all_goals grind[dx,aB,aA,jc,jd,kZ,om, -> lg,oo,oq, -> nN,ou,lq,kI,iM,je,nL,kS,mQ,nM,iK,iL,bL,KJ]
theorem abf(x0:Node)(hp:W2 x0):Z (nH x0) fun r=>G 501 r.1:=by
 refine jy rfl (fun | .e y0=>y0=x0 | .h0 v0 v1 v2 v3 v4 v5 v6 v7=>0<=v4/\v4<=v3/\v3=(v2.length:Int)/\v2.length<=400/\v0=x0.keys/\v1=true/\v2=x0.kids/\v3=(x0.kids.length:Int)/\v5=(0:Int)/\v6=([]:anP)/\Fm v7.n/\v7.n.kids.length=0 | .h1 v0 v1 v2 v3 v4 v5=>0<=v2/\v2<=v1/\v1=(v0.length:Int)/\v0.length<=400/\TL v0/\Fm v5.n/\(v5.n.kids.length:Int)<=v2) (fun | .e _=>10000000000 | .h0 v0 v1 v2 v3 v4 v5 v6 v7=>20000000+(v3-v4).toNat | .h1 v0 v1 v2 v3 v4 v5=>10000000+(v1-v2).toNat) rfl (by show 10000000000<_;omega) ?_;rintro(y0 | ⟨v0,v1,v2,v3,v4,v5,v6,v7⟩ | ⟨v0,v1,v2,v3,v4,v5⟩) hs
 ·cases hs;simp only[bB,uM]
  (repeat' (first | (intro _) | (apply And.intro)))<;>grind[dx,aB,aA,jc,jd,kZ,om, -> lg,oo,oq, -> nN,ou,lq,kI,iM,je,nL,kS,mQ,nM,iK,iL,bL,gL,dI,dW,dM,dZ,jM]
 ·dsimp only at hs;simp only[bB,uM];have:=@dx (v4+1)
  (repeat' (first | (intro _) | (apply And.intro)))<;>grind[dx,aB,aA,jc,jd,kZ,om, -> lg,oo,oq, -> nN,ou,lq,kI,iM,je,nL,kS,mQ,nM,iK,iL,bL,gL,dI,dW,dM,dZ,jM]
 ·dsimp only at hs;simp only[bB,uM];have:=@dx (v2+1)
  (repeat' (first | (intro _) | (apply And.intro)))<;>grind[dx,aB,aA,jc,jd,kZ,om, -> lg,oo,oq, -> nN,ou,lq,kI,iM,je,nL,kS,mQ,nM,iK,iL,bL,gL,dI,dW,dM,dZ,jM]
set_option maxHeartbeats 2000000 in
theorem aiO(x0:Node)(x1:Bool)(hp:W2 x0):Z (wF x0 x1) fun r=>G 501 r.1:=by
 refine jy rfl (fun | .e y0 y1=>y0=x0/\y1=x1 | .Ri v0 v1 v2 v3 v4 v5=>0<=v2/\v2<=v1/\v1=(v0.length:Int)/\v0.length<=400/\v3=(0:Int)/\v4=([]:anP)/\TL v0/\Fm v5.n/\(v5.n.kids.length:Int)<=v2 | .Rj v0 v1 v2 v3 v4 v5=>0<=v2/\v2<=v1/\v1=(v0.length:Int)/\v0.length<=400/\v3=(0:Int)/\v4=([]:anP)/\TL v0/\Fm v5.n/\(v5.n.kids.length:Int)<=v2 | .Rk v0 v1 v2 v3 v4 v5 v6=>0<=v2/\v2<=v1/\v1=(v0.length:Int)/\v0.length<=400/\v0=x0.keys/\v1=(x0.keys.length:Int)/\v3=x0/\v4=(0:Int)/\v5=([]:anP)/\x0.kind=3/\Fm v6.n/\(v6.n.kids.length:Int)<=v2 | .Rl v0 v1 v2 v3 v4 v5 v6=>0<=v2/\v2<=v1/\v1=(v0.length:Int)/\v0.length<=400/\v0=x0.keys/\v1=(x0.keys.length:Int)/\v3=x0/\v4=(0:Int)/\v5=([]:anP)/\x0.kind=3/\Fm v6.n/\(v6.n.kids.length:Int)<=v2) (fun | .e _ _=>10000000000 | .Ri v0 v1 v2 v3 v4 v5=>40000000+(v1-v2).toNat | .Rj v0 v1 v2 v3 v4 v5=>30000000+(v1-v2).toNat | .Rk v0 v1 v2 v3 v4 v5 v6=>20000000+(v1-v2).toNat | .Rl v0 v1 v2 v3 v4 v5 v6=>10000000+(v1-v2).toNat) ⟨rfl,rfl⟩ (by show 10000000000<_;omega) ?_;rintro(⟨y0,y1⟩ | ⟨v0,v1,v2,v3,v4,v5⟩ | ⟨v0,v1,v2,v3,v4,v5⟩ | ⟨v0,v1,v2,v3,v4,v5,v6⟩ | ⟨v0,v1,v2,v3,v4,v5,v6⟩) hs
 ·obtain⟨rfl,rfl⟩:=hs;simp only[bB,lG]
  (repeat' (first | (intro _) | (apply And.intro)))<;>grind[dx,aB,aA,jc,jd,kZ,om, -> lg,oo,oq, -> nN,ou,lq,kI,iM,je,nL,kS,mQ,nM,iK,iL,bL,gL,uN,dI,dW,dM,dZ,jM]
 ·dsimp only at hs;simp only[bB,lG];have:=@dx (v2+1)
  (repeat' (first | (intro _) | (apply And.intro)))<;>grind[dx,aB,aA,jc,jd,kZ,om, -> lg,oo,oq, -> nN,ou,lq,kI,iM,je,nL,kS,mQ,nM,iK,iL,bL,gL,uN,dI,dW,dM,dZ,jM]
 ·dsimp only at hs;simp only[bB,lG];have:=@dx (v2+1)
  (repeat' (first | (intro _) | (apply And.intro)))<;>grind[dx,aB,aA,jc,jd,kZ,om, -> lg,oo,oq, -> nN,ou,lq,kI,iM,je,nL,kS,mQ,nM,iK,iL,bL,gL,uN,dI,dW,dM,dZ,jM]
 ·dsimp only at hs;simp only[bB,lG];have:=@dx (v2+1)
  (repeat' (first | (intro _) | (apply And.intro)))<;>grind[dx,aB,aA,jc,jd,kZ,om, -> lg,oo,oq, -> nN,ou,lq,kI,iM,je,nL,kS,mQ,nM,iK,iL,bL,gL,uN,dI,dW,dM,dZ,jM]
 ·dsimp only at hs;simp only[bB,lG];have:=@dx (v2+1)
  (repeat' (first | (intro _) | (apply And.intro)))<;>grind[dx,aB,aA,jc,jd,kZ,om, -> lg,oo,oq, -> nN,ou,lq,kI,iM,je,nL,kS,mQ,nM,iK,iL,bL,gL,uN,dI,dW,dM,dZ,jM]
end
section
theorem Nk{α:Type}(l:List α)(a b:Int)(h:0<=a/\a<=b/\b<=l.length):(cut l a b).length=(b-a).toNat:=by unfold cut;rw[aeb,abP];omega
theorem aw0:∀(s:anP) (c:UInt8),Lib.indexByte s c<s.length /\ -1<=Lib.indexByte s c
 | [],c=>by simp[Lib.indexByte]
 | b::t,c=>by
  have:=aw0 t c;unfold Lib.indexByte;simp only[List.length_cons];split
  ·omega
  ·split
   ·omega
   ·omega
theorem aBk(s:anP)(c:Int):HY s c<s.length /\ -1<=HY s c:=aw0 s _
set_option maxHeartbeats 4000000 in
theorem aiP(x0:anP)(hp:x0.length<=1000000):Z (F8 x0) fun r=>r.2=0->r.1.length<=32:=by
 refine jy rfl (fun | .e y0=>y0=x0 | .Y0 v0 v1 v2=>v0.length<=2000000 | .wD v0 v1 v2 v3 v4=>v0=x0/\0<=v3/\v3<=x0.length/\(v1.length:Int)<=v3/\(v2.length:Int)<=v3 | .Rh v0 v1 v2 v3 v4=>v0=x0/\0<=v3/\v3<=x0.length/\(v1.length:Int)<=v3/\(v2.length:Int)<=v3 | .JV v0 v1 v2 v3 v4=>v0=x0/\0<=v3/\v3<=x0.length/\(v1.length:Int)<=v3/\(v2.length:Int)<=v3)
  (fun | .e _=>10000000000 | .Y0 v0 v1 v2=>0 | .wD v0 v1 v2 v3 v4=>((x0.length:Int)-v3).toNat+1 | .Rh v0 v1 v2 v3 v4=>((x0.length:Int)-v3).toNat+1 | .JV v0 v1 v2 v3 v4=>((x0.length:Int)-v3).toNat+1) rfl (by show 10000000000<_;omega) ?_
 rintro(y0 | ⟨v0,v1,v2⟩ | ⟨v0,v1,v2,v3,v4⟩ | ⟨v0,v1,v2,v3,v4⟩ | ⟨v0,v1,v2,v3,v4⟩) hs
 ·cases hs;simp only[bB,gV,aB,List.length_cons,List.length_nil]
  (repeat' (first | (intro _) | (apply And.intro)))<;>grind[U0]
 ·dsimp only at hs;simp only[bB,gV,aB,List.length_append,List.length_cons,List.length_nil]
  (repeat' (first | (intro _) | (apply And.intro)))<;>grind
 ·obtain⟨rfl,h1,h2,h3,h4⟩:=hs;simp only[bB,gV,aB,List.length_append,List.length_cons,List.length_nil]
  (repeat' (first | (intro _) | (apply And.intro)))<;>grind[dx,U0]
 ·obtain⟨rfl,h1,h2,h3,h4⟩:=hs;simp only[bB,gV,aB,List.length_append,List.length_nil,List.length_map];have q1:=aBk (cut v0 v3 (v0.length:Int)) 39;rw[Nk v0 v3 (v0.length:Int) ⟨h1,h2,amw _⟩]at q1;generalize HY (cut v0 v3 (v0.length:Int)) 39=k at q1 ⊢;have q2:=Nk v0 v3 (au (v3+k))
  (repeat' (first | (intro _) | (apply And.intro)))<;>grind[dx]
 ·obtain⟨rfl,h1,h2,h3,h4⟩:=hs;simp only[bB,gV,aB,List.length_append,List.length_cons,List.length_nil]
  (repeat' (first | (intro _) | (apply And.intro)))<;>grind[dx]
theorem NS(x0:Node)(hp:W2 x0):Z (IL x0) fun r=>r.1.host.length<=30000:=by
 refine bZ rfl ?_;simp only[bB,IK]
 (repeat' (first | (intro _) | (apply And.intro)))<;>grind[dx,aB,aA,jc,jd,kZ,om, -> lg,oo,oq, -> nN,ou,lq,kI,iM,je,nL,kS,mQ,nM,iK,iL,bL,U3,jl,LB]
set_option maxHeartbeats 2000000 in
theorem aiQ(x0:Node)(hp:W2 x0):Z (sJ x0) fun r=>G 501 r.1:=by
 refine jy rfl (fun | .e y0=>y0=x0 | .h0 v0 v1 v2 v3 v4 v5=>0<=v2/\v2<=v1/\v0=x0.kids/\v1=(x0.kids.length:Int)/\v3=(0:Int)/\v4=([]:anP)/\Fm v5.n/\(v5.n.kids.length:Int)<=v2 | .h1 v0 v1 v2 v3 v4 v5 v6=>0<=v2/\v2<=v1/\v1=(v0.length:Int)/\v0.length<=400/\v0=x0.keys/\v1=(x0.keys.length:Int)/\v3=x0/\v4=(0:Int)/\v5=([]:anP)/\x0.kind=3/\Fm v6.n/\(v6.n.kids.length:Int)<=v2) (fun | .e _=>10000000000 | .h0 v0 v1 v2 v3 v4 v5=>20000000+(v1-v2).toNat | .h1 v0 v1 v2 v3 v4 v5 v6=>10000000+(v1-v2).toNat) rfl (by show 10000000000<_;omega) ?_;rintro(y0 | ⟨v0,v1,v2,v3,v4,v5⟩ | ⟨v0,v1,v2,v3,v4,v5,v6⟩) hs
 ·cases hs;simp only[bB,qw]
  (repeat' (first | (intro _) | (apply And.intro)))<;>grind[dx,aB,aA,jc,jd,kZ,om, -> lg,oo,oq, -> nN,ou,lq,kI,iM,je,nL,kS,mQ,nM,iK,iL,bL,dI,dW,dM,NS,dZ,zw,AA,NR]
 ·dsimp only at hs;simp only[bB,qw];have:=@dx (v2+1)
  (repeat' (first | (intro _) | (apply And.intro)))<;>grind[dx,aB,aA,jc,jd,kZ,om, -> lg,oo,oq, -> nN,ou,lq,kI,iM,je,nL,kS,mQ,nM,iK,iL,bL,dI,dW,dM,NS,dZ,zw,AA,NR]
 ·dsimp only at hs;simp only[bB,qw];have:=@dx (v2+1)
  (repeat' (first | (intro _) | (apply And.intro)))<;>grind[dx,aB,aA,jc,jd,kZ,om, -> lg,oo,oq, -> nN,ou,lq,kI,iM,je,nL,kS,mQ,nM,iK,iL,bL,dI,dW,dM,NS,dZ,zw,AA,NR]
theorem alp(x0:Bool):Z (lH x0) fun r=>G 500 r:=by
 refine bZ rfl ?_;simp only[bB,IU]
 all_goals grind[dx,aB,aA,jc,jd,kZ,om, -> lg,oo,oq, -> nN,ou,lq,kI,iM,je,nL,kS,mQ,nM,iK,iL,bL]
end
section
def R2(l:List Node):Prop:=∀y∈l,G 1 y
theorem aBl:R2 []:=fun y h=>by cases h
theorem aBm{l:List Node}(h:R2 l)(s:anP):R2 (l++[dz s]):=fun x hx=>by
 rcases List.mem_append.1 hx with hx | hx
 ·exact h x hx
 ·rw[List.mem_singleton.1 hx];exact apN 0 1 s (by decide)
theorem aFE{l:List Node}(h:R2 l)(hl:l.length<=400):G 501 ⟨2,[],[],l⟩:=by
 have:G 2 ⟨2,[],[],l⟩:=by unfold G;exact eZ.2 ⟨aas _,by show l.length<=1000;omega,(fun e=>by cases e),fun y hy=>by have:=h y hy;unfold G at this;exact this⟩
 unfold G at this ⊢;exact wo (n:=2) 499 this
attribute [irreducible] R2
theorem apO(x0:List (anP))(hp:x0.length<=400):Z (F9 x0) fun r=>G 501 r:=by
 refine jy rfl (fun | .e y0=>y0=x0 | .h0 v0 v1 v2 v3 v4 v5 v6 v7=>0<=v2/\v2<=v1/\v1=(v0.length:Int)/\v0.length<=400/\v5=(2:Int)/\v6=([]:anP)/\R2 v7/\(v7.length:Int)<=v2) (fun | .e _=>10000000000 | .h0 v0 v1 v2 v3 v4 v5 v6 v7=>(v1-v2).toNat) rfl (by show 10000000000<_;omega) ?_;rintro(y0 | ⟨v0,v1,v2,v3,v4,v5,v6,v7⟩) hs
 ·cases hs;simp only[bB,Bz]
  (repeat' (first|intro _|apply And.intro))<;>grind[aBl]
 ·dsimp only at hs;simp only[bB,Bz,aB]
  (repeat' (first|intro _|apply And.intro))<;>grind[aBm,aFE,dx]
theorem aiR(x0:Node)(hp:W2 x0):Z (wE x0) fun r=>G 501 r.1:=by
 refine bZ rfl ?_;simp only[bB,Ga];have h0:=lg hp
 (repeat' (first|intro _|apply And.intro))<;>grind[bL,apO,jM,aiP,kS]
theorem afP(x0:anP)(hp:x0.length<=1000000):Z (DX x0) fun r=>r.1.length<=x0.length/\r.2.1.length<=x0.length:=by
 refine jy rfl (fun | .e y0=>y0=x0 | .h0 v0 v1 v2=>v0=x0/\0<=v2/\v2<=v1/\v1=(x0.length:Int)) (fun | .e _=>10000000000 | .h0 v0 v1 v2=>(v1-v2).toNat) rfl (by show 10000000000<_;omega) ?_;rintro(y0 | ⟨v0,v1,v2⟩) hs
 ·cases hs;simp only[bB,um]
  (repeat' (first|intro _|apply And.intro))<;>grind
 ·obtain⟨rfl,h1,h2,h3⟩:=hs;simp only[bB,um,cut,aeb,abP,List.length_nil]
  (repeat' (first|intro _|apply And.intro))<;>grind[dx]
theorem afQ(x0:anP)(hp:x0.length<=1000000):Z (DY x0) fun _=>True:=by
 refine jy rfl (fun | .e y0=>y0=x0 | .h0 v0 v1 v2 v3=>v0.length<=1000000/\0<=v3/\v3<=3) (fun | .e _=>10000000000 | .h0 v0 v1 v2 v3=>(3-v3).toNat) rfl (by show 10000000000<_;omega) ?_;rintro(y0 | ⟨v0,v1,v2,v3⟩) hs
 ·cases hs;simp only[bB,uo]
  (repeat' (first|intro _|apply And.intro))<;>grind[afP,dx]
 ·dsimp only at hs;simp only[bB,uo]
  (repeat' (first|intro _|apply And.intro))<;>grind[SC,dx]
theorem afR(x0:anP)(hp:x0.length<=100000):Z (D5 x0) fun _=>True:=by
 refine bZ rfl ?_;simp only[bB,DZ]
 (repeat' (first|intro _|apply And.intro))<;>grind[afQ]
theorem LD(x0:Node)(hp:W2 x0):Z (nJ x0) fun r=>G 501 r.1:=by
 refine bZ rfl ?_;simp only[bB,nI];have h0:=lg hp
 (repeat' (first|intro _|apply And.intro))<;>grind[afR,bL,kI,kS]
theorem alq(x0:Node)(hp:W2 x0):Z (zu x0) fun r=>G 501 r.1:=by
 refine bZ rfl ?_;simp only[bB,I5]
 (repeat' (first|intro _|apply And.intro))<;>grind[LD]
theorem alr(x0:anP):Z (CU x0) fun r=>0<=r.1/\r.1<=3:=by
 refine bZ rfl ?_;simp only[bB,I6]
 (repeat' (first|intro _|apply And.intro))<;>grind
theorem aiS(x0:anP)(hp:x0.length<=1000000):Z (Gg x0) fun _=>True:=by
 refine jy rfl (fun | .e y0=>y0=x0 | .h0 v0 v1=>v0=x0/\0<=v1/\v1<=(x0.length:Int)) (fun | .e _=>10000000000 | .h0 v0 v1=>v1.toNat) rfl (by show 10000000000<_;omega) ?_;rintro(y0 | ⟨v0,v1⟩) hs
 ·cases hs;simp only[bB,wL]
  (repeat' (first|intro _|apply And.intro))<;>grind
 ·obtain⟨rfl,h1,h2⟩:=hs;simp only[bB,wL];have h3:=alr (cut v0 v1 (v0.length:Int));have h4:=@og (cut v0 0 v1);have h5:=Nk v0 0 v1;have h6:=@dx (v1-1);have h7:=@dx (10*(gv (CU (cut v0 v1 (v0.length:Int)))).1)
  (repeat' (first|intro _|apply And.intro))<;>grind
theorem aiT(x0:Int):Z (nK x0) fun r=>0<=r/\r<=3:=by
 refine jy rfl (fun | .e y0=>y0=x0 | .h0 v0 v1=>0<=v1/\v1<=3) (fun | .e _=>10000000000 | .h0 v0 v1=>(3-v1).toNat) rfl (by show 10000000000<_;omega) ?_;rintro(y0 | ⟨v0,v1⟩) hs
 ·cases hs;simp only[bB,Ay]
  (repeat' (first|intro _|apply And.intro))<;>grind
 ·dsimp only at hs;simp only[bB,Ay]
  (repeat' (first|intro _|apply And.intro))<;>grind[dx]
end
section
theorem aDf(x:Int)(k:Nat)(h:0<=x):0<=x / 2 ^ k/\x / 2 ^ k<=x:=by have hp:(0:Int)<2 ^ k:=Int.pow_pos (by decide);exact⟨Int.ediv_nonneg h (by omega),Int.ediv_le_self _ h⟩
theorem als(x0:Int):Z (I8 x0) fun r=>r.length<=200:=by
 refine bZ rfl ?_;simp only[bB,I7,aA,List.length_append];have h1:=aiT x0;have h2:=@dx (10*gv (nK x0));have h3:=fun h=>aDf x0 (au (10*gv (nK x0))).toNat h
 have h4:=AJ (x0 / 2 ^ (au (10*gv (nK x0))).toNat);have h5:∀i,((([[],[107],[109],[103]]:List (anP))).getD i (dflt Ty.str)).length<=1:=fun i=>by
  match i with
  | 0=>decide
  | 1=>decide
  | 2=>decide
  | 3=>decide
  | n+4=>exact aas _
 have h6:=h5 (gv (nK x0)).toNat;generalize (([[],[107],[109],[103]]:List (anP))).getD (gv (nK x0)).toNat (dflt Ty.str)=q at h6 ⊢
 (repeat' (first|intro _|apply And.intro))<;>grind
theorem aiU(x0:Node)(hp:W2 x0):Z (wM x0) fun r=>G 501 r.1:=by
 refine bZ rfl ?_;simp only[bB,Gi];have h0:=lg hp
 (repeat' (first|intro _|apply And.intro))<;>grind[aiS,als,bL,kS,nM]
theorem aDg(s:anP)(h:s.length<=1000000):okT s=true:=by
 have:=LA s h;unfold okT;rw[this.1,decide_eq_true h,aeP,aeP,amy];cases h1:gv (iR s)with
 | true=>exact .inr (decide_eq_true (this.2 h1))
 | false=>exact .inl rfl
theorem Ea(x0:fZ)(hp:x0.source.length<=1000000/\x0.target.length<=1000000):Z (gB x0) fun _=>True:=by
 refine bZ rfl ?_;simp only[bB,D6];have h1:=aDg x0.target hp.2;have h2:=LA x0.source hp.1
 (repeat' (first|intro _|apply And.intro))<;>grind[acZ]
theorem LG(x0:Node)(hp:W2 x0):Z (Gl x0) fun r=>r.1.source.length<=30000/\r.1.target.length<=30000:=by
 refine bZ rfl ?_;simp only[bB,Gj]
 (repeat' (first|intro _|apply And.intro))<;>grind[jl,AL,Ea]
theorem LH(x0:fZ)(hp:x0.source.length<=1000000/\x0.target.length<=1000000):Z (wN x0) fun _=>True:=by
 refine bZ rfl ?_;simp only[bB,Gm,aA,List.length_append,List.length_cons,List.length_nil]
 (repeat' (first|intro _|apply And.intro))<;>grind[Ea]
theorem afS(b:Bool):(gB ⟨[],[],b⟩).isSome=true:=(Ea ⟨[],[],b⟩ ⟨aas _,aas _⟩).1
theorem aDh(l:List (anP))(a b:Int)(i n:Nat)(h:∀j,(l.getD j (Df.d:anP)).length<=n):((cut l a b).getD i (Df.d:anP)).length<=n:=by
 have hm:∀x∈l,x.length<=n:=fun x hx=>by obtain⟨j,hj,rfl⟩:=List.mem_iff_getElem.1 hx;have:=h j;rwa[List.getD,aac hj]at this
 rw[List.getD];cases e:(cut l a b)[i]? with
 | none=>exact aas _
 | some x=>exact hm x (List.mem_of_mem_drop (amF (ae7 e)))
theorem avy(s:anP)(c:UInt8)(a b x y:Int)(i:Nat):((cut (eT s [c] a b) x y).getD i (Df.d:anP)).length<=s.length:=aDh _ x y i _ fun j=>Rn s c a b j
set_option maxHeartbeats 2000000 in
theorem JW(x0:anP)(hp:x0.length<=1000000):Z (yQ x0) fun r=>r.1.source.length<=x0.length/\r.1.target.length<=x0.length:=by
 refine bZ rfl ?_;simp only[bB,D7];have h1:=D9 x0 58 0 (-1);have h2:=Nk (eT x0 [58] 0 (-1)) 0 (au (((eT x0 [58] 0 (-1)).length:Int)-1));have h3:=@dx (((eT x0 [58] 0 (-1)).length:Int)-1)
 (repeat' (first|intro _|apply And.intro))<;>grind[Rn,WS,avy,Ea,afS]
set_option maxHeartbeats 2000000 in
theorem afT(x0:Node)(hp:W2 x0):Z (uq x0) fun r=>G 501 r.1:=by
 refine jy rfl (fun | .e y0=>y0=x0 | .h0 v0 v1 v2 v3 v4 v5=>0<=v2/\v2<=v1/\v0=x0.kids/\v1=(x0.kids.length:Int)/\v3=(0:Int)/\v4=([]:anP)/\Fm v5.n/\(v5.n.kids.length:Int)<=v2 | .h1 v0 v1 v2 v3 v4 v5 v6=>0<=v2/\v2<=v1/\v1=(v0.length:Int)/\v0.length<=400/\v0=x0.keys/\v1=(x0.keys.length:Int)/\v3=x0/\v4=(0:Int)/\v5=([]:anP)/\x0.kind=3/\Fm v6.n/\(v6.n.kids.length:Int)<=v2) (fun | .e _=>10000000000 | .h0 v0 v1 v2 v3 v4 v5=>20000000+(v1-v2).toNat | .h1 v0 v1 v2 v3 v4 v5 v6=>10000000+(v1-v2).toNat) rfl (by show 10000000000<_;omega) ?_;rintro(y0 | ⟨v0,v1,v2,v3,v4,v5⟩ | ⟨v0,v1,v2,v3,v4,v5,v6⟩) hs
 ·cases hs;simp only[bB,nZ]
  (repeat' (first | (intro _) | (apply And.intro)))<;>grind[dx,aB,aA,jc,jd,kZ,om, -> lg,oo,oq, -> nN,ou,lq,kI,iM,je,nL,kS,mQ,nM,iK,iL,bL,JW,LH,dI,dW,dM,dZ,zw,LG]
 ·dsimp only at hs;simp only[bB,nZ];have:=@dx (v2+1)
  (repeat' (first | (intro _) | (apply And.intro)))<;>grind[dx,aB,aA,jc,jd,kZ,om, -> lg,oo,oq, -> nN,ou,lq,kI,iM,je,nL,kS,mQ,nM,iK,iL,bL,JW,LH,dI,dW,dM,dZ,zw,LG]
 ·dsimp only at hs;simp only[bB,nZ];have:=@dx (v2+1)
  (repeat' (first | (intro _) | (apply And.intro)))<;>grind[dx,aB,aA,jc,jd,kZ,om, -> lg,oo,oq, -> nN,ou,lq,kI,iM,je,nL,kS,mQ,nM,iK,iL,bL,JW,LH,dI,dW,dM,dZ,zw,LG]
end
section
theorem aDi{d:Nat}{x:Node}(h:G (d+1) x)(i:Nat):G (d+1) (x.kids.getD i (Df.d:Node))/\(0<d->i<x.kids.length->G d (x.kids.getD i (Df.d:Node))):=by
 unfold G at *;rw[List.getD];cases e:x.kids[i]? with
 | none =>refine⟨by have:=U2 d;unfold G at this;exact this,fun _ hi=>?_⟩;rw[aac hi]at e;cases e
 | some y =>have:=(eZ.1 h).2.2.2 y (ae7 e);exact⟨wo 1 this,fun _ _=>this⟩
theorem aBn{d:Nat}{x:Node}(h:G (d+1) x):x.keys.length<=1000/\x.kids.length<=1000:=by unfold G at h;exact⟨(eZ.1 h).1,(eZ.1 h).2.1⟩
theorem aDj:∀(n:Nat) (b:budget) (x:Node) (deep:Int),13<=(n:Int)+deep->0<=deep->deep<=100->G (n+1) x->Z (fG (n+1) b x deep) fun _=>True:=by
 intro n
 induction n with
 | zero =>
  intro b x deep h1 h2 h3 h4;refine jy (t:=fF (fG 0)) (s:=.e b x deep) rfl (fun | .e y0 y1 y2=>y2=deep | .h0 _ _ _ _ _=>False) (fun _=>0) rfl (by decide) ?_;rintro(⟨y0,y1,y2⟩ | ⟨v0,v1,v2,v3,v4⟩) hs
  ·cases hs;simp only[bB,fF]
   (repeat' (first|intro _|apply And.intro))<;>grind
  ·exact hs.elim
 | succ n ih =>
  intro b x deep h1 h2 h3 h4;have hk:=aBn h4;refine jy (t:=fF (fG (n+1))) (s:=.e b x deep) rfl (fun | .e y0 y1 y2=>y1=x/\y2=deep | .h0 v0 v1 v2 v3 v4=>v0=deep/\deep<=12/\v1=x.kids/\v2=(x.kids.length:Int)/\0<=v3/\v3<=v2) (fun | .e _ _ _=>10000000000 | .h0 v0 v1 v2 v3 v4=>(v2-v3).toNat) ⟨rfl,rfl⟩ (by show 10000000000<_;omega) ?_;rintro(⟨y0,y1,y2⟩ | ⟨v0,v1,v2,v3,v4⟩) hs
  ·obtain⟨rfl,rfl⟩:=hs;simp only[bB,fF,pE]
   (repeat' (first|intro _|apply And.intro))<;>grind
  ·obtain⟨rfl,h5,rfl,rfl,h6,h7⟩:=hs;simp only[bB,fF];have h8:=@dx (v0+1);have h9:=@dx (v3+1);have h10:=(aDi h4 v3.toNat).2;have h11:=ih ⟨v4⟩ (x.kids.getD v3.toNat Df.d) (v0+1)
   (repeat' (first|intro _|apply And.intro))<;>grind
theorem U4(x:Node)(h:G 600 x):Z (Aw x) fun _=>True:=by
 refine bZ rfl ?_;simp only[bB,Gd];have h2:G (999999999999999999999999999998+1+1) x:=by unfold G at *;exact wo (n:=600) 999999999999999999999999999400 h
 have:=aDj 999999999999999999999999999999 ⟨2000⟩ x 1 (by omega) (by omega) (by omega) h2;exact⟨this.1,trivial⟩
theorem alu(b:Bool):Z (lH b) fun r=>r=dz [116,114,117,101]\/r=dz [102,97,108,115,101]:=by
 refine bZ rfl ?_;simp only[bB,IU]
 (repeat' (first|intro _|apply And.intro))<;>grind
theorem wf1(d:Nat)(k:Int)(s:anP)(_:k≠3)(hs:s.length<=30000):wr (d+1) ⟨k,s,[],[]⟩:=⟨aas _,aas _,(fun _=>rfl),hs,(fun k hk=>by cases hk),(fun y hy=>by cases hy)⟩
theorem aBo(s:anP)(hs:s.length<=30000):W1 (dz s):=by unfold W1 W;exact wf1 490 1 s (by decide) hs
theorem aw1{ks:List (anP)}{l:List Node}(h1:ks.length<=300)(h2:ks.length=l.length)(h3:∀k∈ks,k.length<=30000)(h4:∀y∈l,W1 y):W2 ⟨3,[],ks,l⟩:=by unfold W2 W;refine⟨h1,by show l.length<=300;omega,fun _=>h2,aas _,h3,fun y hy=>?_⟩;have:=h4 y hy;unfold W1 W at this;exact this
theorem apP:W2 ⟨0,[],[],[]⟩:=by unfold W2 W;exact wf1 491 0 [] (by decide) (aas _)
theorem abg(ks:List (anP))(l:List Node)(hp:W2 ⟨3,[],ks,l⟩):Z (lX ks l) fun r=>r=⟨0,[],[],[]⟩\/r=⟨3,[],ks,l⟩:=by
 refine bZ rfl ?_;simp only[bB,KF,aB];have h1:=lg hp;have h2:=U4 _ (by have:=kI hp;unfold G at *;exact wo (n:=501) 99 this)
 (repeat' (first|intro _|apply And.intro))<;>grind
end
section
theorem ay0(b:Bool):(lH b).isSome=true/\W1 (gv (lH b)):=by have:=alu b;refine⟨this.1,?_⟩;rcases this.2 with h | h<;>rw[h]<;>exact aBo _ (by decide)
theorem aBp(s:anP)(a b:Node)(hs:s.length<=30000)(ha:W1 a)(hb:W1 b):(lX [[99,111,110,100,105,116,105,111,110],[114,101,113,117,105,114,101,100],[114,101,115,116,97,114,116]] [dz s,a,b]).isSome=true/\G 500 (gv (lX [[99,111,110,100,105,116,105,111,110],[114,101,113,117,105,114,101,100],[114,101,115,116,97,114,116]] [dz s,a,b])):=by
 have hw:=aw1 (ks:=[[99,111,110,100,105,116,105,111,110],[114,101,113,117,105,114,101,100],[114,101,115,116,97,114,116]]) (l:=[dz s,a,b]) (by decide) rfl (by decide) (fun y hy=>by
  simp only[amG,anJ,or_false]at hy;rcases hy with rfl | rfl | rfl
  ·exact aBo _ hs
  ·exact ha
  ·exact hb)
 have:=abg _ _ hw;refine⟨this.1,?_⟩;rcases this.2 with h | h
 ·rw[h];exact nL
 ·rw[h];have:=W_G (d:=492) (by unfold W2 at hw;exact hw);exact Ze (d:=492) 8 this
set_option maxHeartbeats 2000000 in
theorem X4(x0:Node)(hp:W2 x0):Z (CQ x0) fun r=>G 500 r.1:=by
 refine bZ rfl ?_;simp only[bB,IV];have h1:=@aFD x0 hp;have h2:=fun f h=>jl f [99,111,110,100,105,116,105,111,110] [115,101,114,118,105,99,101,95,115,116,97,114,116,101,100] ⟨h,by decide⟩
 (repeat' (first|intro _|apply And.intro))<;>grind[AL,ay0,aBp]
end
section
theorem alv(x0:Node)(hp:W2 x0):Z (zm x0) fun r=>G 501 r.1:=by
 refine jy rfl (fun | .e y0=>y0=x0 | .h0 v0 v1 v2 v3 v4 v5 v6=>0<=v2/\v2<=v1/\v1=(v0.length:Int)/\v0.length<=400/\v3=x0/\v4=(0:Int)/\v5=([]:anP)/\v3=x0/\(x0.kind=3->v0.length<=x0.kids.length)/\TL v0/\Fm v6.n/\(v6.n.kids.length:Int)<=v2) (fun | .e _=>10000000000 | .h0 v0 v1 v2 v3 v4 v5 v6=>(v1-v2).toNat) rfl (by show 10000000000<_;omega) ?_;rintro(y0 | ⟨v0,v1,v2,v3,v4,v5,v6⟩) hs
 ·cases hs;simp only[bB,zl]
  (repeat' (first | (intro _) | (apply And.intro)))<;>grind[dx,aB,aA,jc,jd,kZ,om, -> lg,oo,oq, -> nN,ou,lq,kI,iM,je,nL,kS,mQ,nM,apP,bL,gL,X4,dI,dW,dM,dZ,jM]
 ·dsimp only at hs;simp only[bB,zl];have:=@dx (v2+1)
  (repeat' (first | (intro _) | (apply And.intro)))<;>grind[dx,aB,aA,jc,jd,kZ,om, -> lg,oo,oq, -> nN,ou,lq,kI,iM,je,nL,kS,mQ,nM,apP,bL,gL,X4,dI,dW,dM,dZ,jM]
end
section
theorem aFF{x:Node}(h:G 501 x):wg 10000 1000 x=true:=avx (Ze (d:=501) 99 h)
theorem aDk(x:Node)(h:W1 x):Z (lX [[115,101,114,118,105,99,101]] [x]) fun r=>W2 r:=by
 have hw:=aw1 (ks:=[[115,101,114,118,105,99,101]]) (l:=[x]) (by decide) rfl (by decide) (fun y hy=>by simp only[amG,anJ,or_false]at hy;rw[hy];exact h)
 have:=abg _ _ hw;refine⟨this.1,?_⟩;rcases this.2 with h | h
 ·rw[h];exact apP
 ·rw[h];exact hw
theorem afU(x0:anP)(hp:x0.length<=1000000):Z (nY x0) fun r=>0<=r/\r<=x0.length:=by
 refine jy rfl (fun | .e y0=>y0=x0 | .h0 v0 v1=>v0=x0/\0<=v1/\v1<=(x0.length:Int)) (fun | .e _=>10000000000 | .h0 v0 v1=>((x0.length:Int)-v1).toNat) rfl (by show 10000000000<_;omega) ?_;rintro(y0 | ⟨v0,v1⟩) hs
 ·cases hs;simp only[bB,ug]
  (repeat' (first|intro _|apply And.intro))<;>grind
 ·obtain⟨rfl,h1,h2⟩:=hs;simp only[bB,ug]
  (repeat' (first|intro _|apply And.intro))<;>grind[dx]
theorem apQ(x0:anP):Z (pG x0) fun r=>0<=r.2.2/\r.2.2<=x0.length/\(r.2.2=0\/r.2.1≠0):=by
 refine bZ rfl ?_;simp only[bB,KG];have h0:(x0==[])=false->0<x0.length:=fun h=>List.length_pos_iff.2 (by simpa using h)
 (repeat' (first|intro _|apply And.intro))<;>grind
set_option maxHeartbeats 2000000 in
theorem ac4(x0:Node)(hp:W1 x0):Z (rX x0) fun r=>G 501 r.1:=by
 refine bZ rfl ?_;simp only[bB,BG];have key:∀y,W2 y->G 501 (dR 1000 y):=fun y h=>U1 1000 501 y (kI h)
 have key2:∀y,W2 y->wg 10000 1000 y=true:=fun y h=>aFF (kI h)
 have h0:=lq hp;have h1:=aDk x0 hp;have step:∀y:Node,W2 y->(aW ⟨y,(y.keys.length:Int),y.kind != 3⟩ [115,101,114,118,105,99,101] []).isSome=true/\(gv (aW ⟨y,(y.keys.length:Int),y.kind != 3⟩ [115,101,114,118,105,99,101] [])).1.n=y:=fun y h=>by have:=jl ⟨y,(y.keys.length:Int),y.kind != 3⟩ [115,101,114,118,105,99,101] [] ⟨h,by decide⟩;exact⟨this.1,this.2.1⟩
 have step2:∀f:field,W2 f.n->(aW ⟨f.n,f.left,f.bad⟩ [102,105,108,101] [120]).isSome=true:=fun f h=>(jl ⟨f.n,f.left,f.bad⟩ [102,105,108,101] [120] ⟨h,by decide⟩).1
 refine⟨fun _=>?_,fun _=>?_⟩
 ·refine⟨h1.1,?_⟩;have h1:=h1.2;generalize gv (lX _ _)=y at h1 ⊢;have a1:=step y h1;refine⟨a1.1,?_⟩;generalize gv (aW _ _ _)=p at a1 ⊢;refine⟨step2 p.1 (by rw[a1.2];exact h1),?_⟩
  (repeat' (first|intro _|apply And.intro))<;>grind[gL,bL,kS]
 ·have a1:=step x0 h0;refine⟨a1.1,?_⟩;generalize gv (aW _ _ _)=p at a1 ⊢;refine⟨step2 p.1 (by rw[a1.2];exact h0),?_⟩
  (repeat' (first|intro _|apply And.intro))<;>grind[gL,bL,kS]
set_option maxHeartbeats 2000000 in
theorem alx(x0:anP)(hp:x0.length<=1000000):Z (I4 x0) fun _=>True:=by
 refine jy rfl (fun | .e y0=>y0=x0 | .h0 v0 v1 v2 v3 v4=>v0=x0/\0<=v4/\v4<=(x0.length:Int)) (fun | .e _=>10000000000 | .h0 v0 v1 v2 v3 v4=>((x0.length:Int)-v4).toNat) rfl (by show 10000000000<_;omega) ?_;rintro(y0 | ⟨v0,v1,v2,v3,v4⟩) hs
 ·cases hs;simp only[bB,CS]
  (repeat' (first|intro _|apply And.intro))<;>grind
 ·obtain⟨rfl,h1,h2⟩:=hs;simp only[bB,CS];have h3:=Nk v0 v4 (v0.length:Int) ⟨h1,h2,amw _⟩;have h4:(nY (cut v0 v4 (v0.length:Int))).isSome=true/\0<=gv (nY (cut v0 v4 (v0.length:Int)))/\gv (nY (cut v0 v4 (v0.length:Int)))<=(cut v0 v4 (v0.length:Int)).length:=afU (cut v0 v4 (v0.length:Int)) (by omega);generalize gv (nY (cut v0 v4 (v0.length:Int)))=k at h4 ⊢;have h5:au (v4+k)=v4+k:=aU (by omega) (by omega);rw[h5];have h6:=Nk v0 v4 (v4+k) ⟨h1,by omega,by omega⟩;have h7:=Nk v0 (v4+k) (v0.length:Int) ⟨by omega,by omega,by omega⟩;have h8:(pG (cut v0 (v4+k) (v0.length:Int))).isSome=true/\0<=(gv (pG (cut v0 (v4+k) (v0.length:Int)))).2.2/\(gv (pG (cut v0 (v4+k) (v0.length:Int)))).2.2<=(cut v0 (v4+k) (v0.length:Int)).length/\((gv (pG (cut v0 (v4+k) (v0.length:Int)))).2.2=0\/(gv (pG (cut v0 (v4+k) (v0.length:Int)))).2.1≠0):=apQ (cut v0 (v4+k) (v0.length:Int));have h9:=fun m=>og (cut v0 v4 (v4+k)) m (by omega)
  generalize gv (pG (cut v0 (v4+k) (v0.length:Int)))=u at h8 ⊢;have h10:au (v4+k+u.2.2)=v4+k+u.2.2:=aU (by omega) (by omega);rw[h10]
  (repeat' (first|intro _|apply And.intro))<;>grind
end
section
theorem ash(c:UInt8)(new:anP)(h:new.length=4):∀s:anP,(qV c new s).length<=4*s.length
 | []=>aas _
 | b::t=>by have:=ash c new h t;rw[Jv];split<;>simp only[List.length_append,List.length_cons,h]<;>omega
theorem aBq(s:anP)(h:s.length<=1000000):UA s [39] [39,92,39,39] (-1)=true:=by unfold UA;rw[decide_eq_true h];rfl
theorem aDl(s:anP):(XT s [39] [39,92,39,39] (-1)).length<=4*s.length:=ash _ _ rfl s
theorem asi(sep:anP)(M:Nat):∀l:List (anP),(∀s∈l,s.length<=M)->(Lib.join l sep).length<=l.length*(M+sep.length)
 | [],_=>by simp[Lib.join,List.intercalate]
 | [a],h=>by have:=h a aa1;simp[Lib.join,List.intercalate];omega
 | a::b::t,h=>by
  have h1:=h a aa1;have h2:=asi sep M (b::t) fun s hs=>h s (aa6 _ hs)
  have e:Lib.join (a::b::t) sep=a++sep++Lib.join (b::t) sep:=by simp[Lib.join,List.intercalate,List.intersperse]
  rw[e,List.length_append,List.length_append,List.length_cons (a:=a),anI];omega
def TJ(l:List (anP)):Prop:=∀s∈l,s.length<=200000
theorem asj:TJ []:=fun s h=>by cases h
theorem asl{l:List (anP)}{s:anP}(h:TJ l)(hs:s.length<=200000):TJ (l++[s]):=fun x hx=>by
 rcases List.mem_append.1 hx with hx | hx
 ·exact h x hx
 ·rw[List.mem_singleton.1 hx];exact hs
theorem am2{l:List (anP)}(c:UInt8)(h:TJ l)(hl:l.length<=400):acL l [c]=true:=by have:=asi [c] 200000 l h;have h2:l.length*(200000+[c].length)<=400*200001:=Nat.mul_le_mul hl (by simp);unfold acL;rw[decide_eq_true (show l.length<=1000000 by omega),decide_eq_true (show(Lib.join l [c]).length<=1000000000 by omega)];rfl
theorem aBr{l:List (anP)}(h:TL l)(a b:Int):TL (cut l a b):=by unfold TL at *;intro s hs;exact h s (List.mem_of_mem_drop (amF hs))
attribute [irreducible] TJ
theorem aly(x0:anP)(hp:x0.length<=1000000):Z (IW x0) fun _=>True:=by
 refine jy rfl (fun | .e y0=>y0=x0 | .h0 v0 v1 v2=>0<=v2/\v2<=v1/\v1=(v0.length:Int)/\v0=x0) (fun | .e _=>10000000000 | .h0 v0 v1 v2=>(v1-v2).toNat) rfl (by show 10000000000<_;omega) ?_;rintro(y0 | ⟨v0,v1,v2⟩) hs
 ·cases hs;simp only[bB,zo]
  (repeat' (first|intro _|apply And.intro))<;>grind
 ·dsimp only at hs;simp only[bB,zo];have:=@dx (v2+1)
  (repeat' (first|intro _|apply And.intro))<;>grind
theorem alz(x0:List (anP))(hp:TL x0/\x0.length<=400):Z (IX x0) fun _=>True:=by
 refine jy rfl (fun | .e y0=>y0=x0 | .h0 v0 v1 v2 v3=>0<=v3/\v3<=v2/\v2=(v1.length:Int)/\v1=x0/\TJ v0/\(v0.length:Int)=v3) (fun | .e _=>10000000000 | .h0 v0 v1 v2 v3=>(v2-v3).toNat) rfl (by show 10000000000<_;omega) ?_;rintro(y0 | ⟨v0,v1,v2,v3⟩) hs
 ·cases hs;simp only[bB,zq]
  (repeat' (first|intro _|apply And.intro))<;>grind[asj]
 ·dsimp only at hs;simp only[bB,zq,aB,aA,List.length_append,List.length_cons,List.length_nil];have h1:=@dx (v3+1);have h2:=kZ hp.1 v3.toNat;have h3:=aBq (List.getD x0 v3.toNat Df.d) (by omega);have h4:=aDl (List.getD x0 v3.toNat Df.d);have h5:=aly (List.getD x0 v3.toNat Df.d) (by omega);have h6:(v0++[[39]++XT (List.getD x0 v3.toNat Df.d) [39] [39,92,39,39] (-1)++[39]])=v0++[[39]++XT (List.getD x0 v3.toNat Df.d) [39] [39,92,39,39] (-1)++[39]]:=rfl;have h7:=fun s=>@asl v0 s
  have h8:=@am2 v0 32
  (repeat' (first|intro _|apply And.intro))<;>grind[List.length_append,List.length_cons,List.length_nil]
theorem alA(x0:Node)(hp:W1 x0):Z (IZ x0) fun _=>True:=by
 refine bZ rfl ?_;simp only[bB,IY];have h0:=lq hp;have h1:=jM x0 h0;have h2:=lg h0;have h3:=fun a b=>aBr h1.2.1 a b
 have h4:=fun a b=>Nk (gv (nE x0)).1 a b
 (repeat' (first|intro _|apply And.intro))<;>grind[alz]
end
section
theorem aFG(n:Int) : -9223372036854775808<=au n/\au n<=9223372036854775807:=by have e:au n=(if decide (n%18446744073709551616>=9223372036854775808)=true then n%18446744073709551616-18446744073709551616 else n%18446744073709551616):=rfl;have h1:=Int.emod_nonneg n (b:=18446744073709551616) (by decide);have h2:=Int.emod_lt_of_pos n (b:=18446744073709551616) (by decide);rw[e];split<;>rename_i h<;>rw[abK]at h<;>omega
def Rg(n:Int):Prop:=-9223372036854775808<=n/\n<=9223372036854775807
theorem afV(x0:anP)(x1:Int)(hp:x0.length<=1000000):Z (yN x0 x1) fun r=>Rg r.1:=by
 refine jy rfl (fun | .e y0 y1=>y0=x0/\y1=x1 | .h0 v0 v1 v2 v3 v4 v5=>0<=v5/\v5<=v4/\v4=(v0.length:Int)/\v0.length<=1000000/\Rg v2) (fun | .e _ _=>10000000000 | .h0 v0 v1 v2 v3 v4 v5=>(v4-v5).toNat) ⟨rfl,rfl⟩ (by show 10000000000<_;omega) ?_;have hw:∀n,Rg (au n):=aFG;have h0:Rg 0:=⟨by decide,by decide⟩
 rintro(⟨y0,y1⟩ | ⟨v0,v1,v2,v3,v4,v5⟩) hs
 ·obtain⟨rfl,rfl⟩:=hs;simp only[bB,nX]
  all_goals grind
 ·dsimp only at hs;simp only[bB,nX];have:=@dx (v5+1)
  all_goals grind
theorem afW(x0:anP)(x1:Int)(hp:x0.length<=1000000):Z (gN x0 x1) fun r=>Rg r.1:=by
 refine bZ rfl ?_;simp only[bB,yO];have h0:Rg 0:=⟨by decide,by decide⟩
 all_goals grind[afV]
theorem Tw(f:field)(k:anP)(h:W2 f.n):Z (kG f k) fun r=>r.1.n=f.n /\ -9223372036854775808<=r.2/\r.2<=9223372036854775807:=by
 refine bZ rfl ?_;simp only[bB,qo];have h1:=abe h;have h2:∀x n,x.length<=1000000->(gN x n).isSome=true/\(-9223372036854775808<=(gv (gN x n)).1/\(gv (gN x n)).1<=9223372036854775807):=fun x n h=>afW x n h
 grind[jl]
theorem aBs(x L:Int)(h:0<=x/\x<=1099511627776)(hL:1<=L/\L<=3600000):au (Int.tdiv x L)=x / L/\0<=x / L/\x / L<=x/\au (x / L*L)=x / L*L/\0<=x / L*L/\x / L*L<=x/\au (x-x / L*L)=x-x / L*L:=by
 have h1:0<=x / L:=Int.ediv_nonneg h.1 (by omega);have h2:x / L*L<=x:=Int.ediv_mul_le x (by omega);have h3:x / L<=x / L*L:=by have:=Int.mul_le_mul_of_nonneg_left hL.1 h1;omega
 have h4:0<=x / L*L:=by omega
 refine⟨?_,h1,by omega,aU (by omega) (by omega),h4,h2,aU (by omega) (by omega)⟩;rw[ae8 h.1];exact aU (by omega) (by omega)
theorem apR(x0:Int):Z (KH x0) fun _=>True:=by
 refine jy rfl (fun | .e y0=>y0=x0 | .h0 v0 v1 v2 v3=>(0<=v0/\v0<=1099511627776)/\(0<=v3/\v3<=4)/\(v1.length:Int)<=30*v3/\∀i:Int,0<=i->i<4->∃L nm,List.getD ([v2.e0,v2.e1,v2.e2,v2.e3]:List xY) (Int.toNat i) (dflt Ty.Bv)=⟨L,nm⟩/\(1<=L/\L<=3600000)/\nm.length<=2) (fun | .e _=>10000000000 | .h0 v0 v1 v2 v3=>(4-v3).toNat) rfl (by show 10000000000<_;omega) ?_;rintro(y0 | ⟨v0,v1,v2,v3⟩) hs
 ·cases hs;simp only[bB,BH];refine⟨fun _=>trivial,fun h=>⟨fun _=>trivial,fun h'=>⟨⟨by grind,⟨by omega,by omega⟩,by decide,?_⟩,by decide⟩⟩⟩;intro i h1 h2;have:i=0\/i=1\/i=2\/i=3:=by omega
  rcases this with rfl | rfl | rfl | rfl
  ·exact⟨3600000,[104],rfl,by decide⟩
  ·exact⟨60000,[109],rfl,by decide⟩
  ·exact⟨1000,[115],rfl,by decide⟩
  ·exact⟨1,[109,115],rfl,by decide⟩
 ·obtain⟨h1,h2,h3,h4⟩:=hs;simp only[bB,BH,aA,List.length_append];refine⟨fun h=>?_,fun _=>trivial⟩;obtain⟨L,nm,e,hL,hn⟩:=h4 v3 h2.1 h;rw[e];obtain⟨a1,a2,a3,a4,a5,a6,a7⟩:=aBs v0 L h1 hL;dsimp only;rw[a1,a4,a7];have h5:=@dx (v3+1);have h6:=AJ (v0 / L) (by omega);rw[h5 (by omega)]
  (repeat' (first|intro _|apply And.intro))<;>grind
set_option maxHeartbeats 4000000 in
theorem afX(x0:Node)(hp:W2 x0):Z (uj x0) fun r=>G 501 r.1:=by
 refine jy rfl (fun | .e y0=>y0=x0 | .h0 v0 v1 v2 v3 v4 v5 v6 v7 v8=>0<=v3/\v3<=v2/\v2=(v1.length:Int)/\v1.length<=2/\v4=x0/\v8.n=x0/\Fm v7.n/\(v7.n.kids.length:Int)<=v3+1) (fun | .e _=>10000000000 | .h0 v0 v1 v2 v3 v4 v5 v6 v7 v8=>(v2-v3).toNat) rfl (by show 10000000000<_;omega) ?_;have k1:=abe hp;have k2:=aBj hp;rintro(y0 | ⟨v0,v1,v2,v3,v4,v5,v6,v7,⟨n8,l8,b8⟩⟩) hs
 ·cases hs;simp only[bB,uh];have h1:=fun l b=>AL ⟨x0,l,b⟩ [100,105,115,97,98,108,101] false hp
  (repeat' (first|intro _|apply And.intro))<;>grind[alA,dM,mQ,iM]
 ·obtain⟨h1,h2,h3,h4,rfl,h6,h7,h8⟩:=hs;simp only[bB,uh];have g1:=@dx (v3+1);have h6:n8=v4:=h6;subst h6;have g2:=fun k l b=>jl ⟨n8,l,b⟩ k [49,115] ⟨hp,by decide⟩
  have g3:=fun l b=>Tw ⟨n8,l,b⟩ [114,101,116,114,105,101,115] hp
  have g4:=alp true
  (repeat' (first|intro _|apply And.intro))<;>grind[alx,apR,dM,dI,AJ,bL,mQ,kS,iM]
end
section
def Fq(d:Nat)(n:Node):Prop:=(n.kind=3/\n.keys.length=n.kids.length)/\∀y∈n.kids,G d y
theorem aiV(d:Nat):Fq d ⟨3,[],[],[]⟩:=⟨⟨rfl,rfl⟩,fun y h=>by cases h⟩
theorem ac5{d:Nat}{n:Node}(k:anP){v:Node}(h:Fq d n)(hv:G d v):Fq d (bf n k v)/\(bf n k v).kids.length<=n.kids.length+1:=by
 obtain⟨⟨h1,h2⟩,h3⟩:=h;unfold bf;rw[show(bif n.kind != 3 then n.kind != 0 else false)=false by rw[h1];rfl,cond_false];cases decide (0<=index n.keys k)with
 | true =>
  rw[cond_true];refine⟨⟨⟨rfl,by simp[h2]⟩,fun y hy=>?_⟩,by simp⟩;rcases mem_set hy with hy | rfl
  ·exact h3 y hy
  ·exact hv
 | false =>
  rw[cond_false];refine⟨⟨⟨rfl,by simp[h2]⟩,fun y hy=>?_⟩,by simp⟩;rcases List.mem_append.1 hy with hy | hy
  ·exact h3 y hy
  ·rw[List.mem_singleton.1 hy];exact hv
theorem apS{d:Nat}{n:Node}(k:anP)(v:Node)(h:Fq d n)(hl:n.kids.length<=1000):fU n k v=true :=
 rV.2 ⟨⟨by have:=h.1.2;show n.keys.length<=_;omega,by show n.kids.length<=_;omega⟩,fun _=>h.1.2⟩
theorem aFH{d:Nat}{n:Node}(h:Fq d n)(hl:n.kids.length<=1000):G (d+1) n:=by unfold Fq G at *;exact eZ.2 ⟨by have:=h.1.2;omega,hl,fun _=>h.1.2,h.2⟩
theorem ac6{d:Nat}{n:Node}(h:Fq d n)(hl:n.kids.length<=1000)(hd:d<599):wg 10000 1000 n=true/\G (d+1) (dR 1000 n):=by have h1:=aFH h hl;refine⟨?_,U1 1000 (d+1) n h1⟩;have:=Ze (d:=d+1) (599-d) h1;rw[show d+1+(599-d)=600 by omega]at this;exact avx this
def F1(n:Node):Prop:=Fq 501 n
theorem aBt:F1 ⟨3,[],[],[]⟩:=aiV 501
theorem ay1{n:Node}(k:anP){v:Node}(h:F1 n)(hv:G 501 v):F1 (bf n k v)/\(bf n k v).kids.length<=n.kids.length+1:=ac5 k h hv
theorem aDm{n:Node}(k:anP)(v:Node)(h:F1 n)(hl:n.kids.length<=1000):fU n k v=true:=apS k v h hl
theorem ay2{n:Node}(h:F1 n)(hl:n.kids.length<=1000):wg 10000 1000 n=true/\G 502 (dR 1000 n):=ac6 h hl (by decide)
def H1(n:Node):Prop:=(n.keys.length<=300/\(n.kind=3->n.keys.length=n.kids.length)/\TL n.keys)/\∀i:Nat,W1 (n.kids.getD i (Df.d:Node))
theorem aFI{n:Node}(h:H1 n):n.keys.length<=300/\(n.kind=3->n.keys.length=n.kids.length)/\TL n.keys:=h.1
theorem aFJ{n:Node}(h:H1 n)(i:Nat):W1 (n.kids.getD i (Df.d:Node)):=h.2 i
attribute [irreducible] F1 H1
theorem aBu:G 502 ⟨0,[],[],[]⟩:=U2 501
theorem aFK:G 502 ⟨3,[],[],[]⟩:=by unfold G;exact eZ.2 ⟨aas _,aas _,(fun _=>rfl),(fun y hy=>by cases hy)⟩
set_option maxHeartbeats 8000000 in
theorem FD(x0:Node)(hp:H1 x0):Z (jP x0) fun r=>G 502 r.1/\r.2.1.length<=30000:=by
 refine jy rfl (fun | .e y0=>y0=x0 | .h0 v0 v1 v2 v3 v4 v5 v6=>0<=v2/\v2<=v1/\v1=(v0.length:Int)/\v0=x0.keys/\v3=x0/\x0.kind=3/\F1 v6/\(v6.kids.length:Int)<=v2) (fun | .e _=>10000000000 | .h0 v0 v1 v2 v3 v4 v5 v6=>(v1-v2).toNat) rfl (by show 10000000000<_;omega) ?_;have h0:=aFI hp;rintro(y0 | ⟨v0,v1,v2,v3,v4,v5,v6⟩) hs
 ·cases hs;simp only[bB,fC]
  (repeat' (first|intro _|apply And.intro))<;>grind[aBt,aBu,aFK]
 ·obtain⟨h1,h2,h3,rfl,rfl,h6,h7,h8⟩:=hs;have a1:=@dx (v2+1);have a2:=aFJ hp v2.toNat;have a3:=lq a2;have a4:=kZ h0.2.2 v2.toNat;have a5:=ay2 h7 (by omega);have a6:=fun k v=>aDm k v h7 (by omega)
  have a7:=fun k v h=>@ay1 v6 k v h7 h
  simp only[bB,fC];generalize v3.kids.getD v2.toNat Df.d=y2 at a2 a3 ⊢;generalize v3.keys.getD v2.toNat Df.d=y1 at a4 ⊢;have a8:=kI a3
  (repeat' (first|intro _|apply And.intro))<;>grind[Et,aBu,alo,aiR,aiO,aiQ,afT,abf,alv,ac4,afX,ac2,aiN,alq,aiU]
end
section
def F2(n:Node):Prop:=Fq 502 n
theorem aBv:F2 ⟨3,[],[],[]⟩:=aiV 502
theorem ay3{n:Node}(k:anP){v:Node}(h:F2 n)(hv:G 502 v):F2 (bf n k v)/\(bf n k v).kids.length<=n.kids.length+1:=ac5 k h hv
theorem aDn{n:Node}(k:anP)(v:Node)(h:F2 n)(hl:n.kids.length<=1000):fU n k v=true:=apS k v h hl
theorem ay4{n:Node}(h:F2 n)(hl:n.kids.length<=1000):wg 10000 1000 n=true/\G 503 (dR 1000 n):=ac6 h hl (by decide)
def F3(n:Node):Prop:=Fq 503 n
theorem aBw:F3 ⟨3,[],[],[]⟩:=aiV 503
theorem ay5{n:Node}(k:anP){v:Node}(h:F3 n)(hv:G 503 v):F3 (bf n k v)/\(bf n k v).kids.length<=n.kids.length+1:=ac5 k h hv
theorem aDo{n:Node}(k:anP)(v:Node)(h:F3 n)(hl:n.kids.length<=1000):fU n k v=true:=apS k v h hl
theorem ay6{n:Node}(h:F3 n)(hl:n.kids.length<=1000):wg 10000 1000 n=true/\G 504 (dR 1000 n):=ac6 h hl (by decide)
def H2(n:Node):Prop:=(n.keys.length<=300/\(n.kind=3->n.keys.length=n.kids.length)/\TL n.keys)/\∀i:Nat,H1 (n.kids.getD i (Df.d:Node))
def H3(n:Node):Prop:=(n.keys.length<=300/\(n.kind=3->n.keys.length=n.kids.length)/\TL n.keys)/\∀i:Nat,W1 (n.kids.getD i (Df.d:Node))/\H2 (n.kids.getD i (Df.d:Node))
attribute [irreducible] F2 F3 H2 H3
theorem aFL{n:Node}(h:H2 n):n.keys.length<=300/\(n.kind=3->n.keys.length=n.kids.length)/\TL n.keys:=by unfold H2 at h;exact h.1
theorem aFM{n:Node}(h:H2 n)(i:Nat):H1 (n.kids.getD i (Df.d:Node)):=by unfold H2 at h;exact h.2 i
theorem aFN{n:Node}(h:H3 n):n.keys.length<=300/\(n.kind=3->n.keys.length=n.kids.length)/\TL n.keys:=by unfold H3 at h;exact h.1
theorem aFO{n:Node}(h:H3 n)(i:Nat):W1 (n.kids.getD i (Df.d:Node))/\H2 (n.kids.getD i (Df.d:Node)):=by unfold H3 at h;exact h.2 i
theorem avz:G 503 ⟨0,[],[],[]⟩:=U2 502
theorem aFP:G 503 ⟨3,[],[],[]⟩:=by unfold G;exact eZ.2 ⟨aas _,aas _,(fun _=>rfl),(fun y hy=>by cases hy)⟩
theorem avB:G 504 ⟨0,[],[],[]⟩:=U2 503
theorem aFQ:G 504 ⟨3,[],[],[]⟩:=by unfold G;exact eZ.2 ⟨aas _,aas _,(fun _=>rfl),(fun y hy=>by cases hy)⟩
theorem Zg(x0:Node)(hp:H1 x0):Z (oQ x0) fun r=>G 502 r.1/\r.2.1.length<=30000:=by
 refine bZ rfl ?_;simp only[bB,yw]
 (repeat' (first|intro _|apply And.intro))<;>grind[FD]
theorem aFR{l:List (anP)}(h:TJ l)(i:Nat):(l.getD i (Df.d:anP)).length<=200000:=by
 unfold TJ at h;rw[List.getD];cases e:l[i]? with
 | none=>exact aas _
 | some x=>exact h x (ae7 e)
theorem SE(x0:List (anP))(hp:TJ x0/\x0.length<=400):Z (yM x0) fun _=>True:=by
 refine jy rfl (fun | .e y0=>y0=x0 | .h0 v0 v1 v2 v3=>0<=v3/\v3<=v2/\v2=(v1.length:Int)/\v1=x0/\TJ v0/\(v0.length:Int)<=v3) (fun | .e _=>10000000000 | .h0 v0 v1 v2 v3=>(v2-v3).toNat) rfl (by show 10000000000<_;omega) ?_;rintro(y0 | ⟨v0,v1,v2,v3⟩) hs
 ·cases hs;simp only[bB,uf]
  (repeat' (first|intro _|apply And.intro))<;>grind[asj]
 ·dsimp only at hs;simp only[bB,uf,aB,List.length_append,List.length_cons,List.length_nil];have h1:=@dx (v3+1);have h2:=aFR hp.1 v3.toNat;have h7:=fun s=>@asl v0 s
  have h8:=@am2 v0 46
  (repeat' (first|intro _|apply And.intro))<;>grind[List.length_append,List.length_cons,List.length_nil]
theorem aFS(a b:anP)(h:a.length<=200000/\b.length<=200000):TJ [a,b]:=by
 unfold TJ;intro s hs;simp only[amG,anJ,or_false]at hs;rcases hs with rfl | rfl
 ·exact h.1
 ·exact h.2
theorem aFT(a b c:anP)(h:a.length<=200000/\b.length<=200000/\c.length<=200000):TJ [a,b,c]:=by
 unfold TJ;intro s hs;simp only[amG,anJ,or_false]at hs;rcases hs with rfl | rfl | rfl
 ·exact h.1
 ·exact h.2.1
 ·exact h.2.2
set_option maxHeartbeats 2000000 in
theorem Ew(x0:Node)(hp:H2 x0):Z (jH x0) fun r=>G 503 r.1:=by
 refine jy rfl (fun | .e y0=>y0=x0 | .h0 v0 v1 v2 v3 v4 v5 v6=>0<=v2/\v2<=v1/\v1=(v0.length:Int)/\v0=x0.keys/\v3=x0/\x0.kind=3/\F2 v6/\(v6.kids.length:Int)<=v2) (fun | .e _=>10000000000 | .h0 v0 v1 v2 v3 v4 v5 v6=>(v1-v2).toNat) rfl (by show 10000000000<_;omega) ?_;have h0:=aFL hp;rintro(y0 | ⟨v0,v1,v2,v3,v4,v5,v6⟩) hs
 ·cases hs;simp only[bB,gy]
  (repeat' (first|intro _|apply And.intro))<;>grind[aBv,avz,aFP]
 ·obtain⟨h1,h2,h3,rfl,rfl,h6,h7,h8⟩:=hs;have a1:=@dx (v2+1);have a2:=aFM hp v2.toNat;have a4:=kZ h0.2.2 v2.toNat;have a5:=ay4 h7 (by omega);have a6:=fun k v=>aDn k v h7 (by omega)
  have a7:=fun k v h=>@ay3 v6 k v h7 h
  simp only[bB,gy];generalize v3.kids.getD v2.toNat Df.d=y2 at a2 ⊢;generalize v3.keys.getD v2.toNat Df.d=y1 at a4 ⊢;have a8:=Zg y2 a2;have a9:=SE [[115,101,114,118,105,99,101,115],y1] ⟨aFS _ _ ⟨by decide,by omega⟩,by simp⟩;have a10:=SE [[115,101,114,118,105,99,101,115],y1,(gv (oQ y2)).2.1] ⟨aFT _ _ _ ⟨by decide,by omega,by have:=a8.2.2;omega⟩,by simp⟩
  (repeat' (first|intro _|apply And.intro))<;>grind[avz,gL]
theorem Xr(x0:Node)(hp:H2 x0):Z (kY x0) fun r=>G 503 r.1:=by
 refine bZ rfl ?_;simp only[bB,vT]
 (repeat' (first|intro _|apply And.intro))<;>grind[Ew,avz]
theorem aDp{n:Node}(h:W1 n):G 503 n:=Ze (d:=501) 2 (kI (lq h))
theorem aFU{n:Node}(h:G 501 n):G 503 n:=Ze (d:=501) 2 h
set_option maxHeartbeats 4000000 in
theorem H8(x0:Node)(hp:H3 x0):Z (jv x0) fun r=>G 504 r.1:=by
 refine jy rfl (fun | .e y0=>y0=x0 | .h0 v0 v1 v2 v3 v4 v5 v6=>0<=v2/\v2<=v1/\v1=(v0.length:Int)/\v0=x0.keys/\v3=x0/\x0.kind=3/\F3 v6/\(v6.kids.length:Int)<=v2) (fun | .e _=>10000000000 | .h0 v0 v1 v2 v3 v4 v5 v6=>(v1-v2).toNat) rfl (by show 10000000000<_;omega) ?_;have h0:=aFN hp;rintro(y0 | ⟨v0,v1,v2,v3,v4,v5,v6⟩) hs
 ·cases hs;simp only[bB,iA]
  (repeat' (first|intro _|apply And.intro))<;>grind[aBw,avB,aFQ]
 ·obtain⟨h1,h2,h3,rfl,rfl,h6,h7,h8⟩:=hs;have a1:=@dx (v2+1);have a2:=aFO hp v2.toNat;have a4:=kZ h0.2.2 v2.toNat;have a5:=ay6 h7 (by omega);have a6:=fun k v=>aDo k v h7 (by omega)
  have a7:=fun k v h=>@ay5 v6 k v h7 h
  simp only[bB,iA];generalize v3.kids.getD v2.toNat Df.d=y2 at a2 ⊢;generalize v3.keys.getD v2.toNat Df.d=y1 at a4 ⊢;have a8:=aDp a2.1;have a9:=Xr y2 a2.2;have a10:=abf y2 (lq a2.1);have a11:=@aFU (gv (nH y2)).1
  (repeat' (first|intro _|apply And.intro))<;>grind[avB,Et,acY]
theorem afY(x0:Node)(hp:H3 x0):Z (iB x0) fun r=>G 504 r.1:=by
 refine bZ rfl ?_;simp only[bB,D8];have a1:=H8 x0 hp;have a2:=U4 (gv (jv x0)).1 (Ze (d:=504) 96 a1.2)
 (repeat' (first|intro _|apply And.intro))<;>grind[avB]
end
section
theorem iY{ρ σ:Type}{t:Tree ρ σ}{m:Option ρ}{s:σ}{r:ρ}(hm:m=mu t s)(I:σ->Prop)(M:σ->Nat)(hs:I s)(hM:M s<1000000000000000000000000000000)(h:∀s,I s->(t s).run Prop (fun r'=>r'=r) (fun s'=>I s'/\M s'<M s) False):m=some r:=by obtain⟨r',h1,h2⟩:=come (fun r'=>r'=r) hm I M hs hM h;rw[h1,h2]
theorem dB{ρ:Type}{t:Te ρ Empty}{m:Option ρ}{r:ρ}(hm:m=t.o)(h:t.run Prop (fun r'=>r'=r) (fun _=>False) False):m=some r:=by obtain⟨r',h1,h2⟩:=awT (fun r'=>r'=r) hm h;rw[h1,h2]
theorem fJ{α:Type}(l:List α)(d:α){i:Int}(h0:0<=i)(h:i<(l.length:Int)):l.drop i.toNat=l.getD i.toNat d::l.drop (i+1).toNat:=by
 have hi:i.toNat<l.length:=by omega
 rw[<- aa8 hi,show(i+1).toNat=i.toNat+1 by omega];simp[List.getD,hi]
theorem iN{α:Type}(l:List α){i:Int}(h:(l.length:Int)<=i):l.drop i.toNat=[]:=aa7 (by omega)
def wO(c:UInt8):Int:=(c.toNat:Int)-48
theorem aBx(c:UInt8):au (au (c.toNat:Int)-48)=wO c:=by have:=c.toNat_lt;show au (au (c.toNat:Int)-48)=_;rw[aU (n:=(c.toNat:Int)) (by omega) (by omega),aU (by omega) (by omega)];rfl
def LJ(most d n:Int)(over:Bool):Bool:=bif(bif over then true else decide (Int.tdiv (most-d) 10<n))then true else decide (most<d)
def Pk(most:Int):anP->Int->Bool->Int×Int
 | [],n,over=>bif over then(0,9)else(n,0)
 | c::t,n,over=>bif(bif decide (wO c<0)then true else decide (9<wO c))then(0,3)else bif !(LJ most (wO c) n over)then Pk most t (n*10+wO c) (LJ most (wO c) n over)else Pk most t n (LJ most (wO c) n over)
def abh(s:anP):Bool:=bif s==[]then true else(bif decide ((1:Int)<(s.length:Int))then(((List.getD s 0 0).toNat:Int)==48)else false)
def iQ(s:anP)(most:Int):Int×Int:=bif abh s then(0,3)else Pk most s 0 false
def am3(s:anP)(most:Int):Int:=(iQ s most).1
def WT(s:anP)(most:Int):Int:=(iQ s most).2
def apT(s:anP)(most:Int):Bool:=decide (s.length<=1000000)&&decide (0<=most)&&decide (most<=9007199254740992)
theorem yx{s:anP}{most:Int}:apT s most=true↔(s.length<=1000000/\0<=most)/\most<=9007199254740992:=by simp[apT]
theorem aBy(c:UInt8) : -48<=wO c/\wO c<=207:=by have:=c.toNat_lt;unfold wO;omega
theorem cO{n:Int}(h : -9223372036854775808<=n/\n<=9223372036854775807):au n=n:=aU h.1 h.2
theorem SF(s:anP)(most:Int)(hk:apT s most=true):yN s most=some (iQ s most):=by
 obtain⟨⟨hs,h0⟩,h1⟩:=yx.1 hk;refine iY rfl (fun | .e y0 y1=>y0=s/\y1=most | .h0 v0 v1 v2 v3 v4 v5=>v0=s/\v1=most/\v4=(s.length:Int)/\0<=v5/\v5<=v4/\0<=v2/\v2<=most/\Pk most (s.drop v5.toNat) v2 v3=iQ s most) (fun | .e _ _=>10000000000 | .h0 v0 v1 v2 v3 v4 v5=>(v4-v5).toNat) ⟨rfl,rfl⟩ (by show 10000000000<_;omega) ?_;rintro(⟨y0,y1⟩ | ⟨v0,v1,v2,v3,v4,v5⟩) hs'
 ·obtain⟨rfl,rfl⟩:=hs';have e:iQ y0 y1=bif abh y0 then(0,3)else Pk y1 y0 0 false:=rfl
  have e2:y0=[]\/0<y0.length:=by cases y0<;>simp
  simp only[bB,nX]
  (repeat' (first|intro _|apply And.intro))<;>grind[abh,aeh]
 ·obtain⟨rfl,rfl,rfl,g1,g2,g3,g4,g5⟩:=hs';simp only[bB,nX,aBx];have e1:=@cO (v5+1);by_cases hi:v5<(v0.length:Int)
  ·rw[fJ v0 0 g1 hi,Pk]at g5;generalize v0.getD v5.toNat 0=c at g5 ⊢;have b:=aBy c;generalize wO c=d at g5 b ⊢;have w1:au (v1-d)=v1-d:=cO (by omega);have w2:au ((v1-d).tdiv 10)=(v1-d).tdiv 10:=cO (by have:((v1-d).tdiv 10).natAbs=(v1-d).natAbs / 10:=Int.natAbs_tdiv _ _;omega);have ov:LJ v1 d v2 v3=false->v2*10+d<=v1:=fun ho=>by
    unfold LJ at ho;cases v3 with
    | true=>cases ho
    | false =>
     by_cases a1:(v1-d).tdiv 10<v2
     ·rw[dT a1]at ho;cases ho
     ·rw[dF a1]at ho;have hmd:¬ v1<d:=by simpa using ho
      have hq:(v1-d).tdiv 10=(v1-d) / 10:=ae8 (by omega);omega
   have w3:=@cO (v2*10);have w4:=@cO (v2*10+d);rw[w1,w2]
   (repeat' (first|intro _|apply And.intro))<;>grind[LJ]
  ·rw[iN v0 (by omega),Pk]at g5
   (repeat' (first|intro _|apply And.intro))<;>grind
theorem uw(s:anP)(most:Int)(hk:apT s most=true):gN s most=some (iQ s most):=by refine dB rfl ?_;have:=yx.1 hk;simp only[aM,bg,yO,SF s most hk,aG,decide_eq_false (show ¬ most<0 by omega),cond_false]
end
section
def abj(c:Int):Bool:=bif decide (97<=c)then decide (c<=122)else false
def KV(c:Int):Bool:=bif decide (48<=c)then decide (c<=57)else false
def Pm(c:Int):Bool:=bif abj c then true else(bif decide (65<=c)then decide (c<=90)else false)
def p1B(c:Int):Bool:=bif abj c then true else KV c
def U5(c:Int):Bool:=bif(bif(bif abj c then true else KV c)then true else c==45)then true else c==95
def AO(c:Int):Bool:=bif Pm c then true else KV c
def xL(c:Int):Bool:=bif(bif(bif(bif Pm c then true else KV c)then true else c==45)then true else c==95)then true else c==46
def U6(c:Int):Bool:=bif Pm c then true else c==95
def Nl(c:Int):Bool:=bif(bif Pm c then true else KV c)then true else c==95
def oh(f g:Int->Bool)(s:anP):Bool:=bif(bif(bif decide ((s.length:Int)<1)then true else decide ((24:Int)<(s.length:Int)))then true else !(f (Int.ofNat (List.getD s (Int.toNat 0) 0).toNat)))then false else(s.drop 1).all fun c=>g (Int.ofNat c.toNat)
theorem LK(c:Int):wu c=some (abj c):=dB rfl rfl
theorem yT(c:Int):fE c=some (KV c):=dB rfl rfl
theorem Eb(c:Int):nW c=some (Pm c):=dB rfl (by simp only[aM,bg,DV,LK,aG];rfl)
theorem Zh(c:Int):Eo c=some (AO c):=dB rfl (by simp only[aM,bg,x9,Eb,yT,aG,aeL,abZ,ak,dS];rfl)
theorem Xt(c:Int):Cv c=some (U6 c):=dB rfl (by simp only[aM,bg,vR,Eb,aG];rfl)
theorem Zi(c:Int):Er c=some (p1B c):=dB rfl (by simp only[aM,bg,yt,LK,yT,aG,aeL,abZ,ak,dS];rfl)
theorem aiW(s:anP):((decide ((0:Int)<=0)&&decide ((0:Int)<(s.length:Int))) || !(!(bif decide ((s.length:Int)<1)then true else decide ((24:Int)<(s.length:Int)))))=true:=by
 cases s with
 | nil=>rfl
 | cons c t=>rw[decide_eq_true (show(0:Int)<((c::t).length:Int) by rw[List.length_cons];omega)];rfl
theorem oW(s:anP)(hs:s.length<=1000000):iP s=some (oh AO xL s):=by
 have h:jA s=some (oh AO xL s):=by
  refine iY rfl (fun | .e y0=>y0=s | .h0 v0 v1=>v0=s/\1<=v1/\v1<=(s.length:Int)/\((s.drop v1.toNat).all fun c=>xL (Int.ofNat c.toNat))=oh AO xL s) (fun | .e _=>10000000000 | .h0 _ v1=>((s.length:Int)-v1).toNat) rfl (by show 10000000000<_;omega) ?_;rintro(y0 | ⟨v0,v1⟩) hs'
  ·cases hs';simp only[aM,bg,dJ,Zh,aeL,abZ,ak,dS];simp only[bB]
   (repeat' (first|intro _|apply And.intro))<;>grind[oh]
  ·obtain⟨rfl,h1,h2,h3⟩:=hs';simp only[aM,bg,dJ,Eb,yT,aG,aeL,abZ,ak,dS];simp only[bB];have e1:=@cO (v1+1);by_cases hi:v1<(v0.length:Int)
   ·rw[fJ v0 0 (by omega) hi,aeQ]at h3;generalize v0.getD v1.toNat 0=c at h3 ⊢;have e:xL (Int.ofNat c.toNat)=xL (c.toNat:Int):=rfl
    (repeat' (first|intro _|apply And.intro))<;>grind[xL]
   ·rw[iN v0 (by omega)]at h3
    (repeat' (first|intro _|apply And.intro))<;>grind
 exact dB rfl (by simp only[aM,Bw,h,aG])
theorem Nn(s:anP)(hs:s.length<=1000000):zV s=some (oh U6 Nl s):=by
 have h:jh s=some (oh U6 Nl s):=by
  refine iY rfl (fun | .e y0=>y0=s | .h0 v0 v1=>v0=s/\1<=v1/\v1<=(s.length:Int)/\((s.drop v1.toNat).all fun c=>Nl (Int.ofNat c.toNat))=oh U6 Nl s) (fun | .e _=>10000000000 | .h0 _ v1=>((s.length:Int)-v1).toNat) rfl (by show 10000000000<_;omega) ?_;rintro(y0 | ⟨v0,v1⟩) hs'
  ·cases hs';simp only[aM,bg,dh,Xt,aeL,abZ,ak,dS];simp only[bB]
   (repeat' (first|intro _|apply And.intro))<;>grind[oh]
  ·obtain⟨rfl,h1,h2,h3⟩:=hs';simp only[aM,bg,dh,Eb,yT,aG,aeL,abZ,ak,dS];simp only[bB];have e1:=@cO (v1+1);by_cases hi:v1<(v0.length:Int)
   ·rw[fJ v0 0 (by omega) hi,aeQ]at h3;generalize v0.getD v1.toNat 0=c at h3 ⊢;have e:Nl (Int.ofNat c.toNat)=Nl (c.toNat:Int):=rfl
    (repeat' (first|intro _|apply And.intro))<;>grind[Nl]
   ·rw[iN v0 (by omega)]at h3
    (repeat' (first|intro _|apply And.intro))<;>grind
 exact dB rfl (by simp only[aM,zU,h,aG])
theorem ac7(s:anP)(hs:s.length<=1000000):BM s=some (oh p1B U5 s):=by
 have h:jB s=some (oh p1B U5 s):=by
  refine iY rfl (fun | .e y0=>y0=s | .h0 v0 v1=>v0=s/\1<=v1/\v1<=(s.length:Int)/\((s.drop v1.toNat).all fun c=>U5 (Int.ofNat c.toNat))=oh p1B U5 s) (fun | .e _=>10000000000 | .h0 _ v1=>((s.length:Int)-v1).toNat) rfl (by show 10000000000<_;omega) ?_;rintro(y0 | ⟨v0,v1⟩) hs'
  ·cases hs';simp only[aM,bg,dK,Zi,aeL,abZ,ak,dS];simp only[bB]
   (repeat' (first|intro _|apply And.intro))<;>grind[oh]
  ·obtain⟨rfl,h1,h2,h3⟩:=hs';simp only[aM,bg,dK,LK,yT,aG,aeL,abZ,ak,dS];simp only[bB];have e1:=@cO (v1+1);by_cases hi:v1<(v0.length:Int)
   ·rw[fJ v0 0 (by omega) hi,aeQ]at h3;generalize v0.getD v1.toNat 0=c at h3 ⊢;have e:U5 (Int.ofNat c.toNat)=U5 (c.toNat:Int):=rfl
    (repeat' (first|intro _|apply And.intro))<;>grind[U5]
   ·rw[iN v0 (by omega)]at h3
    (repeat' (first|intro _|apply And.intro))<;>grind
 exact dB rfl (by simp only[aM,BL,h,aG])
end
section
theorem part{ρ σ:Type}[Df ρ]{t:Tree ρ σ}{m:Option ρ}{s:σ}(hm:m=mu t s)(Q:ρ->Prop)(I:σ->Prop)(hs:I s)(h:∀s,I s->(t s).run Prop Q I True):m.isSome=true->Q (gv m):=by
 have go:∀f s r,I s->Uq t f s=some r->Q r:=by
  intro f
  induction f with
  | zero=>intro s r _ e;cases e
  | succ f ih =>
   intro s r hs e;have h1:=h s hs;rw[Uq,Te.nat]at e;rw[Te.nat]at h1;cases ht:(t s).run _ Tr.k Tr.g Tr.n with
   | k r'=>rw[ht]at e h1;injection e with e;subst e;exact h1
   | g s'=>rw[ht]at e h1;exact ih s' r h1 e
   | n=>rw[ht]at e;cases e
 intro hi;obtain⟨r,hr⟩:=Option.isSome_iff_exists.1 hi;rw[hr,dS];rw[hm]at hr;exact go _ s r hs hr
theorem aw2{ρ:Type}[Df ρ]{t:Te ρ Empty}{m:Option ρ}(hm:m=t.o)(Q:ρ->Prop)(h:t.run Prop Q (fun _=>False) True):m.isSome=true->Q (gv m):=by
 subst hm;intro hi;rw[Te.nat]at h;rw[Te.o,Te.nat]at hi ⊢;cases ht:t.run _ Tr.k Tr.g Tr.n with
 | k r'=>rw[ht]at h;exact h
 | g s2=>cases s2
 | n=>rw[ht]at hi;cases hi
theorem gQ{ρ:Type}[Df ρ]{t:Te ρ Empty}{m:Option ρ}{q:ρ}(hm:m=t.o)(h:t.run Prop (fun r=>r=q) (fun _=>False) True):m.isSome=true->gv m=q:=aw2 hm _ h
theorem pI{α:Type}[Df α](l:List α)(i:Int)(f:α->Prop):ix l i True f=(0<=i->i<(l.length:Int)->f (l.getD i.toNat Df.d)):=by unfold ix;rw[wB];simp
theorem pS(l:anP)(i:Int)(f:Int->Prop):O7 l i True f=(0<=i->i<(l.length:Int)->f ((l.getD i.toNat 0).toNat:Int)):=by unfold O7;rw[wB];simp
theorem pK(c:Bool)(a:Prop):ck c True a=(c=true->a):=by unfold ck;cases c<;>simp
theorem pZ{α:Type}[Df α](o:Option α)(f:α->Prop):cl o True f=(o.isSome=true->f (gv o)):=by
 cases o with
 | none=>simp[cl]
 | some r=>simp[cl,gv]
theorem trQ:(∀(c:Bool) (a b:Prop),(bif c then a else b)=((c=true->a)/\(c=false->b)))/\(∀(α:Type) [Df α] (l:List α) (i:Int) (f:α->Prop),ix l i True f=(0<=i->i<(l.length:Int)->f (l.getD i.toNat Df.d)))/\(∀(l:anP) (i:Int) (f:Int->Prop),O7 l i True f=(0<=i->i<(l.length:Int)->f ((l.getD i.toNat 0).toNat:Int))) /\
  (∀(c:Bool) (a:Prop),ck c True a=(c=true->a))/\(∀(α:Type) [Df α] (o:Option α) (f:α->Prop),cl o True f=(o.isSome=true->f (gv o)))/\(∀x:Node,aj x=x)/\(∀a b:Bool,((a||b)=true)=(a=true\/b=true))/\(∀a b:Bool,((a&&b)=true)=(a=true/\b=true))/\(∀(p:Prop) [Decidable p],(decide p=true)=p) /\
  (∀a:Bool,((!a)=true)=(a=false))/\(∀(p:Prop) [Decidable p],(decide p=false)=¬p)/\(∀(β:Type) (l:List β) (i:Int),fV l i=(decide ((0:Int)<=i)&&decide (i<(l.length:Int))))/\(∀(β:Type) (l:List β) (a b:Int),bM l a b=(decide ((0:Int)<=a)&&decide (a<=b)&&decide (b<=(l.length:Int)))) /\
  (∀(α:Type) [BEq α] [LawfulBEq α] (a b:α),((a==b)=true)=(a=b))/\(∀s p:anP,uX s p=(decide (s.length<=1000000)&&decide (p.length=1)))/\(∀(s p:anP) (a b:Int),Rc s p a b=(decide (s.length<=1000000)&&decide (p.length=1)&&(a==0)&&(b == -1))) :=
 ⟨wB,fun _ _=>pI,pS,pK,fun _ _=>pZ,trB.2.2.2.2.2⟩
theorem dQ:type_of% (And.intro @aM (And.intro bg trQ)):=And.intro @aM (And.intro bg trQ)
def lJ:List Node->Option (List (anP))
 | []=>some []
 | x::t=>bif x.kind != 1 then none else(lJ t).map (x.text :: ·)
def bH(n:Node):List (anP):=(lJ n.kids).getD []
def qx(n:Node):Bool:=(lJ n.kids).isSome&&(bif n.kind==2 then decide ((n.kids.length:Int)<=32)else false)
theorem jN:gv eD=(⟨0,[],[],[]⟩,10):=by have h:eD=some (⟨0,[],[],[]⟩,10):=dB rfl rfl;rw[h,dS]
theorem rZ(n:Node)(k:Int):jR n k=some (bif n.kind==k then decide ((n.kids.length:Int)<=32)else false):=dB rfl rfl
theorem AP(n:Node)(hl:n.kids.length<=1000000):(nE n).isSome=true->gv (nE n)=(bH n,qx n):=by
 refine part rfl (fun r=>r=(bH n,qx n)) (fun | .e y0=>y0=n | .h0 v0 v1 v2 v3 v4=>v1=n.kids/\v2=(n.kids.length:Int)/\0<=v3/\v3<=v2/\v4=n/\bH n=((lJ (n.kids.drop v3.toNat)).map (v0 ++ ·)).getD []/\qx n=((lJ (n.kids.drop v3.toNat)).isSome&&(bif n.kind==2 then decide ((n.kids.length:Int)<=32)else false))) rfl ?_;rintro(y0 | ⟨v0,v1,v2,v3,v4⟩) hs
 ·cases hs;simp only[dQ,wz];refine⟨trivial,trivial,by omega,by omega,trivial,?_,rfl⟩;show(lJ n.kids).getD []=((lJ n.kids).map (([]:List (anP)) ++ ·)).getD [];cases lJ n.kids<;>rfl
 ·obtain⟨rfl,rfl,h1,h2,rfl,h3,h4⟩:=hs;simp only[aM,bg,wz,rZ,aG];simp only[dQ];have e1:=@cO (v3+1);by_cases hi:v3<(v4.kids.length:Int)
  ·rw[fJ v4.kids Df.d h1 hi,lJ]at h3 h4;rw[e1 (by omega)];generalize v4.kids.getD v3.toNat Df.d=y at h3 h4 ⊢;cases hk:y.kind != 1<;>cases ht:lJ (v4.kids.drop (v3+1).toNat)<;>simp only[hk,ht,cond_true,cond_false,Option.map_none,aiM,Option.getD_none,am0,Option.isSome_none,aeL,ajJ,aeP]at h3 h4 ⊢ <;> ((repeat' (first|intro _|apply And.intro))<;>grind[abJ,afa])
  ·rw[iN v4.kids (by omega),lJ]at h3 h4;simp only[aiM,am0,aeL,aeP,abR]at h3 h4
   (repeat' (first|intro _|apply And.intro))<;>grind
end
section
theorem rF:zn=(⟨0,[],[],[]⟩:Node):=rfl
def qY(n:Node)(k:Int):Bool:=bif n.kind==k then decide ((n.kids.length:Int)<=32)else false
def AQ(y:Node):Bool:=bif y.kind != 0 then(bif y.kind != 3 then true else decide ((0:Int)<(y.keys.length:Int)))else false
def Jz(v:anP->Node):List (anP)->Node->Node
 | [],o=>o
 | s::t,o=>Jz v t (bf o s (v s))
def abk(o:Node)(bad:Bool):Bool:=bif bad then true else decide ((32:Int)<(o.keys.length:Int))
def EN(o:Node)(bad:Bool):Node:=bif abk o bad then zn else dR 1000 ⟨3,o.text,o.keys,o.kids⟩
def EO(o:Node)(bad:Bool):Int:=bif abk o bad then 10 else 0
theorem iG(f:form)(b:Bool):bY f b=some (⟨f.n,bif f.bad then true else b⟩,b):=dB rfl (by simp only[aM,bg,yc,aV])
theorem iC(f:form)(k:anP)(v:Node):(cB f k v).isSome=true->gv (cB f k v)=(⟨bf f.n k v,f.bad⟩,()):=by refine gQ rfl ?_;simp only[dQ,zX];exact fun _=>trivial
theorem iH(f:form):(dD f).isSome=true->(gv (dD f)).2=(EN f.n f.bad,EO f.n f.bad):=by
 refine aw2 rfl (fun r:form×Node×Int=>r.2=(EN f.n f.bad,EO f.n f.bad)) ?_;simp only[dQ,yg,jN,EN,EO,abk]
 (repeat' (first|intro _|apply And.intro))<;>grind[rF]
def rG(n:Node):List (anP):=bif qY n 3 then n.keys else bH n
def set0(n:Node):Bool:=bif qY n 3 then n.kids.any AQ else !(qx n)
def Zj(n:Node):Bool:=set0 n||(rG n).any fun s=>!(oh AO xL s)
def Zk(n:Node):Node:=Jz (fun _=>zn) (rG n) zn
def Gq(n:Node):Node:=EN (Zk n) (Zj n)
def Gs(n:Node):Int:=EO (Zk n) (Zj n)
theorem apU(n:Node)(hl:n.kids.length<=1000000)(_:n.keys.length<=1000000)(hs:∀s∈rG n,s.length<=1000000)(hn:(rG n).length<=1000000):(nH n).isSome=true->gv (nH n)=(Gq n,Gs n):=by
 refine part rfl (fun r=>r=(Gq n,Gs n)) (fun | .e y0=>y0=n | .h0 v0 v1 v2 v3 v4 v5 v6 v7=>v0=n.keys/\v1=true/\v2=n.kids/\v3=(n.kids.length:Int)/\0<=v4/\v4<=v3/\qY n 3=true/\v7.n=zn/\(v7.bad||(n.kids.drop v4.toNat).any AQ)=n.kids.any AQ | .h1 v0 v1 v2 v3 v4 v5=>v0=rG n/\v1=((rG n).length:Int)/\0<=v2/\v2<=v1/\Jz (fun _=>zn) ((rG n).drop v2.toNat) v5.n=Zk n/\(v5.bad||((rG n).drop v2.toNat).any fun s=>!(oh AO xL s))=Zj n) rfl ?_;rintro(y0 | ⟨v0,v1,v2,v3,v4,v5,v6,⟨o,bad⟩⟩ | ⟨v0,v1,v2,v3,v4,⟨o,bad⟩⟩) hs'
 ·cases hs';simp only[aM,bg,uM,rZ,iG,aV,aG];simp only[dQ];have h1:=AP n hl;have h2:qY n 3=(bif n.kind==3 then decide ((n.kids.length:Int)<=32)else false):=rfl
  (repeat' (first|intro _|apply And.intro))<;>grind[rG,set0,Zj,Zk,aeh,rF]
 ·obtain⟨rfl,rfl,rfl,rfl,h1,h2,h3,h4,h5⟩:=hs';simp only[aM,bg,uM,iG,aV,aG];simp only[dQ];have e1:=@cO (v4+1);by_cases hi:v4<(n.kids.length:Int)
  ·rw[fJ n.kids Df.d h1 hi,aj3]at h5;generalize n.kids.getD v4.toNat Df.d=y at h5 ⊢;have e2:(bif(y.kind != (0:Int))then(bif(y.kind != (3:Int))then true else(decide ((0:Int)<((y.keys).length:Int))))else false)=AQ y:=rfl;rw[e2]
   (repeat' (first|intro _|apply And.intro))<;>grind
  ·rw[iN n.kids (by omega),List.any_nil]at h5
   (repeat' (first|intro _|apply And.intro))<;>grind[rG,set0,Zj,Zk,aeh]
 ·obtain⟨rfl,rfl,h1,h2,h3,h4⟩:=hs';simp only[aM,bg,uM,iG,aV,aG];simp only[dQ];have e1:=@cO (v2+1);by_cases hi:v2<((rG n).length:Int)
  ·rw[fJ (rG n) Df.d h1 hi,Jz]at h3;rw[fJ (rG n) Df.d h1 hi,aj3]at h4;have h5:=hs _ (aeC (show v2.toNat<(rG n).length by omega));have h6:(rG n).getD v2.toNat Df.d=(rG n)[v2.toNat]'(by omega):=by simp[List.getD,show v2.toNat<(rG n).length by omega]
   rw[<- h6]at h5;clear h6;generalize (rG n).getD v2.toNat Df.d=s at h3 h4 h5 ⊢;have h7:=oW s h5;have h8:=fun b=>iC ⟨o,b⟩ s ⟨0,[],[],[]⟩
   rw[h7]
   (repeat' (first|intro _|apply And.intro))<;>grind[dS,rF]
  ·rw[iN (rG n) (by omega),Jz]at h3;rw[iN (rG n) (by omega),List.any_nil]at h4;have h5:=iH ⟨o,bad⟩
   (repeat' (first|intro _|apply And.intro))<;>grind[Gq,Gs]
end
section
def NT:anP:=[61]
def X6(f:anP->Bool):List (anP)->Node->Bool->Node×Bool
 | [],o,b=>(o,b)
 | s::t,o,b=>X6 f t (bf o (mg s NT) (dz (qm s NT))) (bif b then true else(bif aD o (mg s NT)then true else !(f (mg s NT))))
def SG(f:anP->Bool):List (anP)->List Node->Node->Bool->Node×Bool
 | s::t,y::r,o,b=>SG f t r (bf o s (dz y.text)) (bif b then true else(bif decide ((1:Int)<y.kind)then true else !(f s)))
 | _,_,o,b=>(o,b)
def LM(vars:Bool)(s:anP):Bool:=bif vars then oh U6 Nl s else oh AO xL s
def U7(n:Node)(vars:Bool):Node×Bool:=bif qx n then X6 (LM vars) (bH n) zn false else bif qY n 3 then SG (LM vars) n.keys n.kids zn false else(zn,true)
theorem aiX(s p:anP):(mg s p).length<=s.length:=by
 unfold mg;cases decide (0<=ql s p)
 ·exact abH _
 ·show(List.take _ s).length<=s.length;rw[aeb];omega
def JX(n:Node)(vars:Bool):Node:=EN (U7 n vars).1 (U7 n vars).2
def JY(n:Node)(vars:Bool):Int:=EO (U7 n vars).1 (U7 n vars).2
theorem qZ{l:List (anP)}{B:Nat}(h:∀s∈l,s.length<=B)(i:Nat):(l.getD i (Df.d:anP)).length<=B:=by
 rw[List.getD];cases e:l[i]? with
 | none=>exact aas _
 | some x=>exact h x (ae7 e)
theorem aiY:EN zn true=zn/\EO zn true=10:=⟨rfl,rfl⟩
set_option maxHeartbeats 1000000 in
theorem aiZ(n:Node)(vars:Bool)(hl:n.kids.length<=1000000)(hk:n.keys.length<=1000000)(h3:n.kind=3->n.keys.length=n.kids.length)(hs:∀s∈bH n,s.length<=1000000)(hn:(bH n).length<=1000000)(hs2:∀s∈n.keys,s.length<=1000000):(wF n vars).isSome=true->gv (wF n vars)=(JX n vars,JY n vars):=by
  refine part rfl (fun r=>r=(JX n vars,JY n vars)) (fun | .e y0 y1=>y0=n/\y1=vars | .Ri v0 v1 v2 _ _ v5=>vars=false/\v0=bH n/\v1=((bH n).length:Int)/\0<=v2/\v2<=v1/\X6 (oh AO xL) ((bH n).drop v2.toNat) v5.n v5.bad=U7 n vars | .Rj v0 v1 v2 _ _ v5=>vars=true/\v0=bH n/\v1=((bH n).length:Int)/\0<=v2/\v2<=v1/\X6 (oh U6 Nl) ((bH n).drop v2.toNat) v5.n v5.bad=U7 n vars | .Rk v0 v1 v2 v3 _ _ v6=>vars=false/\v3=n/\n.kind=3/\v0=n.keys/\v1=(n.keys.length:Int)/\0<=v2/\v2<=v1/\SG (oh AO xL) (n.keys.drop v2.toNat) (n.kids.drop v2.toNat) v6.n v6.bad=U7 n vars | .Rl v0 v1 v2 v3 _ _ v6=>vars=true/\v3=n/\n.kind=3/\v0=n.keys/\v1=(n.keys.length:Int)/\0<=v2/\v2<=v1/\SG (oh U6 Nl) (n.keys.drop v2.toNat) (n.kids.drop v2.toNat) v6.n v6.bad=U7 n vars) ⟨rfl,rfl⟩ ?_;rintro(⟨y0,y1⟩ | ⟨v0,v1,v2,v3,v4,⟨o,bad⟩⟩ | ⟨v0,v1,v2,v3,v4,⟨o,bad⟩⟩ | ⟨v0,v1,v2,v3,v4,v5,⟨o,bad⟩⟩ | ⟨v0,v1,v2,v3,v4,v5,⟨o,bad⟩⟩) hs'
  · obtain⟨rfl,rfl⟩:=hs';simp only[aM,bg,lG,rZ,aV,aG];simp only[dQ];have h1:=AP y0 hl;have h2:=jN;have h4:=aiY;have h5:LM true=oh U6 Nl:=rfl;have h6:LM false=oh AO xL:=rfl
    (repeat' (first|intro _|apply And.intro))<;>grind[U7,JX,JY,aeh,rF,qY]
  all_goals
    first
    | (obtain⟨rfl,rfl,rfl,h1,h2,h4⟩:=hs'
       simp only[aM,bg,lG,iG,aV,aG];simp only[dQ];have e1:=@cO (v2+1);by_cases hi:v2<((bH n).length:Int)
       · rw[fJ (bH n) Df.d h1 hi,X6]at h4;have h5:=qZ hs v2.toNat;generalize (bH n).getD v2.toNat Df.d=s at h4 h5 ⊢;have h6:=aiX s [61];have h7:=fun b=>iC ⟨o,b⟩ (mg s [61]) (dz (qm s [61]))
         have h8:mg s NT=mg s [61]:=rfl;have h9:qm s NT=qm s [61]:=rfl;rw[h8,h9]at h4
         first | rw[oW _ (by omega)] | rw[Nn _ (by omega)]
         (repeat' (first|intro _|apply And.intro))<;>grind[dS]
       · rw[iN (bH n) (by omega),X6]at h4;have h5:=iH ⟨o,bad⟩
         (repeat' (first|intro _|apply And.intro))<;>grind[JX,JY])
    | (obtain⟨rfl,rfl,h0,rfl,rfl,h1,h2,h4⟩:=hs'
       have hkk:=h3 h0;simp only[aM,bg,lG,iG,aV,aG];simp only[dQ];have e1:=@cO (v2+1);by_cases hi:v2<(v3.keys.length:Int)
       · rw[fJ v3.keys Df.d h1 hi,fJ v3.kids Df.d h1 (by omega),SG]at h4;have h5:=qZ hs2 v2.toNat;generalize v3.keys.getD v2.toNat Df.d=s at h4 h5 ⊢;generalize v3.kids.getD v2.toNat Df.d=y at h4 ⊢;have h7:=fun b=>iC ⟨o,b⟩ s (dz y.text)
         first | rw[oW _ h5] | rw[Nn _ h5]
         (repeat' (first|intro _|apply And.intro))<;>grind[dS]
       · rw[iN v3.keys (by omega),SG]at h4;have h5:=iH ⟨o,bad⟩
         (repeat' (first|intro _|apply And.intro))<;>grind[JX,JY]
         all_goals (intro a b c d e;cases e))
end
end Go.Proofs.YtclnniijooeajaaGreatDoor.Rf
