/- Part 5 of a proof: the texts I4 M2 T1 T2 T3 T4 T5 T6 T7 T8 T9 T10 T11 T12 T13 T14 T15 T16 T17 X1 X2 X3 X4 X5, one behind the other. -/
import Derived.Test.YtclnniijooeajaaGreatDoorSw1
import Derived.Test.YtclnniijooeajaaGreatDoorSw4
import Derived.WalkKit
noncomputable section
namespace Go.Proofs.YtclnniijooeajaaGreatDoor.Rf
open Go Go.RowKit Go.Sort Go.Proofs.YtclnniijooeajaaGreatDoor.bg
section
def Uj:jC E:=fnG (E:=E) [.str] [.bool] fun a=>iN a
theorem afb:bG E 200 Uj:=T9.top (by kernel_rfl)
theorem ayn {f:FuncId} {a t:E.Ty} {ok:E.Den a->Bool} {F:E.Den a->E.Den t} (ex:∃fn,Tryz.prog.funcs[f]? = some fn/\(fn.name == "runtime.NumGoroutine")=false/\fn.body.isNone=false) (h:∀x,ok x=true->DW E f [⟨a,x⟩] [⟨t,F x⟩]):bG E f (EO a t ok F) :=
 ⟨ex,fun args r hr=>by
  unfold EO at hr;split at hr
  ·split at hr
   ·rename_i x hx;injection hr with hr
    injection hr with h1 h2
    subst h2;rw[iC hx];exact h _ h1
   ·cases hr
  ·cases hr⟩
section
noncomputable abbrev Ox:Func:=Tryz.f198
noncomputable def af3:Code:=.seq (.region 9 (i7 9) false) .ret
theorem ayo:Ox.body=some (.seq (.region 0 (i7 0) false) (.seq (.seq (.region 1 (i7 1) false) (.cond (.tmp 11) (.seq (.region 2 (i7 2) false) .ret) .skip)) (.seq (.seq (.region 3 (i7 3) false) (.cond (.tmp 13) (.seq (.region 4 (i7 4) false) .ret) .skip))
  (.seq (.seq (.region 5 (i7 5) false) (.block 0 (.rangeFunc (.tmp 16) #[17] A3 B4))) af3)))):=by kernel_rfl
noncomputable def mT:List (FuncId×Func):=[(228,Tryz.f228),(239,Tryz.f239)]
noncomputable def mO:aI E:=Z6 (jX [(200,Uj)]) mT
theorem VX:aK E mO:=ahk (gq (.cons afb .nil) .nil .nil .nil) mix (.cons (by kernel_rfl) (by kernel_rfl) (by kernel_rfl) (.cons (by kernel_rfl) (by kernel_rfl) (by kernel_rfl) .nil))
def bx0:List (Nat×aS E):=[(0,.box [.d (.bool false)])]
def X5(r:aqO):au E:=⟨28,[(2,.ptr 0 0),(16,.fn 241 [] [.ptr 36 0,.ptr 35 0,.ptr 37 0])],[(0,.box [.d (.bool false)]),(35,.box [.d (.str r)]),(36,.box [.d (.str [47])]),(37,.box [.d (.int .i64 0)])],60⟩
def c1(p:Bool)(s:aqO):Bool:=bif(!p)then true else((((List.getD s (Int.toNat (0:Int)) 0).toNat:Nat):Int)!=(47:Int))
theorem aEu(s:aqO):mK mO (i7 0) 28 [(0,.d (.str s))] (i7 0).toList [] [] 0 (pk [0,2] [0] 10)=some ⟨28,[(0,.d (.str s)),(2,.ptr 0 0)],bx0,10⟩:=by kernel_rfl
theorem aEv(s:aqO):mK mO (i7 1) 28 [(0,.d (.str s)),(2,.ptr 0 0)] (i7 1).toList [] bx0 10 (pk [11,0,2] [0] 20)=bif(iN s).isSome then bif((decide ((0:Int)<=0)&&decide ((0:Int)<(s.length:Int))) || !(!(!(gv (iN s)))))then some ⟨28,[(11,.d (.bool (c1 (gv (iN s)) s))),(0,.d (.str s)),(2,.ptr 0 0)],bx0,20⟩else none else none:=by kernel_rfl
theorem aEw(s:aqO)(b:Bool):mK mO (i7 3) 28 [(11,.d (.bool b)),(0,.d (.str s)),(2,.ptr 0 0)] (i7 3).toList [] bx0 20 (pk [13,0,2] [0] 30)=some ⟨28,[(13,.d (.bool (s==[47]))),(0,.d (.str s)),(2,.ptr 0 0)],bx0,30⟩:=by kernel_rfl
theorem aEx(s:aqO)(b:Bool):mK mO (i7 5) 28 [(13,.d (.bool b)),(0,.d (.str s)),(2,.ptr 0 0)] (i7 5).toList [] bx0 30 (pk [2,16] [0,35,36,37] 60) =
  bif decide ((0:Int)<=1)&&decide ((1:Int)<=(s.length:Int))&&decide ((s.length:Int)<=(s.length:Int))then some (X5 (List.take (Int.toNat (s.length:Int)-Int.toNat 1) (List.drop (Int.toNat 1) s)))else none:=by kernel_rfl
noncomputable def af4(e:dN)(S:au E):Option (List (TV E)):=match e with | .ret=>Ku Ox .ret S | _=>none
theorem e2(s:aqO)(b:Bool):evU mO {} 1 (.seq (.region 2 (i7 2) false) .ret) ⟨28,[(11,.d (.bool b)),(0,.d (.str s)),(2,.ptr 0 0)],bx0,20⟩ af4=some [⟨.bool,false⟩]:=by kernel_rfl
theorem e4(s:aqO)(b:Bool):evU mO {} 1 (.seq (.region 4 (i7 4) false) .ret) ⟨28,[(13,.d (.bool b)),(0,.d (.str s)),(2,.ptr 0 0)],bx0,30⟩ af4=some [⟨.bool,true⟩]:=by kernel_rfl
theorem e9(r:aqO):evU mO {} 1 af3 ⟨28,[(2,.ptr 0 0)],lg r,210⟩ (Ku Ox)=some [⟨.bool,true⟩]:=by kernel_rfl
theorem avf{w:World}{ro:Nat->Nat->Prop}(s:aqO)(kH:∀k o,ro k o->k<w.heap.size):bO E ⟨w,none,none,[],fun _=>none⟩ ro ⟨28,[(0,.d (.str s))],[],0⟩ { tmps:=#[.string ⟨s.toArray⟩]++Array.replicate (28-1) undef,defers:=[] } w (fun _=>none) ro where
 base:=⟨⟨rfl,rfl,rfl,abn _,fun _ _ _=>rfl⟩,kH,fun k o h=>.inl h,(fun id gh k h=>by cases h),rfl,(fun q h=>by cases h),(fun k o h=>by cases h)⟩
 size:=by simp
 tmps:=fun t x hl=>by
  simp only[bg.look]at hl;cases hb:Nat.beq 0 t with
  | true =>rw[hb]at hl;have:=aaF hb;subst this;cases hl;exact⟨.string ⟨s.toArray⟩,by rw[Array.getElem?_append_left (by simp)];rfl,aO.d _ _ (.str s)⟩
  | false=>rw[hb]at hl;cases hl
 objs:=fun id o hl=>by cases hl
 inj:=fun id id' o o' gh bq k hl=>by cases hl
 fresh:=fun _ _=>rfl
 ids:=fun id o hl=>by cases hl
theorem arX{w w':World}{k:Nat}(h:w'.heap[k]? = w.heap[k]?)(o:Nat):w'.cell? ⟨k,o,none⟩=w.cell? ⟨k,o,none⟩:=by unfold World.cell?;rw[h]
def RB(W:World)(aP:Nat->Nat->Prop)(res:List (TV E))(e:Ending)(w':World):Prop:=∃v,e = .returned v/\Below W.heap.size W w'/\pQ E w' (fun k o=>aP k o\/(W.heap.size<=k/\k<w'.heap.size)) v res
theorem leave0{W:World}{aP:Nat->Nat->Prop}{res:List (TV E)}{e:dN}{S':au E}{a':Act}{w':World}{ι':Nat->Option Gh}{ro':Nat->Nat->Prop}(nc':aR S'.tmps)(g':bO E ⟨W,none,none,[],fun _=>none⟩ aP S' a' w' ι' ro')(hk:Ku Ox e S'=some res) :
  bodyPostM Fence.wide 0 Tryz.prog Ox (RB W aP res) e.toExit a' w':=by
 have q4:=EN nc' g' hk;have hd:a'.defers=[]:=g'.base.defers;cases e with
 | normal=>show LeavesInM _ _ _ _ _ _ a'.defers _ _;rw[hd];exact q4.2
 | ret=>show LeavesInM _ _ _ _ _ _ a'.defers _ _;rw[hd];exact q4.2
 | exit id=>cases hk
 | goto l=>cases hk
theorem leave1{W:World}{D:Nat}{aP:Nat->Nat->Prop}{res:List (TV E)}{e:dN}{S':au E}{a':Act}{w':World}{ι':Nat->Option Gh}{ro':Nat->Nat->Prop}(hWw:W.heap.size<=D)(nc':aR S'.tmps)
  (g':bO E ⟨W,none,none,[{ target:=.collected D,args:=#[] }],fun k=>if k=D then some (.deferred (some []))else none⟩ aP S' a' w' ι' ro') (hk:Ku Ox e S'=some res) :
  bodyPostM Fence.wide 0 Tryz.prog Ox (RB W aP res) e.toExit a' w':=by
 have hdD:=(g'.base.held D (.deferred (some [])) (if_pos rfl)).1;have hdf:a'.defers=[{ target:=.collected D,args:=#[] }]:=g'.base.defers;obtain⟨q1,q2⟩:=g'.amE rfl (l:=D) (o:=.deferred (some [])) (o':=.deferred none) (if_pos rfl) hWw rfl rfl;have q3:bO E ⟨W,none,none,[],fun _=>none⟩ aP S' { a' with defers:=[] } (w'.putObj D (.deferred none)) ι' ro' :=
  q1.turn rfl (H:=fun _=>none) (dl:=[]) rfl rfl rfl rfl rfl (abn _) (fun _ _=>.inr rfl) (fun _ _ _=>rfl) (fun k o hk=>by cases hk)
 have q4:=EN nc' q3 hk;cases e with
 | normal=>show LeavesInM _ _ _ _ _ _ a'.defers _ _;rw[hdf];exact⟨by simp,.inl ⟨D,_,rfl,run_takeDeferred hdD,q4.2⟩⟩
 | ret=>show LeavesInM _ _ _ _ _ _ a'.defers _ _;rw[hdf];exact⟨by simp,.inl ⟨D,_,rfl,run_takeDeferred hdD,q4.2⟩⟩
 | exit id=>cases hk
 | goto l=>cases hk
def qG(s:aqO):Bool:=gv (iN s)&&(s.headD 0==47)&&((s==[47]) || !(rP (s.drop 1)).any jS)
theorem arY(s:aqO)(hs:s.length<=1000000)(p:Bool)(hp:iN s=some p)(h0:p=true->0<s.length):DW E 198 [⟨.str,s⟩] [⟨.bool,qG s⟩]:=by
 intro W aP vals hargs kH
 match vals,hargs with
 | [u],⟨h1,_⟩ =>
 have eu:u = .string ⟨s.toArray⟩:=by
  rcases h1 with⟨ha,_⟩ | ⟨_,d,hd,hr⟩
  ·cases ha
  ·have hd:([.str s]:List (bC E.Den))=[d]:=hd;injection hd with hd _
   subst hd;cases hr;rfl
 subst eu;refine(callsIn_wide (n:=0)).1 (callsIn_of_wp_marks (show Tryz.prog.funcs[198]? = some Ox by kernel_rfl) ayo trivial ?_);have hnt:Ox.ntmps=28:=by kernel_rfl
 rw[hnt,show([Value.string ⟨s.toArray⟩].toArray:Array Value) = #[.string ⟨s.toArray⟩]from rfl,show(#[Value.string ⟨s.toArray⟩]:Array Value).size=1 from rfl];show Code.wpIn (Wd none) 0 Tryz.prog _ (bodyPostM Fence.wide 0 Tryz.prog Ox (RB W aP [⟨.bool,qG s⟩])) _ W;refine wpIn_seq ?_;refine yj VX rfl (fun p hp=>by simp at hp;subst hp;rfl) (avf s kH) (by kernel_rfl) _ _ _ _ (aEu s) fun a0 w0 ι0 r0 nc0 g0 k0=>?_
 refine wpIn_seq (wpIn_seq ?_);have hg1:gv (iN s)=p:=by rw[hp];rfl
 have h1:=aEv s;rw[hg1,show(iN s).isSome=true by rw[hp];rfl,cond_true,show((decide ((0:Int)<=0)&&decide ((0:Int)<(s.length:Int))) || !(!(!p)))=true by
  cases p with
  | false=>simp
  | true=>simp[h0 rfl],cond_true]at h1
 refine yj VX rfl nc0 g0 (by kernel_rfl) _ _ _ _ h1 fun a1 w1 ι1 r1 nc1 g1 k1=>?_
 have hb1:=Ke g1 (t:=11) (b:=c1 p s) rfl;have hc1:c1 p s = !(p&&(s.headD 0==47)):=by
  unfold c1;cases p with
  | false=>rfl
  | true =>
   have hl:=h0 rfl
   match s,hl with
   | c::r,_ =>
    show(((c.toNat:Nat):Int)!=47) = !(true&&(c==47));rw[aeu,Bool.eq_iff_iff];simp only[bne_iff_ne,ne_eq,ajC,agA];constructor
    ·intro h e;exact h (by rw[e];rfl)
    ·intro h e;have e:c.toNat=47:=by omega
     exact h (UInt8.toNat_inj.1 (by rw[e];rfl))
 have aAv:∀(c:Code) (S:au E) (a:Act) (w:World) (ι:Nat->Option Gh) (ro:Nat->Nat->Prop) (Q:Exit->Act->World->Prop),aR S.tmps->bO E ⟨W,none,none,[],fun _=>none⟩ aP S a w ι ro->evU mO {} 1 c S af4=some [⟨.bool,qG s⟩] ->
   (∀a' w',bodyPostM Fence.wide 0 Tryz.prog Ox (RB W aP [⟨.bool,qG s⟩]) .ret a' w'->Q .ret a' w')->Code.wpIn (Wd none) 0 Tryz.prog c Q a w:=by
  intro c S a w ι ro Q nc g he hq;show Code.wpIn Fence.wide 0 Tryz.prog c _ a w;refine wpIn_wide.2 ?_;exact Tm (rr:=[⟨.bool,qG s⟩]) (n:=S.n) VX mix (h:={}) (m:=1) c S af4 _ a w ι ro nc g rfl he fun e S' a' w' ι' ro' nc' g' hn' hk=>by
   cases e with
   | ret=>exact hq _ _ (leave0 (e:=.ret) nc' g' hk)
   | normal=>cases hk
   | exit id=>cases hk
   | goto l=>cases hk
 cases hcc:c1 p s with
 | true =>
  rw[hcc]at hb1;have hv:qG s=false:=by rw[hcc]at hc1;unfold qG;rw[hg1,show(p&&(s.headD 0==47))=false by cases hx:(p&&(s.headD 0==47))with | false=>rfl | true=>(rw[hx]at hc1;cases hc1)];rfl
  refine wpIn_cond_true hb1 ?_;exact aAv _ _ a1 w1 ι1 r1 _ nc1 g1 (by rw[hv];exact e2 s _) fun _ _ h=>h
 | false =>
 rw[hcc]at hb1;have hv:qG s=((s==[47]) || !(rP (s.drop 1)).any jS):=by rw[hcc]at hc1;unfold qG;rw[hg1,show(p&&(s.headD 0==47))=true by cases hx:(p&&(s.headD 0==47))with | true=>rfl | false=>(rw[hx]at hc1;cases hc1),aeu]
 have hlen:0<s.length:=by
  refine h0 ?_;rw[hcc]at hc1;cases p with
  | true=>rfl
  | false=>cases hc1
 refine wpIn_cond_false hb1 (wpIn_skip ?_);refine wpIn_seq (wpIn_seq ?_);refine yj VX rfl nc1 g1 (by kernel_rfl) _ _ _ _ (aEw s _) fun a3 w3 ι3 r3 nc3 g3 k3=>?_
 have hb3:=Ke g3 (t:=13) (b:=s==[47]) rfl;cases hc3:s==[47]with
 | true =>rw[hc3]at hb3;refine wpIn_cond_true hb3 ?_;exact aAv _ _ a3 w3 ι3 r3 _ nc3 g3 (by rw[hv,hc3];exact e4 s _) fun _ _ h=>h
 | false =>
 rw[hc3]at hb3;rw[hc3,ajH]at hv;refine wpIn_cond_false hb3 (wpIn_skip ?_);refine wpIn_seq (wpIn_seq ?_);have h5:=aEx s (s==[47]);rw[dT (show(0:Int)<=1 by omega),dT (show(1:Int)<=(s.length:Int) by omega),dT (show(s.length:Int)<=(s.length:Int) by omega)]at h5;simp only[adM,cond_true,aaE]at h5;rw[show List.take (s.length-Int.toNat 1) (List.drop (Int.toNat 1) s)=s.drop 1 from aej (by rw[adH];exact abn _)]at h5;refine yj VX rfl nc3 g3 (by kernel_rfl) _ _ _ _ h5 fun a w ι ro nc g k5=>?_
 obtain⟨v6,h6,r6⟩:=g.tmps 2 (.ptr 0 0) rfl;obtain⟨v10,h10,r10⟩:=g.tmps 16 (.fn 241 [] [.ptr 36 0,.ptr 35 0,.ptr 37 0]) rfl;have r6:aO E w ro ι v6 (.ptr 0 0):=r6;have r10:aO E w ro ι v10 (.fn 241 [] [.ptr 36 0,.ptr 35 0,.ptr 37 0]):=r10;cases r6 with
 | ptr xY g6 _ _ hi0 hv0 =>
 cases r10 with
 | fn _ vs us _ _ hvs WJ _ hur =>
 have aEy:vs = #[]:=ajb hvs;subst aEy;obtain⟨us⟩:=us
 match us,WJ,hur with
 | [x,q,r],_,hur =>
 have rp:aO E w ro ι x (.ptr 36 0):=hur 0 x _ rfl rfl;have rq:aO E w ro ι q (.ptr 35 0):=hur 1 q _ rfl rfl;have rr:aO E w ro ι r (.ptr 37 0):=hur 2 r _ rfl rfl;cases rp with
 | ptr ZV b2 _ _ hi2 hv2 =>
 cases rq with
 | ptr gh1 b1 _ _ hi1 hv1 =>
 cases rr with
 | ptr gh3 b3 _ _ hi3 hv3 =>
 obtain⟨_,g4'⟩:=Mk (w0:=⟨W,none,none,[],fun _=>none⟩) (S:=X5 (s.drop 1)) [0,35,36,37] (by decide) [] (fun t y h=>by cases h) (fun q h=>by cases h) nc g;generalize hι:(fun j:Nat=>((([0,35,36,37]:List Nat)[j]?).bind ι:Option Gh))=ι4 at g4';have g4:bO E ⟨W,none,none,[],fun _=>none⟩ aP ⟨28,[],lg (s.drop 1),5⟩ a w ι4 ro:=g4'.frame g4'.base.defers g4'.size g4'.tmps (by show 4<=5;omega);have hcap:aAu ι4 #[.pointer (some ⟨b2,0,none⟩),.pointer (some ⟨b1,0,none⟩),.pointer (some ⟨b3,0,none⟩)]:=by subst hι;exact⟨gh1,ZV,gh3,b1,b2,b3,rfl,⟨hi1,hv1⟩,⟨hi2,hv2⟩,⟨hi3,hv3⟩⟩
 have aEz:ι4 0=some xY:=by subst hι;exact hi0
 have hda:a.defers=[]:=g4.base.defers;have hsz:a.tmps.size=28:=g4.size;have hWw:W.heap.size<=w.heap.size:=g4.base.below.size;refine wpIn_block ?_;refine wpIn_rangeFunc fun fn hfn=>?_
 let KR:Loop:=rc fn a.tmps w.heap.size .ready none;let W1:World:=(w.alloc (.deferred (some []))).alloc (.loop KR);have hfr:∀k,k<w.heap.size->W1.heap[k]? = w.heap[k]? := fun k hk =>(Below.heap_alloc (w.alloc (.deferred (some []))) (.loop KR) k (by rw[World.size_alloc];omega)).trans (Below.heap_alloc w (.deferred (some [])) k hk)
 have hD:W1.heap[w.heap.size]? = some (.deferred (some [])):=(Below.heap_alloc (w.alloc (.deferred (some []))) (.loop KR) _ (by rw[World.size_alloc];omega)).trans (World.alloc_heap_new w _);have hL:W1.heap[w.heap.size+1]? = some (.loop KR):=by have:=World.alloc_heap_new (w.alloc (.deferred (some []))) (.loop KR);rwa[World.size_alloc]at this
 have hgW:bO E (Bh W (w.heap.size+1) w.heap.size (.loop KR)) aP ⟨28,[],lg (s.drop 1),5⟩ a W1 ι4 ro:=by
  refine g4.turn rfl (H:=hd (w.heap.size+1) w.heap.size (.loop KR)) (dl:=[]) hda rfl rfl rfl rfl (by show w.heap.size<=((w.alloc (.deferred (some []))).alloc (.loop KR)).heap.size;rw[World.size_alloc,World.size_alloc];omega) (fun k hk=>.inr (hfr k hk)) (fun k o hk=>arX (hfr k hk) o) (fun k o hk=>?_);have hgh:∀id gh,ι4 id=some gh->∀k,w.heap.size<=k->gh.blk≠some k:=fun id gh h1 k h2 h3=>by have:=(g4.base.tO id gh k h1 h3).2;omega
  unfold hd at hk;split at hk
  ·rename_i e;subst e;cases hk;exact⟨hL,fun id gh h1=>hgh id gh h1 _ (by omega)⟩
  ·split at hk
   ·rename_i e;subst e;cases hk;exact⟨hD,fun id gh h1=>hgh id gh h1 _ (by omega)⟩
   ·cases hk
 have hev:a.eval (.tmp 16) = .func (.func 241) #[] #[.pointer (some ⟨b2,0,none⟩),.pointer (some ⟨b1,0,none⟩),.pointer (some ⟨b3,0,none⟩)]:=by simp[Act.eval,h10]
 refine⟨w.heap.size+1,[{ target:=.collected w.heap.size,args:=#[] }],W1, { target:=.fn (.func 241) #[.pointer (some ⟨b2,0,none⟩),.pointer (some ⟨b1,0,none⟩),.pointer (some ⟨b3,0,none⟩)],args:=#[.func (.yield (w.heap.size+1)) #[] #[]] },W1,241,
  #[.func (.yield (w.heap.size+1)) #[] #[]] ++ #[.pointer (some ⟨b2,0,none⟩),.pointer (some ⟨b1,0,none⟩),.pointer (some ⟨b3,0,none⟩)],W1,run_enterLoop_outer fn a.tmps #[17] A3 B4,?_,fun _ _=>trivial,?_,fun h=>(by cases h),?_⟩
 ·simp only[resolve,hev];simp[go_sem]
 ·have h1:Tryz.prog.funcs[241]? = some Tryz.f241:=by kernel_rfl
  have h2:((Tryz.f241).name == "runtime.NumGoroutine")=false:=by kernel_rfl
  have h3:(Tryz.f241).body.isNone=false:=by kernel_rfl
  have hn:¬ (Tryz.f241).name = "runtime.NumGoroutine" := by intro e;rw[e]at h2;simp at h2
  have hb:¬ (Tryz.f241).body=none:=by intro e;rw[e]at h3;simp at h3
  simp only[invoke,callFunc];simp[h1,hn,hb,program,Sem.run]
 ·refine aaA.2 ((aym (by omega) hsz h6 hv0 (by rw[adH];omega) aEz hcap hgW).mono fun e w5 he=>?_);obtain⟨⟨v,rfl⟩,ι5,ro5,rest,hi5,g5⟩:=he;have hbs:(Ow fn a.tmps w.heap.size ((rP (s.drop 1)).any jS)) = .loop { KR with state:=bif(rP (s.drop 1)).any jS then .done else .ready,pending:=bif(rP (s.drop 1)).any jS then some .ret else none }:=rfl;rw[hbs]at g5;refine⟨bif(rP (s.drop 1)).any jS then some .ret else none,_,run_endLoop (aaD g5) (by cases(rP (s.drop 1)).any jS<;>simp),?_⟩;obtain⟨g6',_⟩:=aaC (o':=.loop { KR with state:=.exhausted,pending:=bif(rP (s.drop 1)).any jS then some .ret else none }) g5 (by omega) rfl rfl;have g7:=g6'.frame (a':=a) (m:=28) (nx:=210) (tm:=[(2,.ptr 0 0)]) hda hsz (fun t y hl=>by
   simp only[bg.look]at hl;cases hb:Nat.beq 2 t with
   | true =>rw[hb]at hl;have:=aaF hb;subst this;cases hl;exact⟨_,h6,aO.ptr xY g6 0 0 hi5 hv0⟩
   | false=>rw[hb]at hl;cases hl) (abn _)
  have g8:bO E ⟨W,none,none,[{ target:=.collected w.heap.size,args:=#[] }],fun k=>if k=w.heap.size then some (.deferred (some []))else none⟩ aP ⟨28,[(2,.ptr 0 0)],lg rest,210⟩ { a with defers:=[{ target:=.collected w.heap.size,args:=#[] }]++a.defers } (w5.putObj (w.heap.size+1) (.loop { KR with state:=.exhausted,pending:=bif(rP (s.drop 1)).any jS then some .ret else none })) ι5 ro5:=by
   refine g7.turn rfl (H:=fun k=>if k=w.heap.size then some (.deferred (some []))else none) (dl:=[{ target:=.collected w.heap.size,args:=#[] }]) (by show[_]++a.defers=_;rw[hda];rfl) rfl rfl rfl rfl (abn _) (fun _ _=>.inr rfl) (fun _ _ _=>rfl) (fun k o hk=>?_);split at hk
   ·rename_i e;subst e;cases hk;exact g7.base.held _ _ (by show hd _ _ _ _=_;unfold hd;rw[if_neg (by omega),if_pos rfl])
   ·cases hk
  cases hany:(rP (s.drop 1)).any jS with
  | false =>rw[hany]at g8 hv;show Code.wpIn Fence.wide 0 Tryz.prog af3 _ _ _;refine wpIn_wide.2 ?_;exact Tm (rr:=[⟨.bool,qG s⟩]) (n:=28) VX mix (h:={}) (m:=1) af3 _ (Ku Ox) _ _ _ ι5 ro5 (fun p hp=>by simp at hp;subst hp;rfl) g8 rfl (by rw[hv];exact e9 rest) fun e S' a' w' ι' ro' nc' g' hn' hk=>leave1 hWw nc' g' hk
  | true =>rw[hany]at g8 hv;refine wpIn_ret ?_;exact leave1 (e:=.ret) hWw (fun p hp=>by simp at hp;subst hp;rfl) g8 (by rw[hv];kernel_rfl)
def okT(s:aqO):Bool:=decide (s.length<=1000000)&&((iN s).isSome&&(!(gv (iN s))||decide (0<s.length)))
noncomputable def aea:jC E:=EO (E:=E) .str .bool okT qG
def aps:FuncId:=198
theorem apt:bG E aps aea:=ayn ⟨Ox,by kernel_rfl,by kernel_rfl,by kernel_rfl⟩ fun s hk=>by
 simp only[okT,abj,amf,ajC,adB]at hk;obtain⟨h1,h2,h3⟩:=hk;obtain⟨p,hp⟩:=Option.isSome_iff_exists.1 h2;refine arY s h1 p hp fun e=>?_
 rw[hp]at h3;rcases h3 with h | h
 ·subst e;cases h
 ·exact h
end
end
section
def Dc(x0:fO):Te (Bool) Empty:=.l (Gp x0.source) fun z5=>.l (sH x0.source 0) fun z4=>.l (qG x0.target) fun z3=>.l (iN x0.source) fun z2=>.l (aL (x0.source==[]) (gv z5)) fun z1=>.l ((z3&&(!z1))&&gv z2) fun z6=>.q (okT x0.target) (.q ((z5.isSome) || !(z3&&(!(x0.source==[])))) (.q ((z2.isSome) || !(z3&&(!z1))) (.q (fZ x0.source 0 || !z6) (.q (fZ x0.source 0 || !(z6&&(!(z4==47)))) (.k (aab z3 (aL z1 (aab (gv z2) (aL (z4==47) (z4==46))))))))))
def fT(x0:fO):=(Dc x0).o
def afc:=(acs.W 198 aea apt).f0 155 [.gZ] [.bool] (fun a=>Dc a) Tryz.func155
def Fe(x0:Node):Te (fO×Bool) Empty:=.c (aU ⟨aj x0,aC x0.keys,(x0.kind != 3)⟩ [115,111,117,114,99,101] []) fun y1=>.c (aU ⟨aj ((y1.1).n),(y1.1).left,(y1.1).bad⟩ [116,97,114,103,101,116] []) fun y2=>.c (eU ⟨aj ((y2.1).n),(y2.1).left,(y2.1).bad⟩ [114,101,97,100,95,111,110,108,121] false) fun y3=>.l (fT ⟨y1.2,y2.2,y3.2⟩) fun z1=>.c (aU ⟨aj ((y3.1).n),(y3.1).left,(y3.1).bad⟩ [116,121,112,101] [98,105,110,100]) fun y4=>.l (aab (!(y4.1).bad) ((y4.1).left==0)) fun z2=>.q ((z1.isSome) || !z2) (.k (⟨y1.2,y2.2,y3.2⟩,aab (aab z2 (gv z1)) (aL (aL (y4.2==[98,105,110,100]) (y4.2==[118,111,108,117,109,101])) (y4.2==[116,109,112,102,115]))))
def Fg(x0:Node):=(Fe x0).o
def aic:=afc.f0 98 [.ah] [.gZ,.bool] (fun a=>Fe a) Tryz.func98
def Dh(x0:aqO):Te (fO×Int) Empty:=.l (dflt .str) fun z2=>.l (d9 x0 [58] 0 (-1)) fun z1=>.l (aF 1 (aC z1)) fun z4=>.l (ak (aC z1-1)) fun z3=>.l (zL z1 z3 z2==[114,111]) fun z6=>.l (cut z1 0 z3) fun z5=>.q (Qt x0 [58] 0 (-1)) (.q (fZ z1 z3 || !z4) (.q (fZ z1 z3 || !(z4&&(!z6))) (.b (aab z4 (aL z6 (zL z1 z3 z2==[114,119]))) (.i z1 z3 fun y1=>.l (y1==[114,111]) fun z7=>.q (bN z1 0 z3) (.b (aC z5==1) (.i z5 0 fun y2=>.c (fT ⟨[],y2,z7⟩) fun y3=>.b (!y3) (.k (⟨[],[],false⟩,3)) (.k (⟨[],y2,z7⟩,0))) (.b (aC z5==2) (.i z5 0 fun y4=>.i z5 1 fun y5=>.b (y4==[]) (.k (⟨[],[],false⟩,3)) (.c (fT ⟨y4,y5,z7⟩) fun y6=>.b (!y6) (.k (⟨[],[],false⟩,3)) (.k (⟨y4,y5,z7⟩,0)))) (.c (fT ⟨[],[],z7⟩) fun y7=>.b (!y7) (.k (⟨[],[],false⟩,3)) (.k (⟨[],[],z7⟩,0)))))) (.b (aC z1==1) (.i z1 0 fun y8=>.c (fT ⟨[],y8,false⟩) fun y9=>.b (!y9) (.k (⟨[],[],false⟩,3)) (.k (⟨[],y8,false⟩,0))) (.b (aC z1==2) (.i z1 0 fun ig=>.i z1 1 fun wW=>.b (ig==[]) (.k (⟨[],[],false⟩,3)) (.c (fT ⟨ig,wW,false⟩) fun mX=>.b (!mX) (.k (⟨[],[],false⟩,3)) (.k (⟨ig,wW,false⟩,0)))) (.c (fT ⟨[],[],false⟩) fun y13=>.b (!y13) (.k (⟨[],[],false⟩,3)) (.k (⟨[],[],false⟩,0))))))))
def yt(x0:aqO):=(Dh x0).o
def afd:=aic.f0 99 [.str] [.gZ,.aW] (fun a=>Dh a) Tryz.func99 { frz:=[3] }
def Fj(x0:fO):Te ((aqO)) Empty:=.l (x0.source++([58]:aqO)) fun z1=>.l (z1++x0.target) fun z2=>.c (fT x0) fun y1=>.b (!y1) (.k []) (.b (!(x0.source==[])) (.q (decide (x0.source.length+([58]:aqO).length<=aA)) (.q (decide (z1.length+x0.target.length<=aA)) (.b x0.readOnly (.q (decide (z2.length+([58,114,111]:aqO).length<=aA)) (.k (z2++([58,114,111]:aqO)))) (.k z2)))) (.b x0.readOnly (.q (decide (x0.target.length+([58,114,111]:aqO).length<=aA)) (.k (x0.target++([58,114,111]:aqO)))) (.k x0.target)))
def vV(x0:fO):=(Fj x0).o
def aie:=afd.f0 100 [.gZ] [.str] (fun a=>Fj a) Tryz.func100
inductive RG where
 | e (x0:Node)
 | h0 (v0:List Node) (v1:Int) (v2:Int) (v3:Int) (v4:aqO) (v5:form)
 | h1 (v0:List (aqO)) (v1:Int) (v2:Int) (v3:Node) (v4:Int) (v5:aqO) (v6:form)
def nP:RG->Te (Node×Int) RG
 | .e x0=>.c (jJ (aj x0) 2) fun y1=>.b y1 (.g (.h0 x0.kids (aC x0.kids) 0 0 [] ⟨⟨0,[],[],[]⟩,false⟩)) (.c (jJ (aj x0) 3) fun y2=>.b y2 (.g (.h1 x0.keys (aC x0.keys) 0 x0 0 [] ⟨⟨0,[],[],[]⟩,false⟩)) (.c dW fun y3=>.k (aj (y3.1),y3.2)))
 | .h0 v0 v1 v2 v3 v4 v5=>.l (aj v5.n) fun z2=>.l (zL v0 v2 (dflt .ah)) fun z1=>.b (aF v2 v1) (.q (fZ v0 v2) (.c (Fg (aj z1)) fun y2=>.b (z1.kind==1) (.c (yt (z1.text)) fun y3=>.c (bX ⟨z2,v5.bad⟩ (!(y3.2==0))) fun y4=>.c (vV (y3.1)) fun y5=>.c (bZ ⟨aj ((y4.1).n),(y4.1).bad⟩ ((y3.1).target) (dx y5)) fun y6=>.g (.h0 v0 v1 (ak (v2+1)) v3 v4 ⟨aj ((y6.1).n),(y6.1).bad⟩)) (.c (bX ⟨z2,v5.bad⟩ (!y2.2)) fun y7=>.c (vV (y2.1)) fun y8=>.c (bZ ⟨aj ((y7.1).n),(y7.1).bad⟩ ((y2.1).target) (dx y8)) fun y9=>.g (.h0 v0 v1 (ak (v2+1)) v3 v4 ⟨aj ((y9.1).n),(y9.1).bad⟩)))) (.c (dA ⟨z2,v5.bad⟩) fun ig=>.k (aj (ig.2.1),ig.2.2))
 | .h1 v0 v1 v2 v3 v4 v5 v6=>.b (aF v2 v1) (.i v0 v2 fun y1=>.i v3.kids v2 fun y2=>.c (yt (y2.text)) fun y3=>.l (vV (y3.1)) fun z2=>.l (aL (aL (y2.kind != 1) (y3.2 != 0)) (!((y3.1).target==y1))) fun z1=>.q ((z2.isSome) || !(!z1)) (.c (bX ⟨aj v6.n,v6.bad⟩ (aL z1 (!(gv z2==y2.text)))) fun y4=>.c (bZ ⟨aj ((y4.1).n),(y4.1).bad⟩ y1 (aj y2)) fun y5=>.g (.h1 v0 v1 (ak (v2+1)) v3 v4 v5 ⟨aj ((y5.1).n),(y5.1).bad⟩))) (.c (dA ⟨aj v6.n,v6.bad⟩) fun y6=>.k (aj (y6.2.1),y6.2.2))
def tH(x0:Node):=mu nP (.e x0)
def afe:=aie.fl 46 [.ah] [.ah,.aW] nP (fun a=>.e a) (fun | .e x0=>.e [⟨.ah,x0⟩] | .h0 v0 v1 v2 v3 v4 v5=>.h 0 ⟨104,[(2,.ptr 0 0),(4,.ptr 1 0),(22,.d (.slice .ah v0)),(23,.d (.int .i64 v1)),(24,.d (.int .i64 v2))],[(0,.box [.d (.int .i64 v3),.d (.str v4),.d (.raw (.slice none 0 0)),.d (.raw (.slice none 0 0))]),(1,.box [.d (.int .i64 v5.n.kind),.d (.str v5.n.text),.d (.slice .str v5.n.keys),.d (.slice .ah v5.n.kids),.d (.bool v5.bad)])],2⟩ | .h1 v0 v1 v2 v3 v4 v5 v6=>.h 1 ⟨104,[(1,.ptr 0 0),(2,.ptr 1 0),(4,.ptr 2 0),(58,.d (.slice .str v0)),(59,.d (.int .i64 v1)),(60,.d (.int .i64 v2))],[(0,.box [.d (.int .i64 v3.kind),.d (.str v3.text),.d (.slice .str v3.keys),.d (.slice .ah v3.kids)]),(1,.box [.d (.int .i64 v4),.d (.str v5),.d (.raw (.slice none 0 0)),.d (.raw (.slice none 0 0))]),(2,.box [.d (.int .i64 v6.n.kind),.d (.str v6.n.text),.d (.slice .str v6.n.keys),.d (.slice .ah v6.n.kids),.d (.bool v6.bad)])],3⟩) { live:=[(0,[2,4,22,23,24]),(1,[1,2,4,58,59,60])],oC:=[(0,[(4,some 2,false,.str),(4,some 3,false,.ah)]),(1,[(4,some 2,false,.str),(4,some 3,false,.ah)])] } Tryz.func46
inductive jH where
 | e (x0:Node)
 | h0 (v0:List (aqO)) (v1:Int) (v2:Int) (v3:Node) (v4:Int) (v5:aqO) (v6:Node)
def fq:jH->Te (Node×(aqO)×Int) jH
 | .e x0=>.b (x0.kind==0) (.k (⟨3,[],[],[]⟩,[],0)) (.b (x0.kind != 3) (.k (⟨0,[],[],[]⟩,[],10)) (.g (.h0 x0.keys (aC x0.keys) 0 x0 0 [] ⟨3,[],[],[]⟩)))
 | .h0 v0 v1 v2 v3 v4 v5 v6=>.l (aj v6) fun z2=>.l (jH.h0 v0 v1 (ak (v2+1)) v3 v4 v5) fun z1=>.b (aF v2 v1) (.i v0 v2 fun y1=>.l (y1==[112,111,114,116,115]) fun z14=>.l (y1==[118,111,108,117,109,101,115]) fun z13=>.l (y1==[112,114,111,102,105,108,101,115]) fun z12=>.l (y1==[99,112,117,115]) fun zP=>.l (y1==[115,99,97,108,101]) fun rJ=>.l (y1==[114,101,115,116,97,114,116]) fun z9=>.l (y1==[101,120,116,101,110,100,115]) fun z8=>.l (y1==[110,101,116,119,111,114,107,115]) fun z7=>.l (y1==[109,101,109,95,108,105,109,105,116]) fun z6=>.l (y1==[100,101,112,101,110,100,115,95,111,110]) fun z5=>.l (y1==[104,101,97,108,116,104,99,104,101,99,107]) fun z4=>.l (y1==[101,110,118,105,114,111,110,109,101,110,116]) fun z3=>.i v3.kids v2 fun y2=>.l (aj y2) fun yu=>.l (tH yu) fun z29=>.l (vP yu z3) fun z28=>.l (um yu) fun z27=>.l (yQ yu) fun z26=>.l (yN yu) fun z25=>.l (vU yu) fun z24=>.l (vS yu) fun z23=>.l (tu yu) fun z22=>.l (q9 yu) fun z21=>.l (q8 yu) fun z20=>.l (y2.kind != 0) fun jZ=>.l (y2.kind==0) fun z17=>.l (fU z2 y1 yu) fun jD=>.l (z1 (bD z2 y1 yu)) fun jv=>.c (rG y1) fun y3=>.b y3 (.g (z1 v6)) (.b (y1==[105,109,97,103,101]) (.b z17 (.b jZ (.q jD (.g jv)) (.g (z1 v6))) (.c (yK yu) fun y4=>.b (y4.2 != 0) (.k (⟨0,[],[],[]⟩,y1,y4.2)) (.b ((y4.1).kind != 0) (.q (fU z2 y1 (aj (y4.1))) (.g (z1 (bD z2 y1 (aj (y4.1)))))) (.g (z1 v6))))) (.b (y1==[99,111,109,109,97,110,100]) (.b z17 (.b jZ (.q jD (.g jv)) (.g (z1 v6))) (.c (vO yu) fun y5=>.b (y5.2 != 0) (.k (⟨0,[],[],[]⟩,y1,y5.2)) (.b ((y5.1).kind != 0) (.q (fU z2 y1 (aj (y5.1))) (.g (z1 (bD z2 y1 (aj (y5.1)))))) (.g (z1 v6))))) (.b z3 (.b z3 (.b z17 (.b jZ (.q jD (.g jv)) (.g (z1 v6))) (.c z28 fun y6=>.b (y6.2 != 0) (.k (⟨0,[],[],[]⟩,y1,y6.2)) (.b ((y6.1).kind != 0) (.q (fU z2 y1 (aj (y6.1))) (.g (z1 (bD z2 y1 (aj (y6.1)))))) (.g (z1 v6))))) (.b z14 (.b z17 (.b jZ (.q jD (.g jv)) (.g (z1 v6))) (.c (rM yu) fun y7=>.b (y7.2 != 0) (.k (⟨0,[],[],[]⟩,y1,y7.2)) (.b ((y7.1).kind != 0) (.q (fU z2 y1 (aj (y7.1))) (.g (z1 (bD z2 y1 (aj (y7.1)))))) (.g (z1 v6))))) (.b z13 (.b z17 (.b jZ (.q jD (.g jv)) (.g (z1 v6))) (.c z29 fun y8=>.b (y8.2 != 0) (.k (⟨0,[],[],[]⟩,y1,y8.2)) (.b ((y8.1).kind != 0) (.q (fU z2 y1 (aj (y8.1))) (.g (z1 (bD z2 y1 (aj (y8.1)))))) (.g (z1 v6))))) (.b z7 (.b z7 (.b z17 (.b jZ (.q jD (.g jv)) (.g (z1 v6))) (.c z27 fun y9=>.b (y9.2 != 0) (.k (⟨0,[],[],[]⟩,y1,y9.2)) (.b ((y9.1).kind != 0) (.q (fU z2 y1 (aj (y9.1))) (.g (z1 (bD z2 y1 (aj (y9.1)))))) (.g (z1 v6))))) (.b z5 (.b z17 (.b jZ (.q jD (.g jv)) (.g (z1 v6))) (.c z25 fun ig=>.b (ig.2 != 0) (.k (⟨0,[],[],[]⟩,y1,ig.2)) (.b ((ig.1).kind != 0) (.q (fU z2 y1 (aj (ig.1))) (.g (z1 (bD z2 y1 (aj (ig.1)))))) (.g (z1 v6))))) (.b z8 (.b z17 (.b jZ (.q jD (.g jv)) (.g (z1 v6))) (.c z20 fun wW=>.b (wW.2 != 0) (.k (⟨0,[],[],[]⟩,y1,wW.2)) (.b ((wW.1).kind != 0) (.q (fU z2 y1 (aj (wW.1))) (.g (z1 (bD z2 y1 (aj (wW.1)))))) (.g (z1 v6))))) (.b z4 (.b z17 (.b jZ (.q jD (.g jv)) (.g (z1 v6))) (.c z22 fun mX=>.b (mX.2 != 0) (.k (⟨0,[],[],[]⟩,y1,mX.2)) (.b ((mX.1).kind != 0) (.q (fU z2 y1 (aj (mX.1))) (.g (z1 (bD z2 y1 (aj (mX.1)))))) (.g (z1 v6))))) (.b z9 (.b z17 (.b jZ (.q jD (.g jv)) (.g (z1 v6))) (.c z21 fun y13=>.b (y13.2 != 0) (.k (⟨0,[],[],[]⟩,y1,y13.2)) (.b ((y13.1).kind != 0) (.q (fU z2 y1 (aj (y13.1))) (.g (z1 (bD z2 y1 (aj (y13.1)))))) (.g (z1 v6))))) (.b rJ (.b z17 (.b jZ (.q jD (.g jv)) (.g (z1 v6))) (.c z23 fun zu=>.b (zu.2 != 0) (.k (⟨0,[],[],[]⟩,y1,zu.2)) (.b ((zu.1).kind != 0) (.q (fU z2 y1 (aj (zu.1))) (.g (z1 (bD z2 y1 (aj (zu.1)))))) (.g (z1 v6))))) (.b zP (.b z17 (.b jZ (.q jD (.g jv)) (.g (z1 v6))) (.c z26 fun y15=>.b (y15.2 != 0) (.k (⟨0,[],[],[]⟩,y1,y15.2)) (.b ((y15.1).kind != 0) (.q (fU z2 y1 (aj (y15.1))) (.g (z1 (bD z2 y1 (aj (y15.1)))))) (.g (z1 v6))))) (.b z6 (.b z17 (.b jZ (.q jD (.g jv)) (.g (z1 v6))) (.c z24 fun Ua=>.b (Ua.2 != 0) (.k (⟨0,[],[],[]⟩,y1,Ua.2)) (.b ((Ua.1).kind != 0) (.q (fU z2 y1 (aj (Ua.1))) (.g (z1 (bD z2 y1 (aj (Ua.1)))))) (.g (z1 v6))))) (.k (⟨0,[],[],[]⟩,y1,10)))))))))) (.b z12 (.b z17 (.b jZ (.q jD (.g jv)) (.g (z1 v6))) (.c z27 fun Ub=>.b (Ub.2 != 0) (.k (⟨0,[],[],[]⟩,y1,Ub.2)) (.b ((Ub.1).kind != 0) (.q (fU z2 y1 (aj (Ub.1))) (.g (z1 (bD z2 y1 (aj (Ub.1)))))) (.g (z1 v6))))) (.b z5 (.b z17 (.b jZ (.q jD (.g jv)) (.g (z1 v6))) (.c z25 fun Uc=>.b (Uc.2 != 0) (.k (⟨0,[],[],[]⟩,y1,Uc.2)) (.b ((Uc.1).kind != 0) (.q (fU z2 y1 (aj (Uc.1))) (.g (z1 (bD z2 y1 (aj (Uc.1)))))) (.g (z1 v6))))) (.b z8 (.b z17 (.b jZ (.q jD (.g jv)) (.g (z1 v6))) (.c z20 fun y19=>.b (y19.2 != 0) (.k (⟨0,[],[],[]⟩,y1,y19.2)) (.b ((y19.1).kind != 0) (.q (fU z2 y1 (aj (y19.1))) (.g (z1 (bD z2 y1 (aj (y19.1)))))) (.g (z1 v6))))) (.b z4 (.b z17 (.b jZ (.q jD (.g jv)) (.g (z1 v6))) (.c z22 fun y20=>.b (y20.2 != 0) (.k (⟨0,[],[],[]⟩,y1,y20.2)) (.b ((y20.1).kind != 0) (.q (fU z2 y1 (aj (y20.1))) (.g (z1 (bD z2 y1 (aj (y20.1)))))) (.g (z1 v6))))) (.b z9 (.b z17 (.b jZ (.q jD (.g jv)) (.g (z1 v6))) (.c z21 fun y21=>.b (y21.2 != 0) (.k (⟨0,[],[],[]⟩,y1,y21.2)) (.b ((y21.1).kind != 0) (.q (fU z2 y1 (aj (y21.1))) (.g (z1 (bD z2 y1 (aj (y21.1)))))) (.g (z1 v6))))) (.b rJ (.b z17 (.b jZ (.q jD (.g jv)) (.g (z1 v6))) (.c z23 fun y22=>.b (y22.2 != 0) (.k (⟨0,[],[],[]⟩,y1,y22.2)) (.b ((y22.1).kind != 0) (.q (fU z2 y1 (aj (y22.1))) (.g (z1 (bD z2 y1 (aj (y22.1)))))) (.g (z1 v6))))) (.b zP (.b z17 (.b jZ (.q jD (.g jv)) (.g (z1 v6))) (.c z26 fun y23=>.b (y23.2 != 0) (.k (⟨0,[],[],[]⟩,y1,y23.2)) (.b ((y23.1).kind != 0) (.q (fU z2 y1 (aj (y23.1))) (.g (z1 (bD z2 y1 (aj (y23.1)))))) (.g (z1 v6))))) (.b z6 (.b z17 (.b jZ (.q jD (.g jv)) (.g (z1 v6))) (.c z24 fun y24=>.b (y24.2 != 0) (.k (⟨0,[],[],[]⟩,y1,y24.2)) (.b ((y24.1).kind != 0) (.q (fU z2 y1 (aj (y24.1))) (.g (z1 (bD z2 y1 (aj (y24.1)))))) (.g (z1 v6))))) (.k (⟨0,[],[],[]⟩,y1,10)))))))))))))) (.b (y1==[108,97,98,101,108,115]) (.b z17 (.b jZ (.q jD (.g jv)) (.g (z1 v6))) (.c z28 fun y25=>.b (y25.2 != 0) (.k (⟨0,[],[],[]⟩,y1,y25.2)) (.b ((y25.1).kind != 0) (.q (fU z2 y1 (aj (y25.1))) (.g (z1 (bD z2 y1 (aj (y25.1)))))) (.g (z1 v6))))) (.b z14 (.b z17 (.b jZ (.q jD (.g jv)) (.g (z1 v6))) (.c (rM yu) fun y26=>.b (y26.2 != 0) (.k (⟨0,[],[],[]⟩,y1,y26.2)) (.b ((y26.1).kind != 0) (.q (fU z2 y1 (aj (y26.1))) (.g (z1 (bD z2 y1 (aj (y26.1)))))) (.g (z1 v6))))) (.b z13 (.b z17 (.b jZ (.q jD (.g jv)) (.g (z1 v6))) (.c z29 fun y27=>.b (y27.2 != 0) (.k (⟨0,[],[],[]⟩,y1,y27.2)) (.b ((y27.1).kind != 0) (.q (fU z2 y1 (aj (y27.1))) (.g (z1 (bD z2 y1 (aj (y27.1)))))) (.g (z1 v6))))) (.b z7 (.b z7 (.b z17 (.b jZ (.q jD (.g jv)) (.g (z1 v6))) (.c z27 fun y28=>.b (y28.2 != 0) (.k (⟨0,[],[],[]⟩,y1,y28.2)) (.b ((y28.1).kind != 0) (.q (fU z2 y1 (aj (y28.1))) (.g (z1 (bD z2 y1 (aj (y28.1)))))) (.g (z1 v6))))) (.b z5 (.b z17 (.b jZ (.q jD (.g jv)) (.g (z1 v6))) (.c z25 fun y29=>.b (y29.2 != 0) (.k (⟨0,[],[],[]⟩,y1,y29.2)) (.b ((y29.1).kind != 0) (.q (fU z2 y1 (aj (y29.1))) (.g (z1 (bD z2 y1 (aj (y29.1)))))) (.g (z1 v6))))) (.b z8 (.b z17 (.b jZ (.q jD (.g jv)) (.g (z1 v6))) (.c z20 fun Xj=>.b (Xj.2 != 0) (.k (⟨0,[],[],[]⟩,y1,Xj.2)) (.b ((Xj.1).kind != 0) (.q (fU z2 y1 (aj (Xj.1))) (.g (z1 (bD z2 y1 (aj (Xj.1)))))) (.g (z1 v6))))) (.b z4 (.b z17 (.b jZ (.q jD (.g jv)) (.g (z1 v6))) (.c z22 fun y31=>.b (y31.2 != 0) (.k (⟨0,[],[],[]⟩,y1,y31.2)) (.b ((y31.1).kind != 0) (.q (fU z2 y1 (aj (y31.1))) (.g (z1 (bD z2 y1 (aj (y31.1)))))) (.g (z1 v6))))) (.b z9 (.b z17 (.b jZ (.q jD (.g jv)) (.g (z1 v6))) (.c z21 fun y32=>.b (y32.2 != 0) (.k (⟨0,[],[],[]⟩,y1,y32.2)) (.b ((y32.1).kind != 0) (.q (fU z2 y1 (aj (y32.1))) (.g (z1 (bD z2 y1 (aj (y32.1)))))) (.g (z1 v6))))) (.b rJ (.b z17 (.b jZ (.q jD (.g jv)) (.g (z1 v6))) (.c z23 fun y33=>.b (y33.2 != 0) (.k (⟨0,[],[],[]⟩,y1,y33.2)) (.b ((y33.1).kind != 0) (.q (fU z2 y1 (aj (y33.1))) (.g (z1 (bD z2 y1 (aj (y33.1)))))) (.g (z1 v6))))) (.b zP (.b z17 (.b jZ (.q jD (.g jv)) (.g (z1 v6))) (.c z26 fun y34=>.b (y34.2 != 0) (.k (⟨0,[],[],[]⟩,y1,y34.2)) (.b ((y34.1).kind != 0) (.q (fU z2 y1 (aj (y34.1))) (.g (z1 (bD z2 y1 (aj (y34.1)))))) (.g (z1 v6))))) (.b z6 (.b z17 (.b jZ (.q jD (.g jv)) (.g (z1 v6))) (.c z24 fun y35=>.b (y35.2 != 0) (.k (⟨0,[],[],[]⟩,y1,y35.2)) (.b ((y35.1).kind != 0) (.q (fU z2 y1 (aj (y35.1))) (.g (z1 (bD z2 y1 (aj (y35.1)))))) (.g (z1 v6))))) (.k (⟨0,[],[],[]⟩,y1,10)))))))))) (.b z12 (.b z17 (.b jZ (.q jD (.g jv)) (.g (z1 v6))) (.c z27 fun y36=>.b (y36.2 != 0) (.k (⟨0,[],[],[]⟩,y1,y36.2)) (.b ((y36.1).kind != 0) (.q (fU z2 y1 (aj (y36.1))) (.g (z1 (bD z2 y1 (aj (y36.1)))))) (.g (z1 v6))))) (.b z5 (.b z17 (.b jZ (.q jD (.g jv)) (.g (z1 v6))) (.c z25 fun y37=>.b (y37.2 != 0) (.k (⟨0,[],[],[]⟩,y1,y37.2)) (.b ((y37.1).kind != 0) (.q (fU z2 y1 (aj (y37.1))) (.g (z1 (bD z2 y1 (aj (y37.1)))))) (.g (z1 v6))))) (.b z8 (.b z17 (.b jZ (.q jD (.g jv)) (.g (z1 v6))) (.c z20 fun y38=>.b (y38.2 != 0) (.k (⟨0,[],[],[]⟩,y1,y38.2)) (.b ((y38.1).kind != 0) (.q (fU z2 y1 (aj (y38.1))) (.g (z1 (bD z2 y1 (aj (y38.1)))))) (.g (z1 v6))))) (.b z4 (.b z17 (.b jZ (.q jD (.g jv)) (.g (z1 v6))) (.c z22 fun y39=>.b (y39.2 != 0) (.k (⟨0,[],[],[]⟩,y1,y39.2)) (.b ((y39.1).kind != 0) (.q (fU z2 y1 (aj (y39.1))) (.g (z1 (bD z2 y1 (aj (y39.1)))))) (.g (z1 v6))))) (.b z9 (.b z17 (.b jZ (.q jD (.g jv)) (.g (z1 v6))) (.c z21 fun y40=>.b (y40.2 != 0) (.k (⟨0,[],[],[]⟩,y1,y40.2)) (.b ((y40.1).kind != 0) (.q (fU z2 y1 (aj (y40.1))) (.g (z1 (bD z2 y1 (aj (y40.1)))))) (.g (z1 v6))))) (.b rJ (.b z17 (.b jZ (.q jD (.g jv)) (.g (z1 v6))) (.c z23 fun y41=>.b (y41.2 != 0) (.k (⟨0,[],[],[]⟩,y1,y41.2)) (.b ((y41.1).kind != 0) (.q (fU z2 y1 (aj (y41.1))) (.g (z1 (bD z2 y1 (aj (y41.1)))))) (.g (z1 v6))))) (.b zP (.b z17 (.b jZ (.q jD (.g jv)) (.g (z1 v6))) (.c z26 fun y42=>.b (y42.2 != 0) (.k (⟨0,[],[],[]⟩,y1,y42.2)) (.b ((y42.1).kind != 0) (.q (fU z2 y1 (aj (y42.1))) (.g (z1 (bD z2 y1 (aj (y42.1)))))) (.g (z1 v6))))) (.b z6 (.b z17 (.b jZ (.q jD (.g jv)) (.g (z1 v6))) (.c z24 fun y43=>.b (y43.2 != 0) (.k (⟨0,[],[],[]⟩,y1,y43.2)) (.b ((y43.1).kind != 0) (.q (fU z2 y1 (aj (y43.1))) (.g (z1 (bD z2 y1 (aj (y43.1)))))) (.g (z1 v6))))) (.k (⟨0,[],[],[]⟩,y1,10)))))))))))))))))) (.q ((wg 10000 1000) z2) (.k (aj ((fP 1000) z2),[],0)))
def jI(x0:Node):=mu fq (.e x0)
def Eu:=(((afe.I 18 Tryz.func18).I 20 Tryz.func20).I 43 Tryz.func43).cl 17 [.ah,.str,.aW] [.v .ah,.c 18 [] []] fq (fun a=>.e a) (fun | .e x0=>.c [.v ⟨.ah,x0⟩,.c 18 [] []] | .h0 v0 v1 v2 v3 v4 v5 v6=>.h 0 ⟨57,[(1,.d (.raw (.func (.func 18) #[] #[]))),(2,.ptr 0 0),(4,.ptr 1 0),(7,.ptr 2 0),(23,.d (.slice .str v0)),(24,.d (.int .i64 v1)),(25,.d (.int .i64 v2))],[(0,.box [.d (.int .i64 v3.kind),.d (.str v3.text),.d (.slice .str v3.keys),.d (.slice .ah v3.kids)]),(1,.box [.d (.int .i64 v4),.d (.str v5),.d (.raw (.slice none 0 0)),.d (.raw (.slice none 0 0))]),(2,.box [.d (.int .i64 v6.kind),.d (.str v6.text),.d (.slice .str v6.keys),.d (.slice .ah v6.kids)])],3⟩) { live:=[(0,[1,2,4,7,23,24,25])],oC:=[(0,[(7,some 2,false,.str),(7,some 3,false,.ah)])] } Tryz.func17
def xJ(x0:Node):Te (Node×(aqO)×Int) Empty:=.c (jI (aj x0)) fun y1=>.k (aj (y1.1),y1.2.1,y1.2.2)
def fG(x0:Node):=(xJ x0).o
def YC:=Eu.f0 7 [.ah] [.ah,.str,.aW] (fun a=>xJ a) Tryz.func7
inductive rQ where
 | e (x0:Node)
 | h0 (v0:List (aqO)) (v1:Int) (v2:Int) (v3:Node) (v4:Int) (v5:aqO) (v6:Node)
def rR:rQ->Te (Node×(aqO)×Int) rQ
 | .e x0=>.b (x0.kind==0) (.k (⟨3,[],[],[]⟩,[],0)) (.b (x0.kind != 3) (.k (⟨0,[],[],[]⟩,[],10)) (.g (.h0 x0.keys (aC x0.keys) 0 x0 0 [] ⟨3,[],[],[]⟩)))
 | .h0 v0 v1 v2 v3 v4 v5 v6=>.l (aj v6) fun z1=>.b (aF v2 v1) (.i v0 v2 fun y1=>.i v3.kids v2 fun y2=>.c (iL y1) fun y3=>.b (!y3) (.c (Rv [[115,101,114,118,105,99,101,115],y1]) fun y4=>.k (⟨0,[],[],[]⟩,y4,10)) (.c (fG (aj y2)) fun y5=>.c (Rv [[115,101,114,118,105,99,101,115],y1,y5.2.1]) fun y6=>.b (y5.2.2 != 0) (.k (⟨0,[],[],[]⟩,y6,y5.2.2)) (.b ((y5.1).kind != 0) (.q (fU z1 y1 (aj (y5.1))) (.g (.h0 v0 v1 (ak (v2+1)) v3 v4 v5 (bD z1 y1 (aj (y5.1)))))) (.g (.h0 v0 v1 (ak (v2+1)) v3 v4 v5 v6))))) (.q ((wg 10000 1000) z1) (.k (aj ((fP 1000) z1),[],0)))
def Dy(x0:Node):=mu rR (.e x0)
def Dz:=(YC.I 64 Tryz.func64).cl 17 [.ah,.str,.aW] [.v .ah,.c 64 [] []] rR (fun a=>.e a) (fun | .e x0=>.c [.v ⟨.ah,x0⟩,.c 64 [] []] | .h0 v0 v1 v2 v3 v4 v5 v6=>.h 0 ⟨57,[(1,.d (.raw (.func (.func 64) #[] #[]))),(2,.ptr 0 0),(4,.ptr 1 0),(7,.ptr 2 0),(23,.d (.slice .str v0)),(24,.d (.int .i64 v1)),(25,.d (.int .i64 v2))],[(0,.box [.d (.int .i64 v3.kind),.d (.str v3.text),.d (.slice .str v3.keys),.d (.slice .ah v3.kids)]),(1,.box [.d (.int .i64 v4),.d (.str v5),.d (.raw (.slice none 0 0)),.d (.raw (.slice none 0 0))]),(2,.box [.d (.int .i64 v6.kind),.d (.str v6.text),.d (.slice .str v6.keys),.d (.slice .ah v6.kids)])],3⟩) { live:=[(0,[1,2,4,7,23,24,25])],oC:=[(0,[(7,some 2,false,.str),(7,some 3,false,.ah)])] } Tryz.func17
def Jw(x0:Node):Te (Node×(aqO)×Int) Empty:=.b (x0.kind != 3) (.k (⟨0,[],[],[]⟩,[115,101,114,118,105,99,101,115],10)) (.c (Dy (aj x0)) fun y1=>.b (aab (y1.2.2==0) (aF 16 (aC ((y1.1).keys)))) (.k (⟨0,[],[],[]⟩,[115,101,114,118,105,99,101,115],9)) (.k (aj (y1.1),y1.2.1,y1.2.2)))
def Jy(x0:Node):=(Jw x0).o
def WC:=Dz.f0 28 [.ah] [.ah,.str,.aW] (fun a=>Jw a) Tryz.func28
def aaH(x0:aqO)(x1:Node):Te (Node×(aqO)×Int) Empty:=.l (Ou x1.text) fun z4=>.l (x0==[110,97,109,101]) fun z3=>.l (aj x1) fun z2=>.l (x0==[115,101,114,118,105,99,101,115]) fun z1=>.c (rG x0) fun y1=>.b y1 (.k (⟨0,[],[],[]⟩,[],0)) (.b (aab (aab (aab (!z3) (!z1)) (!(x0==[110,101,116,119,111,114,107,115]))) (!(x0==[118,111,108,117,109,101,115]))) (.k (⟨0,[],[],[]⟩,x0,10)) (.b (x1.kind==0) (.k (z2,[],0)) (.b z1 (.c (Jy z2) fun y2=>.k (aj (y2.1),y2.2.1,y2.2.2)) (.b z3 (.q ((z4.isSome) || !(!(x1.kind != 1))) (.b (aL (x1.kind != 1) (!(gv z4))) (.k (⟨0,[],[],[]⟩,x0,10)) (.k (z2,[],0)))) (.c (um z2) fun y3=>.k (aj (y3.1),x0,y3.2))))))
def aaI:=WC.f0 27 [.str,.ah] [.ah,.str,.aW] (fun a=>aaH a.1 a.2) Tryz.func27
inductive oF where
 | e (x0:Node)
 | h0 (v0:List (aqO)) (v1:Int) (v2:Int) (v3:Node) (v4:Int) (v5:aqO) (v6:Node)
def vW:oF->Te (Node×(aqO)×Int) oF
 | .e x0=>.b (x0.kind==0) (.k (⟨3,[],[],[]⟩,[],0)) (.b (x0.kind != 3) (.k (⟨0,[],[],[]⟩,[],10)) (.g (.h0 x0.keys (aC x0.keys) 0 x0 0 [] ⟨3,[],[],[]⟩)))
 | .h0 v0 v1 v2 v3 v4 v5 v6=>.l (aj v6) fun z2=>.l (oF.h0 v0 v1 (ak (v2+1)) v3 v4 v5) fun z1=>.b (aF v2 v1) (.i v0 v2 fun y1=>.l (y1==[110,97,109,101]) fun z4=>.l (y1==[115,101,114,118,105,99,101,115]) fun z3=>.i v3.kids v2 fun y2=>.l (Ou (y2.text)) fun z6=>.l (aj y2) fun z5=>.l (z1 (bD z2 y1 z5)) fun z7=>.c (rG y1) fun y3=>.b y3 (.g (z1 v6)) (.b (aab (aab (aab (!z4) (!z3)) (!(y1==[110,101,116,119,111,114,107,115]))) (!(y1==[118,111,108,117,109,101,115]))) (.k (⟨0,[],[],[]⟩,y1,10)) (.b (y2.kind==0) (.b (y2.kind != 0) (.q (fU z2 y1 z5) (.g z7)) (.g (z1 v6))) (.b z3 (.c (Jy z5) fun y4=>.b (y4.2.2 != 0) (.k (⟨0,[],[],[]⟩,y4.2.1,y4.2.2)) (.b ((y4.1).kind != 0) (.q (fU z2 y1 (aj (y4.1))) (.g (z1 (bD z2 y1 (aj (y4.1)))))) (.g (z1 v6)))) (.b z4 (.q ((z6.isSome) || !(!(y2.kind != 1))) (.b (aL (y2.kind != 1) (!(gv z6))) (.k (⟨0,[],[],[]⟩,y1,10)) (.b (y2.kind != 0) (.q (fU z2 y1 z5) (.g z7)) (.g (z1 v6))))) (.c (um z5) fun y5=>.b (y5.2 != 0) (.k (⟨0,[],[],[]⟩,y1,y5.2)) (.b ((y5.1).kind != 0) (.q (fU z2 y1 (aj (y5.1))) (.g (z1 (bD z2 y1 (aj (y5.1)))))) (.g (z1 v6))))))))) (.q ((wg 10000 1000) z2) (.k (aj ((fP 1000) z2),[],0)))
def Gq(x0:Node):=mu vW (.e x0)
def Gs:=(aaI.I 27 Tryz.func27).cl 17 [.ah,.str,.aW] [.v .ah,.c 27 [] []] vW (fun a=>.e a) (fun | .e x0=>.c [.v ⟨.ah,x0⟩,.c 27 [] []] | .h0 v0 v1 v2 v3 v4 v5 v6=>.h 0 ⟨57,[(1,.d (.raw (.func (.func 27) #[] #[]))),(2,.ptr 0 0),(4,.ptr 1 0),(7,.ptr 2 0),(23,.d (.slice .str v0)),(24,.d (.int .i64 v1)),(25,.d (.int .i64 v2))],[(0,.box [.d (.int .i64 v3.kind),.d (.str v3.text),.d (.slice .str v3.keys),.d (.slice .ah v3.kids)]),(1,.box [.d (.int .i64 v4),.d (.str v5),.d (.raw (.slice none 0 0)),.d (.raw (.slice none 0 0))]),(2,.box [.d (.int .i64 v6.kind),.d (.str v6.text),.d (.slice .str v6.keys),.d (.slice .ah v6.kids)])],3⟩) { live:=[(0,[1,2,4,7,23,24,25])],oC:=[(0,[(7,some 2,false,.str),(7,some 3,false,.ah)])] } Tryz.func17
def RH(x0:Node):Te (Node×(aqO)×Int) Empty:=.c (Gq (aj x0)) fun y1=>.l (zQ (aj (y1.1))) fun z1=>.q ((z1.isSome) || !(y1.2.2==0)) (.b (aab (y1.2.2==0) (!(gv z1))) (.k (⟨0,[],[],[]⟩,[],9)) (.k (aj (y1.1),y1.2.1,y1.2.2)))
def aff(x0:Node):=(RH x0).o
def afg:=Gs.f0 12 [.ah] [.ah,.str,.aW] (fun a=>RH a) Tryz.func12
end
section
abbrev Z{α:Type}[Df α](o:Option α)(Q:α->Prop):Prop:=o.isSome=true/\Q (gv o)
theorem zof{α:Type}[Df α]{o:Option α}{Q:α->Prop}(h:∃r,o=some r/\Q r):Z o Q:=by obtain⟨r,rfl,h⟩:=h;exact⟨rfl,h⟩
theorem cB{ρ:Type}[Df ρ]{t:Te ρ Empty}{m:Option ρ}{Q:ρ->Prop}(hm:m=t.o)(h:t.run Prop Q (fun _=>False) False):Z m Q:=zof (awq Q hm h)
theorem j6{ρ σ:Type}[Df ρ]{t:Tree ρ σ}{m:Option ρ}{s:σ}{Q:ρ->Prop}(hm:m=mu t s)(I:σ->Prop)(M:σ->Nat)(hs:I s)(hM:M s<1000000000000000000000000000000)(h:∀s,I s->(t s).run Prop Q (fun s'=>I s'/\M s'<M s) False):Z m Q:=zof (come Q hm I M hs hM h)
theorem wZ{α:Type}[Df α](o:Option α)(f:α->Prop):cl o False f=(o.isSome=true/\f (gv o)):=by
 rw[wC];cases o with
 | none=>simp
 | some r=>simp[gv]
theorem dK{n:Int}(h : -9223372036854775808<=n/\n<=9223372036854775807):ak n=n:=aV h.1 h.2
theorem gM{α:Type}(l:List α)(d:α){i:Int}(h:0<=i)(h':i<(l.length:Int)):l.getD i.toNat d∈l:=by rw[List.getD,aaz (by omega)];exact aee _
theorem trB:(∀(c:Bool) (a b:Prop),(bif c then a else b)=((c=true->a)/\(c=false->b)))/\(∀(α:Type) [Df α] (l:List α) (i:Int) (f:α->Prop),ix l i False f=(0<=i/\i<(l.length:Int)/\f (l.getD i.toNat Df.d)))/\(∀(l:aqO) (i:Int) (f:Int->Prop),Oi l i False f=(0<=i/\i<(l.length:Int)/\f ((l.getD i.toNat 0).toNat:Int))) /\
  (∀(c:Bool) (a:Prop),ck c False a=(c=true/\a))/\(∀(α:Type) [Df α] (o:Option α) (f:α->Prop),cl o False f=(o.isSome=true/\f (gv o)))/\(∀x:Node,aj x=x)/\(∀a b:Bool,((a||b)=true)=(a=true\/b=true))/\(∀a b:Bool,((a&&b)=true)=(a=true/\b=true))/\(∀(p:Prop) [Decidable p],(decide p=true)=p) /\
  (∀a:Bool,((!a)=true)=(a=false))/\(∀(p:Prop) [Decidable p],(decide p=false)=¬p)/\(∀(β:Type) (l:List β) (i:Int),fZ l i=(decide ((0:Int)<=i)&&decide (i<(l.length:Int))))/\(∀(β:Type) (l:List β) (a b:Int),bN l a b=(decide ((0:Int)<=a)&&decide (a<=b)&&decide (b<=(l.length:Int)))) /\
  (∀(α:Type) [BEq α] [LawfulBEq α] (a b:α),((a==b)=true)=(a=b))/\(∀s p:aqO,uI s p=(decide (s.length<=1000000)&&decide (p.length=1)))/\(∀(s p:aqO) (a b:Int),Qt s p a b=(decide (s.length<=1000000)&&decide (p.length=1)&&(a==0)&&(b == -1))) :=
 ⟨wB,fun _ _=>wI,wS,wK,fun _ _=>wZ,bf,fun _ _=>by simp,fun _ _=>by simp,fun _ _=>by simp,fun _=>by simp,fun _ _=>by simp,fun _ _ _=>rfl,fun _ _ _ _=>rfl,fun _ _ _ _ _=>by simp,fun _ _=>rfl,fun _ _ _ _=>rfl⟩
theorem bK:type_of% (And.intro @aN (And.intro bB trB)):=And.intro @aN (And.intro bB trB)
theorem lW(s p:aqO):Z (iD s p) fun r=>r=p.isPrefixOf s:=by
 refine cB rfl ?_;simp only[bK,lV];refine⟨by omega,?_⟩;rw[Bool.eq_iff_iff,List.isPrefixOf_iff_prefix];by_cases h:(p.length:Int)<=(s.length:Int)
 ·simp only[h,decide_true,cond_true,cut,aaE,Int.toNat_zero,amg,aed,beq_iff_eq];exact⟨fun e=>List.prefix_iff_eq_take.2 e.symm,fun e=>(List.prefix_iff_eq_take.1 e).symm⟩
 ·simp only[h,decide_false,cond_false];exact⟨fun e=>(by cases e),fun e=>(by have:=e.length_le;omega)⟩
theorem Sj(s p:aqO):Z (FY s p) fun r=>r=p.isPrefixOf s:=by refine cB rfl ?_;simp only[bK,yY];grind[lW]
theorem KS(s:aqO):Z (rG s) fun r=>r=[120,45].isPrefixOf s:=by refine cB rfl ?_;simp only[bK,Dv];grind[Sj]
theorem aii(c:Int):Z (vL c) fun _=>True:=by refine cB rfl ?_;simp only[bK,KM]
theorem yw(c:Int):Z (nM c) fun _=>True:=by refine cB rfl ?_;simp only[bK,CY];grind[aii]
theorem Di(c:Int):Z (fA c) fun _=>True:=by refine cB rfl ?_;simp only[bK,Jd]
theorem YD(c:Int):Z (Dw c) fun _=>True:=by refine cB rfl ?_;simp only[bK,xC];grind[yw,Di]
theorem wV(s:aqO):Z (jq s) fun r=>r=true->0<s.length/\s.length<=24:=by
 refine j6 rfl (fun | .e x=>x=s | .h0 x i=>x=s/\0<s.length/\s.length<=24/\1<=i/\i<=s.length) (fun | .e x=>100 | .h0 x i=>(s.length-i).toNat) rfl (by show 100<_;omega) ?_;rintro(x | ⟨x,i⟩) hs
 ·cases hs;simp only[bK,dH];grind[YD]
 ·obtain⟨rfl,h1,h2,h3,h4⟩:=hs;simp only[bK,dH];have:=@dK (i+1);grind[yw,Di]
end
section
theorem iy(x0:aqO):Z (iL x0) fun _=>True:=by
 refine cB rfl ?_;simp only[bK,Az]
 all_goals grind[wV]
theorem Jz(x0:Int):Z (BI x0) fun _=>True:=by
 refine cB rfl ?_;simp only[bK,vC]
 all_goals grind[yw]
theorem vw(x0:aqO):Z (jc x0) fun _=>True:=by
 refine j6 rfl (fun | .e y0=>y0=x0 | .h0 v0 v1=>0<=v1/\v1<=(v0.length:Int)/\v0.length<=1000000/\v0=x0) (fun | .e _=>10000000000 | .h0 v0 v1=>((v0.length:Int)-v1).toNat) rfl (by show 10000000000<_;omega) ?_;rintro(y0 | ⟨v0,v1⟩) hs
 ·cases hs;simp only[bK,dw]
  all_goals grind[Jz,yw,Di]
 ·dsimp only at hs;simp only[bK,dw];have:=@dK (v1+1)
  all_goals grind[Jz,yw,Di]
theorem uo(x0:aqO):Z (zo x0) fun _=>True:=by
 refine cB rfl ?_;simp only[bK,zm]
 all_goals grind[vw]
theorem yR:Z (dW ) fun _=>True:=by
 refine cB rfl ?_;simp only[bK,G6]
 all_goals grind
theorem afh(x0:aqO):Z (Jf x0) fun _=>True:=by
 refine cB rfl ?_;simp only[bK,Je]
 all_goals grind
theorem dS(x0:Node)(x1:Int):Z (jJ x0 x1) fun r=>r=true->x0.kind=x1/\x0.kids.length<=32:=by
 refine cB rfl ?_;simp only[bK,Gm]
 all_goals grind
theorem Uk(x0:Int):Z (ES x0) fun _=>True:=by
 refine cB rfl ?_;simp only[bK,KO]
 all_goals grind
theorem RI(x0:aqO)(x1:Int)(hp:x0.length<=1000000):Z (yg x0 x1) fun _=>True:=by
 refine j6 rfl (fun | .e y0 y1=>y0=x0/\y1=x1 | .h0 v0 v1 v2 v3 v4 v5=>0<=v5/\v5<=v4/\v4=(v0.length:Int)/\v0.length<=1000000/\v0=x0/\v1=x1/\v4=(x0.length:Int)) (fun | .e _ _=>10000000000 | .h0 v0 v1 v2 v3 v4 v5=>(v4-v5).toNat) ⟨rfl,rfl⟩ (by show 10000000000<_;omega) ?_;rintro(⟨y0,y1⟩ | ⟨v0,v1,v2,v3,v4,v5⟩) hs
 ·obtain⟨rfl,rfl⟩:=hs;simp only[bK,nN]
  all_goals grind
 ·dsimp only at hs;simp only[bK,nN];have:=@dK (v5+1)
  all_goals grind
theorem nQ(x0:aqO)(x1:Int)(hp:x0.length<=1000000):Z (gI x0 x1) fun _=>True:=by
 refine cB rfl ?_;simp only[bK,yh]
 all_goals grind[RI]
theorem KT(x0:aqO)(hp:x0.length<=1000000):Z (iN x0) fun r=>r=true->0<x0.length:=by
 refine j6 rfl (fun | .e y0=>y0=x0 | .h0 v0 v1 v2=>0<=v2/\v2<=v1/\v1=(v0.length:Int)/\v0.length<=1000000/\v0=x0/\v1=(x0.length:Int)) (fun | .e _=>10000000000 | .h0 v0 v1 v2=>(v1-v2).toNat) rfl (by show 10000000000<_;omega) ?_;rintro(y0 | ⟨v0,v1,v2⟩) hs
 ·cases hs;simp only[bK,vR]
  all_goals grind
 ·dsimp only at hs;simp only[bK,vR];have:=@dK (v2+1)
  all_goals grind
theorem acv(x0:aqO):Z (Gp x0) fun _=>True:=by
 refine cB rfl ?_;simp only[bK,AJ]
 all_goals grind[iy]
theorem rT(x0:List (aqO))(hp:x0.length<=1000000/\∀s∈x0,s.length<=1000000):Z (fF x0) fun _=>True:=by
 refine j6 rfl (fun | .e y0=>y0=x0 | .h0 v0 v1 v2=>0<=v2/\v2<=v1/\v1=(v0.length:Int)/\v0.length<=1000000/\v0=x0/\v1=(x0.length:Int)) (fun | .e _=>10000000000 | .h0 v0 v1 v2=>(v1-v2).toNat) rfl (by show 10000000000<_;omega) ?_;rintro(y0 | ⟨v0,v1,v2⟩) hs
 ·cases hs;simp only[bK,dB]
  all_goals grind[gM,nQ]
 ·dsimp only at hs;simp only[bK,dB];have:=@dK (v2+1)
  all_goals grind[gM,nQ]
theorem qK(x0:List (aqO))(hp:x0.length<=1000000/\∀s∈x0,s.length<=1000000):Z (dh x0) fun _=>True:=by
 refine cB rfl ?_;simp only[bK,eD]
 all_goals grind[rT]
end
section
theorem gM0{α:Type}(l:List α)(d:α)(h:0<l.length):l.getD 0 d∈l:=by rw[List.getD,aaz h];exact aee _
theorem gM1{α:Type}(l:List α)(d:α)(h:1<l.length):l.getD 1 d∈l:=by rw[List.getD,aaz h];exact aee _
theorem aaJ(sep:aqO):∀(k:Nat) (s p:aqO),p∈Lib.splitK sep 0 k s->p.length<=s.length
 | 0,s,p,h=>by simp only[Lib.splitK,List.mem_singleton]at h;rw[h];exact abn _
 | k+1,s,p,h=>by
  unfold Lib.splitK at h;split at h
  ·rw[List.mem_singleton]at h;rw[h];exact abn _
  ·rcases List.mem_cons.1 h with h | h
   ·rw[h,ad6];omega
   ·have:=aaJ sep k _ p h;rw[adH]at this;omega
theorem Qz(sep:aqO):∀(k:Nat) (s:aqO),0<(Lib.splitK sep 0 k s).length/\(Lib.splitK sep 0 k s).length<=k+1
 | 0,s=>by simp[Lib.splitK]
 | k+1,s=>by
  unfold Lib.splitK;split
  ·simp
  ·have:=Qz sep k (s.drop ((Lib.index s sep).toNat+sep.length));simp only[List.length_cons];omega
theorem aCg(s p:aqO)(a b:Int)(h:p.length=1):0<(d9 s p a b).length/\(d9 s p a b).length<=s.length+1/\∀x∈d9 s p a b,x.length<=s.length:=by
 match p,h with
 | [c],_ =>
 refine⟨(Qz [c] _ s).1,?_,fun x hx=>aaJ [c] _ s x hx⟩;have h1:=(Qz [c] (Lib.count s [c]) s).2;rw[Lib.count_one]at h1;have h2:=List.count_le_length (a:=c) (l:=s);have h3:(d9 s [c] a b).length<=s.count c+1:=by unfold d9 Lib.split;rw[Lib.count_one];exact h1
 omega
theorem Dj(s:aqO)(c:UInt8)(a b:Int):0<(d9 s [c] a b).length/\(d9 s [c] a b).length<=s.length+1/\∀x∈d9 s [c] a b,x.length<=s.length:=aCg s [c] a b rfl
theorem QA(s:aqO)(c:UInt8)(a b:Int)(i:Nat):((d9 s [c] a b).getD i (Df.d:aqO)).length<=s.length:=by
 rw[List.getD];cases h:(d9 s [c] a b)[i]? with
 | none=>exact aaG _
 | some x=>exact(Dj s c a b).2.2 x (agC h)
theorem VY(s:aqO)(c:UInt8)(a b:Int)(i:Nat):((d9 s [c] a b).getD i (dflt Ty.str:aqO)).length<=s.length:=QA s c a b i
theorem iH(s p:aqO):(lU s p).length<=s.length:=by
 unfold lU;cases decide (0<=pR s p)with
 | true=>simp only[cond_true,ad6];omega
 | false=>exact abn _
theorem iI(s p:aqO):(pU s p).length<=s.length:=by
 unfold pU;cases decide (0<=pR s p)with
 | true=>simp only[cond_true,adH];omega
 | false=>exact aaG _
theorem acw(x0:aqO)(hp:x0.length<=1000000):Z (qZ x0) fun _=>True:=by
 refine cB rfl ?_;simp only[bK,AB]
 all_goals grind[dK,gM0,gM1,gM,Dj,QA,VY,iH,iI,qK]
theorem KU(x0:Port)(hp:x0.host.length<=1000000):Z (dD x0) fun r=>r=true->(1<=x0.iP/\x0.iP<=65535)/\0<=x0.out/\x0.out<=65535:=by
 refine cB rfl ?_;simp only[bK,EY]
 all_goals grind[dK,gM0,gM1,gM,Dj,QA,VY,iH,iI,acw]
theorem afi(x0:aqO)(hp:x0.length<=1000000):Z (jE x0) fun _=>True:=by
 refine cB rfl ?_;simp only[bK,CZ]
 all_goals grind[dK,gM0,gM1,gM,Dj,QA,VY,iH,iI,nQ]
theorem zT(x0:aqO)(hp:x0.length<=1000000):Z (zO x0) fun r=>r.1.host.length<=x0.length:=by
 refine cB rfl ?_;simp only[bK,EZ]
 (repeat' (first | (intro _) | (apply And.intro)))<;>grind[dK,gM0,gM1,gM,Dj,QA,VY,iH,iI,KU,afi]
end
section
theorem p10(v0:Int)(h:2<=v0):(10:Int) ^ (v0-1).toNat=10*(10:Int) ^ (v0-2).toNat:=by rw[show(v0-1).toNat=(v0-2).toNat+1 by omega,Int.pow_succ];omega
theorem aCh:∀n:Nat,(2:Int)<=(10:Int) ^ n->1<=n
 | 0,h=>by simp at h
 | n+1,_=>by omega
theorem zU{n:Int}(h0:0<=n)(h1:n<18446744073709551616):IntKind.wrap .u64 n=n:=by show n%18446744073709551616=n;exact Int.emod_eq_of_lt h0 h1
theorem zV(x0:Int)(hp : -9223372036854775808<=x0/\x0<=9223372036854775807):Z (pW x0) fun r=>r.length<=20:=by
 refine j6 rfl (fun | .e y0=>y0=x0 | .h0 v0 v1 v2 v3=>2<=v0/\v0<=20/\0<=v2/\v2<18446744073709551616/\v2<(10:Int) ^ (v0-1).toNat/\v3.length=20) (fun | .e _=>10000000000 | .h0 v0 v1 v2 v3=>v0.toNat) rfl (by show 10000000000<_;omega) ?_;rintro(y0 | ⟨v0,v1,v2,v3⟩) hs
 ·cases hs;simp only[bK,vQ];have e1:0<=x0->IntKind.wrap .u64 x0=x0:=fun h=>zU h (by omega)
  have e2:x0<0->IntKind.wrap .u64 (0-IntKind.wrap .u64 x0) = -x0:=fun h=>by show(0-x0%18446744073709551616)%18446744073709551616 = -x0;omega
  refine⟨fun h=>?_,fun h=>?_⟩
  ·rw[e2 h];refine⟨⟨by omega,by omega,by omega,by omega,?_,rfl⟩,by show(20:Int).toNat<10000000000;decide⟩;rw[show((20:Int)-1).toNat=19 from rfl];omega
  ·rw[e1 (by omega)];refine⟨⟨by omega,by omega,by omega,by omega,?_,rfl⟩,by show(20:Int).toNat<10000000000;decide⟩;rw[show((20:Int)-1).toNat=19 from rfl];omega
 ·obtain⟨h1,h2,h3,h4,h5,h6⟩:=hs;have e1:ak (v0-1)=v0-1:=aV (by omega) (by omega);have e2:ak (v0-2)=v0-2:=aV (by omega) (by omega);have e3:Int.tdiv v2 10=v2 / 10:=aeI h3;have e4:IntKind.wrap .u64 (v2 / 10)=v2 / 10:=zU (by omega) (by omega);have e5:=p10 v0 h1;have e6:=aCh (v0-2).toNat;simp only[bK,vQ,e1,e2,e3,e4,ahp,show v0-1-1=v0-2 by omega,ame,h6,List.length_map,cut,ad6,adH,Nat.blt_eq,Nat.beq_eq];generalize (10:Int) ^ (v0-2).toNat=q at e5 e6 ⊢;rw[e5]at h5
  (repeat' (first | (intro _) | (apply And.intro)))<;>first | omega | trivial | rfl | (rename_i hz;have hz:=agA.1 hz;have:=e6 (by omega);omega)
theorem M5(x0:Port)(hp:x0.host.length<=1000000):Z (yL x0) fun r=>r.length<=x0.host.length+100:=by
 refine cB rfl ?_;simp only[bK,He,List.length_append,List.length_cons,List.length_nil,aA];have h1:=KU x0 hp;have h2:=zV x0.out;have h3:=zV x0.iP
 (repeat' (first | (intro _) | (apply And.intro)))<;>grind
end
section
def wr:Nat->Node->Prop
 | 0,_=>False
 | n+1,x=>x.keys.length<=300/\x.kids.length<=300/\(x.kind=0\/x.kind=3->x.keys.length=x.kids.length)/\x.text.length<=30000/\(∀k∈x.keys,k.length<=30000)/\∀y∈x.kids,wr n y
theorem apu:∀{d:Nat} {x:Node},wr d x->wg 1000 d x=true
 | 0,_,h=>h.elim
 | _+1,_,h=>fE.2 ⟨Nat.le_trans h.1 (by decide),Nat.le_trans h.2.1 (by decide),fun e=>h.2.2.1 (.inr e),fun y hy=>apu (h.2.2.2.2.2 y hy)⟩
theorem acy:∀{n:Nat} {x:Node} (k:Nat),wr n x->wr (n+k) x
 | 0,_,_,h=>h.elim
 | n+1,x,k,h=>by rw[Nat.add_right_comm];exact⟨h.1,h.2.1,h.2.2.1,h.2.2.2.1,h.2.2.2.2.1,fun y hy=>acy k (h.2.2.2.2.2 y hy)⟩
def W(d:Nat)(n:Node):Prop:=wr d n
def G(d:Nat)(n:Node):Prop:=wg 1000 d n=true
def TL(l:List (aqO)):Prop:=∀s∈l,s.length<=30000
theorem iV:TL []:=fun s h=>by cases h
theorem iW{l:List (aqO)}{s:aqO}(h:TL l)(hs:s.length<=30000):TL (l++[s]):=fun x hx=>by
 rcases List.mem_append.1 hx with hx | hx
 ·exact h x hx
 ·rw[List.mem_singleton.1 hx];exact hs
theorem lX{l:List (aqO)}(h:TL l)(i:Nat):(l.getD i (Df.d:aqO)).length<=30000:=by
 rw[List.getD];cases e:l[i]? with
 | none=>exact aaG _
 | some x=>exact h x (agC e)
theorem nR{l:List (aqO)}(h:TL l)(i:Nat):(l.getD i (dflt Ty.str:aqO)).length<=30000:=lX h i
theorem W_z{d:Nat}{n:Node}(h:W (d+1) n):n.keys.length<=300/\n.kids.length<=300/\(n.kind=3->n.keys.length=n.kids.length)/\n.text.length<=30000/\TL n.keys:=by exact⟨h.1,h.2.1,fun e=>h.2.2.1 (.inr e),h.2.2.2.1,h.2.2.2.2.1⟩
theorem W_k{d:Nat}{n:Node}(h:W (d+1) n)(h0:n.kind=0):W (d+1) ⟨3,n.text,n.keys,n.kids⟩:=⟨h.1,h.2.1,fun _=>h.2.2.1 (.inl h0),h.2.2.2.1,h.2.2.2.2.1,h.2.2.2.2.2⟩
theorem W_d{d:Nat}{n:Node}(h:W (d+2) n)(i:Nat):W (d+1) (n.kids.getD i (Df.d:Node)):=by
 rw[List.getD];cases e:n.kids[i]? with
 | none=>exact⟨aaG _,aaG _,(fun _=>rfl),aaG _,(fun k hk=>by cases hk),(fun y hy=>by cases hy)⟩
 | some x=>exact h.2.2.2.2.2 x (agC e)
theorem aCi{d:Nat}{n:Node}(h:W (d+2) n)(k:aqO)(hk:aD n k=true):W (d+1) (aJ n k):=h.2.2.2.2.2 _ (xB hk)
theorem aCj{d:Nat}{n:Node}(h:W (d+1) n):fit n=true:=Oq (apu h) (by omega)
theorem W_G{d:Nat}{n:Node}(h:W d n):G d n:=apu h
theorem apv{d:Nat}{n:Node}(k:Nat)(h:G d n):G (d+k) n:=vK k h
def Fm(n:Node):Prop:=(n.kind=0\/n.kind=3)/\n.keys.length=n.kids.length/\∀y∈n.kids,G 500 y
theorem iJ:Fm ⟨0,[],[],[]⟩:=⟨.inl rfl,rfl,fun y h=>by cases h⟩
theorem iX{n:Node}(h:Fm n)(hl:n.kids.length<=1000):fit n=true:=by refine qY.2 ⟨⟨by have:=h.2.1;omega,by omega⟩,fun _=>h.2.1⟩
theorem ayp{n:Node}{k:aqO}{v:Node}(h:Fm n)(hl:n.kids.length<=1000):fU n k v=true:=by refine qY.2 ⟨⟨by have:=h.2.1;show n.keys.length<=_;omega,by show n.kids.length<=_;omega⟩,fun _=>h.2.1⟩
theorem mem_set{l:List Node}{i:Nat}{v y:Node}(h:y∈l.set i v):y∈l\/y=v:=List.mem_or_eq_of_mem_set h
theorem ayq{n:Node}{k:aqO}{v:Node}(h:Fm n)(hv:G 500 v):Fm (bD n k v)/\(bD n k v).kids.length<=n.kids.length+1/\(bD n k v).kind=3:=by
 obtain⟨h1,h2,h3⟩:=h;unfold bD;rw[show(bif n.kind != 3 then n.kind != 0 else false)=false by rcases h1 with h1 | h1<;>rw[h1]<;>rfl,cond_false];cases decide (0<=index n.keys k)with
 | true =>
  rw[cond_true];refine⟨⟨.inr rfl,by simp[h2],fun y hy=>?_⟩,by simp,rfl⟩;rcases mem_set hy with hy | rfl
  ·exact h3 y hy
  ·exact hv
 | false =>
  rw[cond_false];refine⟨⟨.inr rfl,by simp[h2],fun y hy=>?_⟩,by simp,rfl⟩;rcases List.mem_append.1 hy with hy | hy
  ·exact h3 y hy
  ·rw[List.mem_singleton.1 hy];exact hv
theorem aEA{n:Node}(h:Fm n)(hl:n.kids.length<=1000):G 501 ⟨3,n.text,n.keys,n.kids⟩:=fE.2 ⟨by have:=h.2.1;show n.keys.length<=_;omega,hl,fun _=>h.2.1,h.2.2⟩
theorem Ul:∀(m d:Nat) (x:Node),G d x->G d (fP m x)
 | 0,_,_,h=>h
 | m+1,0,_,h=>by cases h
 | m+1,d+1,x,h=>by
  have hx:=fE.1 h;unfold fP;cases(x.kids.length:Int)==0 with
  | true=>exact h
  | false =>
   rw[cond_false];cases hk:x.kind != 3 with
   | true =>rw[cond_true];refine fE.2 ⟨aaG _,by simpa using hx.2.1,fun e=>by simp[show x.kind=3 from e]at hk,fun y hy=>?_⟩;obtain⟨z,hz,rfl⟩:=List.mem_map.1 hy;exact Ul m d z (hx.2.2.2 z hz)
   | false =>
    rw[cond_false];have hl:=Pl.tZ x.keys;refine fE.2 ⟨by show(Pl.bA x.keys).length<=_;omega,by show((Pl.bA x.keys).map _).length<=_;rw[List.length_map];omega,fun _=>by simp,fun y hy=>?_⟩;obtain⟨k,hk',rfl⟩:=List.mem_map.1 hy;have h3:x.kind=3:=by simpa using hk
    exact Ul m d _ (TM h (TK h h3 (Pl.jN.1 hk')))
theorem avg{x:Node}(h:G 600 x):wg 10000 1000 x=true:=vK (n:=600) 400 (apf (by omega) h)
theorem acz(d:Nat):G (d+1) ⟨0,[],[],[]⟩:=fE.2 ⟨aaG _,aaG _,(fun h=>by cases h),(fun y hy=>by cases hy)⟩
theorem apw(d:Nat)(k:Int)(s:aqO)(h:k≠3):G (d+1) ⟨k,s,[],[]⟩:=fE.2 ⟨aaG _,aaG _,(fun e=>absurd e h),(fun y hy=>by cases hy)⟩
theorem ni:G 500 ⟨0,[],[],[]⟩:=acz 499
theorem kK:G 501 ⟨0,[],[],[]⟩:=acz 500
theorem mo(s:aqO):G 500 (dx s):=apw 499 1 s (by decide)
theorem nk(s:aqO):G 501 (dx s):=apw 500 1 s (by decide)
def W2(n:Node):Prop:=W 492 n
def W1(n:Node):Prop:=W 491 n
def W0(n:Node):Prop:=W 490 n
theorem kR{n:Node}(h:W2 n):n.keys.length<=300/\n.kids.length<=300/\(n.kind=3->n.keys.length=n.kids.length)/\n.text.length<=30000/\TL n.keys:=W_z (d:=491) h
theorem ny{n:Node}(h:W1 n):n.keys.length<=300/\n.kids.length<=300/\(n.kind=3->n.keys.length=n.kids.length)/\n.text.length<=30000/\TL n.keys:=W_z (d:=490) h
theorem nS{n:Node}(h:W2 n)(i:Nat):W1 (n.kids.getD i (Df.d:Node)):=W_d (d:=490) h i
theorem nT{n:Node}(h:W2 n)(i:Nat):W1 (n.kids.getD i (dflt Ty.ah:Node)):=W_d (d:=490) h i
theorem aAz{n:Node}(h:W2 n)(k:aqO)(hk:aD n k=true):W1 (aJ n k):=aCi (d:=490) h k hk
theorem kL{n:Node}(h:W2 n):G 501 n:=vK (n:=492) 9 (W_G h)
theorem lY{n:Node}(h:W1 n):W2 n:=acy (n:=491) 1 h
theorem aEB{n:Node}(h:W2 n)(h0:n.kind=0):W2 ⟨3,n.text,n.keys,n.kids⟩:=W_k (d:=491) h h0
theorem aaK{n:Node}(h:W2 n):fit n=true:=aCj (d:=491) h
theorem nV{n:Node}(h:W1 n):G 500 n:=vK (n:=491) 9 (W_G h)
theorem Xk:Z dW fun r=>r.1=⟨0,[],[],[]⟩:=by refine cB rfl ?_;simp only[bK,G6]
theorem dP(f:form)(b:Bool):Z (bX f b) fun r=>r.1.n=f.n:=by refine cB rfl ?_;simp only[bK,xD]
theorem dJ(f:form)(k:aqO)(v:Node)(h:Fm f.n/\f.n.kids.length<=900/\G 500 v):Z (bZ f k v) fun r=>Fm r.1.n/\r.1.n.kids.length<=f.n.kids.length+1:=by refine cB rfl ?_;simp only[bK,zq];have:=ayq (k:=k) h.1 h.2.2;exact⟨ayp h.1 (by omega),this.1,this.2.1⟩
theorem dG(f:form)(h:Fm f.n/\f.n.kids.length<=900):Z (dA f) fun r=>G 501 r.2.1:=by refine cB rfl ?_;simp only[bK,xE];have h1:=Xk;have h2:=acz 500;have h3:=aEA h.1 (by omega);have h4:=Ul 1000 501 _ h3;have h5:=avg (apv (d:=501) 99 h3);grind
theorem jf(f:field)(k o:aqO)(h:W2 f.n/\o.length<=30000):Z (aU f k o) fun r=>r.1.n=f.n/\r.2.length<=30000:=by refine cB rfl ?_;simp only[bK,vD];have h1:=aaK h.1;have h2:=aAz h.1 k;have h3:=@ny (aJ f.n k);grind
theorem zW(f:field)(k:aqO)(o:Bool)(h:W2 f.n):Z (eU f k o) fun r=>r.1.n=f.n:=by refine cB rfl ?_;simp only[bK,uh];grind[jf]
theorem Um(f:field)(k:aqO)(h:W2 f.n):Z (ku f k) fun r=>r.1.n=f.n:=by refine cB rfl ?_;simp only[bK,pV];have h1:=aaK h;grind[jf,nQ]
attribute [irreducible] TL Fm G W W0 W1 W2
end
section
theorem bM:dW.isSome=true/\(gv dW).1=⟨0,[],[],[]⟩:=Xk
theorem KV(x0:Node)(hp:W2 x0):Z (mV x0) fun r=>G 501 r.1:=by
 refine cB rfl ?_;simp only[bK,mU]
 all_goals grind[afh,bM,kL,acz]
theorem DC(x0 x1:aqO):Z (jA x0 x1) fun r=>r.1.length<=x0.length:=by
 refine cB rfl ?_;simp only[bK,jy,cut,ad6,adH];have:=lW x0 x1;have h2:x1.isPrefixOf x0=true->x1.length<=x0.length:=fun h=>(List.isPrefixOf_iff_prefix.1 h).length_le
 grind
theorem jF(x0:Node)(hp:W2 x0):Z (mW x0) fun r=>TL r.1/\r.1.length<=x0.kids.length:=by
 refine j6 rfl (fun | .e y0=>y0=x0 | .h0 v0 v1 v2 v3 v4=>0<=v3/\v3<=v2/\v2=(v1.length:Int)/\v1.length<=400/\v1=x0.kids/\v2=(x0.kids.length:Int)/\v4=x0/\TL v0/\(v0.length:Int)<=v3) (fun | .e _=>10000000000 | .h0 v0 v1 v2 v3 v4=>(v2-v3).toNat) rfl (by show 10000000000<_;omega) ?_;rintro(y0 | ⟨v0,v1,v2,v3,v4⟩) hs
 ·cases hs;simp only[bK,vM]
  (repeat' (first | (intro _) | (apply And.intro)))<;>grind[dK,aB,aA,iV,iW,lX,nR, -> kR,nS,nT, -> ny,nV,lY,kL,iJ,iX,ni,kK,mo,nk,iH,iI,bM,dS]
 ·dsimp only at hs;simp only[bK,vM];have:=@dK (v3+1)
  (repeat' (first | (intro _) | (apply And.intro)))<;>grind[dK,aB,aA,iV,iW,lX,nR, -> kR,nS,nT, -> ny,nV,lY,kL,iJ,iX,ni,kK,mo,nk,iH,iI,bM,dS]
theorem akY(x0:Node)(hp:W2 x0):Z (yK x0) fun r=>G 501 r.1:=by
 refine cB rfl ?_;simp only[bK,G7]
 all_goals grind[dK,aB,aA,iV,iW,lX,nR, -> kR,nS,nT, -> ny,nV,lY,kL,iJ,iX,ni,kK,mo,nk,iH,iI,bM,KV]
theorem Sk(x0 x1:aqO):Z (sG x0 x1) fun r=>r.1.length<=x0.length:=by
 refine cB rfl ?_;simp only[bK,sF]
 all_goals grind[dK,aB,aA,iV,iW,lX,nR, -> kR,nS,nT, -> ny,nV,lY,kL,iJ,iX,ni,kK,mo,nk,iH,iI,bM,DC]
theorem YE(x0:aqO)(hp:x0.length<=100000):Z (xH x0) fun _=>True:=by
 refine cB rfl ?_;simp only[bK,xG]
 (repeat' (first | (intro _) | (apply And.intro)))<;>grind[dK,aB,aA,iV,iW,lX,nR, -> kR,nS,nT, -> ny,nV,lY,kL,iJ,iX,ni,kK,mo,nk,iH,iI,bM,nQ,Sk]
theorem IE(x0:Node)(hp:W2 x0):Z (kW x0) fun r=>G 501 r.1:=by
 refine cB rfl ?_;simp only[bK,kT]
 all_goals grind[dK,aB,aA,iV,iW,lX,nR, -> kR,nS,nT, -> ny,nV,lY,kL,iJ,iX,ni,kK,mo,nk,iH,iI,bM,YE]
theorem acA(x0:Node)(hp:W2 x0):Z (q9 x0) fun r=>G 501 r.1:=by
 refine cB rfl ?_;simp only[bK,AP]
 all_goals grind[dK,aB,aA,iV,iW,lX,nR, -> kR,nS,nT, -> ny,nV,lY,kL,iJ,iX,ni,kK,mo,nk,iH,iI,bM,IE]
theorem acB(x0:aqO)(hp:x0.length<=100000):Z (AU x0) fun _=>True:=by
 refine cB rfl ?_;simp only[bK,AQ]
 all_goals grind[dK,aB,aA,iV,iW,lX,nR, -> kR,nS,nT, -> ny,nV,lY,kL,iJ,iX,ni,kK,mo,nk,iH,iI,bM,nQ]
theorem JZ(x0:Node)(hp:W2 x0):Z (mg x0) fun r=>G 501 r.1:=by
 refine cB rfl ?_;simp only[bK,l9]
 all_goals grind[dK,aB,aA,iV,iW,lX,nR, -> kR,nS,nT, -> ny,nV,lY,kL,iJ,iX,ni,kK,mo,nk,iH,iI,bM,acB]
theorem aij(x0:Node)(hp:W2 x0):Z (vS x0) fun r=>G 501 r.1:=by
 refine cB rfl ?_;simp only[bK,E8]
 all_goals grind[dK,aB,aA,iV,iW,lX,nR, -> kR,nS,nT, -> ny,nV,lY,kL,iJ,iX,ni,kK,mo,nk,iH,iI,bM,JZ]
theorem apx(x0:Node)(hp:W2 x0):Z (um x0) fun r=>G 501 r.1:=by
 refine j6 rfl (fun | .e y0=>y0=x0 | .h0 v0 v1 v2 v3 v4 v5 v6 v7=>0<=v4/\v4<=v3/\v3=(v2.length:Int)/\v2.length<=400/\v0=x0.keys/\v1=true/\v2=x0.kids/\v3=(x0.kids.length:Int)/\v5=(0:Int)/\v6=([]:aqO)/\Fm v7.n/\v7.n.kids.length=0 | .h1 v0 v1 v2 v3 v4 v5=>0<=v2/\v2<=v1/\v1=(v0.length:Int)/\v0.length<=400/\TL v0/\Fm v5.n/\(v5.n.kids.length:Int)<=v2) (fun | .e _=>10000000000 | .h0 v0 v1 v2 v3 v4 v5 v6 v7=>20000000+(v3-v4).toNat | .h1 v0 v1 v2 v3 v4 v5=>10000000+(v1-v2).toNat) rfl (by show 10000000000<_;omega) ?_;rintro(y0 | ⟨v0,v1,v2,v3,v4,v5,v6,v7⟩ | ⟨v0,v1,v2,v3,v4,v5⟩) hs
 ·cases hs;simp only[bK,uj]
  (repeat' (first | (intro _) | (apply And.intro)))<;>grind[dK,aB,aA,iV,iW,lX,nR, -> kR,nS,nT, -> ny,nV,lY,kL,iJ,iX,ni,kK,mo,nk,iH,iI,bM,iy,dG,dP,dJ,dS,jF]
 ·dsimp only at hs;simp only[bK,uj];have:=@dK (v4+1)
  (repeat' (first | (intro _) | (apply And.intro)))<;>grind[dK,aB,aA,iV,iW,lX,nR, -> kR,nS,nT, -> ny,nV,lY,kL,iJ,iX,ni,kK,mo,nk,iH,iI,bM,iy,dG,dP,dJ,dS,jF]
 ·dsimp only at hs;simp only[bK,uj];have:=@dK (v2+1)
  (repeat' (first | (intro _) | (apply And.intro)))<;>grind[dK,aB,aA,iV,iW,lX,nR, -> kR,nS,nT, -> ny,nV,lY,kL,iJ,iX,ni,kK,mo,nk,iH,iI,bM,iy,dG,dP,dJ,dS,jF]
set_option maxHeartbeats 2000000 in
theorem aik(x0:Node)(x1:Bool)(hp:W2 x0):Z (vP x0 x1) fun r=>G 501 r.1:=by
 refine j6 rfl (fun | .e y0 y1=>y0=x0/\y1=x1 | .Qv v0 v1 v2 v3 v4 v5=>0<=v2/\v2<=v1/\v1=(v0.length:Int)/\v0.length<=400/\v3=(0:Int)/\v4=([]:aqO)/\TL v0/\Fm v5.n/\(v5.n.kids.length:Int)<=v2 | .Qw v0 v1 v2 v3 v4 v5=>0<=v2/\v2<=v1/\v1=(v0.length:Int)/\v0.length<=400/\v3=(0:Int)/\v4=([]:aqO)/\TL v0/\Fm v5.n/\(v5.n.kids.length:Int)<=v2 | .Qx v0 v1 v2 v3 v4 v5 v6=>0<=v2/\v2<=v1/\v1=(v0.length:Int)/\v0.length<=400/\v0=x0.keys/\v1=(x0.keys.length:Int)/\v3=x0/\v4=(0:Int)/\v5=([]:aqO)/\x0.kind=3/\Fm v6.n/\(v6.n.kids.length:Int)<=v2 | .Qy v0 v1 v2 v3 v4 v5 v6=>0<=v2/\v2<=v1/\v1=(v0.length:Int)/\v0.length<=400/\v0=x0.keys/\v1=(x0.keys.length:Int)/\v3=x0/\v4=(0:Int)/\v5=([]:aqO)/\x0.kind=3/\Fm v6.n/\(v6.n.kids.length:Int)<=v2) (fun | .e _ _=>10000000000 | .Qv v0 v1 v2 v3 v4 v5=>40000000+(v1-v2).toNat | .Qw v0 v1 v2 v3 v4 v5=>30000000+(v1-v2).toNat | .Qx v0 v1 v2 v3 v4 v5 v6=>20000000+(v1-v2).toNat | .Qy v0 v1 v2 v3 v4 v5 v6=>10000000+(v1-v2).toNat) ⟨rfl,rfl⟩ (by show 10000000000<_;omega) ?_;rintro(⟨y0,y1⟩ | ⟨v0,v1,v2,v3,v4,v5⟩ | ⟨v0,v1,v2,v3,v4,v5⟩ | ⟨v0,v1,v2,v3,v4,v5,v6⟩ | ⟨v0,v1,v2,v3,v4,v5,v6⟩) hs
 ·obtain⟨rfl,rfl⟩:=hs;simp only[bK,kY]
  (repeat' (first | (intro _) | (apply And.intro)))<;>grind[dK,aB,aA,iV,iW,lX,nR, -> kR,nS,nT, -> ny,nV,lY,kL,iJ,iX,ni,kK,mo,nk,iH,iI,bM,iy,uo,dG,dP,dJ,dS,jF]
 ·dsimp only at hs;simp only[bK,kY];have:=@dK (v2+1)
  (repeat' (first | (intro _) | (apply And.intro)))<;>grind[dK,aB,aA,iV,iW,lX,nR, -> kR,nS,nT, -> ny,nV,lY,kL,iJ,iX,ni,kK,mo,nk,iH,iI,bM,iy,uo,dG,dP,dJ,dS,jF]
 ·dsimp only at hs;simp only[bK,kY];have:=@dK (v2+1)
  (repeat' (first | (intro _) | (apply And.intro)))<;>grind[dK,aB,aA,iV,iW,lX,nR, -> kR,nS,nT, -> ny,nV,lY,kL,iJ,iX,ni,kK,mo,nk,iH,iI,bM,iy,uo,dG,dP,dJ,dS,jF]
 ·dsimp only at hs;simp only[bK,kY];have:=@dK (v2+1)
  (repeat' (first | (intro _) | (apply And.intro)))<;>grind[dK,aB,aA,iV,iW,lX,nR, -> kR,nS,nT, -> ny,nV,lY,kL,iJ,iX,ni,kK,mo,nk,iH,iI,bM,iy,uo,dG,dP,dJ,dS,jF]
 ·dsimp only at hs;simp only[bK,kY];have:=@dK (v2+1)
  (repeat' (first | (intro _) | (apply And.intro)))<;>grind[dK,aB,aA,iV,iW,lX,nR, -> kR,nS,nT, -> ny,nV,lY,kL,iJ,iX,ni,kK,mo,nk,iH,iI,bM,iy,uo,dG,dP,dJ,dS,jF]
end
section
theorem Mv{α:Type}(l:List α)(a b:Int)(h:0<=a/\a<=b/\b<=l.length):(cut l a b).length=(b-a).toNat:=by unfold cut;rw[ad6,adH];omega
theorem awy:∀(s:aqO) (c:UInt8),Lib.indexByte s c<s.length /\ -1<=Lib.indexByte s c
 | [],c=>by simp[Lib.indexByte]
 | b::t,c=>by
  have:=awy t c;unfold Lib.indexByte;simp only[List.length_cons];split
  ·omega
  ·split
   ·omega
   ·omega
theorem aAA(s:aqO)(c:Int):Gl s c<s.length /\ -1<=Gl s c:=awy s _
set_option maxHeartbeats 4000000 in
theorem ail(x0:aqO)(hp:x0.length<=1000000):Z (EU x0) fun r=>r.2=0->r.1.length<=32:=by
 refine j6 rfl (fun | .e y0=>y0=x0 | .Yo v0 v1 v2=>v0.length<=2000000 | .vN v0 v1 v2 v3 v4=>v0=x0/\0<=v3/\v3<=x0.length/\(v1.length:Int)<=v3/\(v2.length:Int)<=v3 | .Qu v0 v1 v2 v3 v4=>v0=x0/\0<=v3/\v3<=x0.length/\(v1.length:Int)<=v3/\(v2.length:Int)<=v3 | .Jg v0 v1 v2 v3 v4=>v0=x0/\0<=v3/\v3<=x0.length/\(v1.length:Int)<=v3/\(v2.length:Int)<=v3)
  (fun | .e _=>10000000000 | .Yo v0 v1 v2=>0 | .vN v0 v1 v2 v3 v4=>((x0.length:Int)-v3).toNat+1 | .Qu v0 v1 v2 v3 v4=>((x0.length:Int)-v3).toNat+1 | .Jg v0 v1 v2 v3 v4=>((x0.length:Int)-v3).toNat+1) rfl (by show 10000000000<_;omega) ?_
 rintro(y0 | ⟨v0,v1,v2⟩ | ⟨v0,v1,v2,v3,v4⟩ | ⟨v0,v1,v2,v3,v4⟩ | ⟨v0,v1,v2,v3,v4⟩) hs
 ·cases hs;simp only[bK,gN,aB,List.length_cons,List.length_nil]
  (repeat' (first | (intro _) | (apply And.intro)))<;>grind[Uk]
 ·dsimp only at hs;simp only[bK,gN,aB,List.length_append,List.length_cons,List.length_nil]
  (repeat' (first | (intro _) | (apply And.intro)))<;>grind
 ·obtain⟨rfl,h1,h2,h3,h4⟩:=hs;simp only[bK,gN,aB,List.length_append,List.length_cons,List.length_nil]
  (repeat' (first | (intro _) | (apply And.intro)))<;>grind[dK,Uk]
 ·obtain⟨rfl,h1,h2,h3,h4⟩:=hs;simp only[bK,gN,aB,List.length_append,List.length_nil,List.length_map];have q1:=aAA (cut v0 v3 (v0.length:Int)) 39;rw[Mv v0 v3 (v0.length:Int) ⟨h1,h2,amd _⟩]at q1;generalize Gl (cut v0 v3 (v0.length:Int)) 39=k at q1 ⊢;have q2:=Mv v0 v3 (ak (v3+k))
  (repeat' (first | (intro _) | (apply And.intro)))<;>grind[dK]
 ·obtain⟨rfl,h1,h2,h3,h4⟩:=hs;simp only[bK,gN,aB,List.length_append,List.length_cons,List.length_nil]
  (repeat' (first | (intro _) | (apply And.intro)))<;>grind[dK]
theorem M6(x0:Node)(hp:W2 x0):Z (G9 x0) fun r=>r.1.host.length<=30000:=by
 refine cB rfl ?_;simp only[bK,G8]
 (repeat' (first | (intro _) | (apply And.intro)))<;>grind[dK,aB,aA,iV,iW,lX,nR, -> kR,nS,nT, -> ny,nV,lY,kL,iJ,iX,ni,kK,mo,nk,iH,iI,bM,Um,jf,KU]
set_option maxHeartbeats 2000000 in
theorem ain(x0:Node)(hp:W2 x0):Z (rM x0) fun r=>G 501 r.1:=by
 refine j6 rfl (fun | .e y0=>y0=x0 | .h0 v0 v1 v2 v3 v4 v5=>0<=v2/\v2<=v1/\v0=x0.kids/\v1=(x0.kids.length:Int)/\v3=(0:Int)/\v4=([]:aqO)/\Fm v5.n/\(v5.n.kids.length:Int)<=v2 | .h1 v0 v1 v2 v3 v4 v5 v6=>0<=v2/\v2<=v1/\v1=(v0.length:Int)/\v0.length<=400/\v0=x0.keys/\v1=(x0.keys.length:Int)/\v3=x0/\v4=(0:Int)/\v5=([]:aqO)/\x0.kind=3/\Fm v6.n/\(v6.n.kids.length:Int)<=v2) (fun | .e _=>10000000000 | .h0 v0 v1 v2 v3 v4 v5=>20000000+(v1-v2).toNat | .h1 v0 v1 v2 v3 v4 v5 v6=>10000000+(v1-v2).toNat) rfl (by show 10000000000<_;omega) ?_;rintro(y0 | ⟨v0,v1,v2,v3,v4,v5⟩ | ⟨v0,v1,v2,v3,v4,v5,v6⟩) hs
 ·cases hs;simp only[bK,pX]
  (repeat' (first | (intro _) | (apply And.intro)))<;>grind[dK,aB,aA,iV,iW,lX,nR, -> kR,nS,nT, -> ny,nV,lY,kL,iJ,iX,ni,kK,mo,nk,iH,iI,bM,dG,dP,dJ,M6,dS,yR,zT,M5]
 ·dsimp only at hs;simp only[bK,pX];have:=@dK (v2+1)
  (repeat' (first | (intro _) | (apply And.intro)))<;>grind[dK,aB,aA,iV,iW,lX,nR, -> kR,nS,nT, -> ny,nV,lY,kL,iJ,iX,ni,kK,mo,nk,iH,iI,bM,dG,dP,dJ,M6,dS,yR,zT,M5]
 ·dsimp only at hs;simp only[bK,pX];have:=@dK (v2+1)
  (repeat' (first | (intro _) | (apply And.intro)))<;>grind[dK,aB,aA,iV,iW,lX,nR, -> kR,nS,nT, -> ny,nV,lY,kL,iJ,iX,ni,kK,mo,nk,iH,iI,bM,dG,dP,dJ,M6,dS,yR,zT,M5]
theorem akZ(x0:Bool):Z (kZ x0) fun r=>G 500 r:=by
 refine cB rfl ?_;simp only[bK,Hf]
 all_goals grind[dK,aB,aA,iV,iW,lX,nR, -> kR,nS,nT, -> ny,nV,lY,kL,iJ,iX,ni,kK,mo,nk,iH,iI,bM]
end
section
def R2(l:List Node):Prop:=∀y∈l,G 1 y
theorem aAB:R2 []:=fun y h=>by cases h
theorem aAC{l:List Node}(h:R2 l)(s:aqO):R2 (l++[dx s]):=fun x hx=>by
 rcases List.mem_append.1 hx with hx | hx
 ·exact h x hx
 ·rw[List.mem_singleton.1 hx];exact apw 0 1 s (by decide)
theorem aEC{l:List Node}(h:R2 l)(hl:l.length<=400):G 501 ⟨2,[],[],l⟩:=by
 have:G 2 ⟨2,[],[],l⟩:=by unfold G;exact fE.2 ⟨aaG _,by show l.length<=1000;omega,(fun e=>by cases e),fun y hy=>by have:=h y hy;unfold G at this;exact this⟩
 unfold G at this ⊢;exact vK (n:=2) 499 this
attribute [irreducible] R2
theorem apy(x0:List (aqO))(hp:x0.length<=400):Z (EW x0) fun r=>G 501 r:=by
 refine j6 rfl (fun | .e y0=>y0=x0 | .h0 v0 v1 v2 v3 v4 v5 v6 v7=>0<=v2/\v2<=v1/\v1=(v0.length:Int)/\v0.length<=400/\v5=(2:Int)/\v6=([]:aqO)/\R2 v7/\(v7.length:Int)<=v2) (fun | .e _=>10000000000 | .h0 v0 v1 v2 v3 v4 v5 v6 v7=>(v1-v2).toNat) rfl (by show 10000000000<_;omega) ?_;rintro(y0 | ⟨v0,v1,v2,v3,v4,v5,v6,v7⟩) hs
 ·cases hs;simp only[bK,AA]
  (repeat' (first|intro _|apply And.intro))<;>grind[aAB]
 ·dsimp only at hs;simp only[bK,AA,aB]
  (repeat' (first|intro _|apply And.intro))<;>grind[aAC,aEC,dK]
theorem aio(x0:Node)(hp:W2 x0):Z (vO x0) fun r=>G 501 r.1:=by
 refine cB rfl ?_;simp only[bK,EX];have h0:=kR hp
 (repeat' (first|intro _|apply And.intro))<;>grind[bM,apy,jF,ail,kK]
theorem afj(x0:aqO)(hp:x0.length<=1000000):Z (C8 x0) fun r=>r.1.length<=x0.length/\r.2.1.length<=x0.length:=by
 refine j6 rfl (fun | .e y0=>y0=x0 | .h0 v0 v1 v2=>v0=x0/\0<=v2/\v2<=v1/\v1=(x0.length:Int)) (fun | .e _=>10000000000 | .h0 v0 v1 v2=>(v1-v2).toNat) rfl (by show 10000000000<_;omega) ?_;rintro(y0 | ⟨v0,v1,v2⟩) hs
 ·cases hs;simp only[bK,tC]
  (repeat' (first|intro _|apply And.intro))<;>grind
 ·obtain⟨rfl,h1,h2,h3⟩:=hs;simp only[bK,tC,cut,ad6,adH,List.length_nil]
  (repeat' (first|intro _|apply And.intro))<;>grind[dK]
theorem afk(x0:aqO)(hp:x0.length<=1000000):Z (C9 x0) fun _=>True:=by
 refine j6 rfl (fun | .e y0=>y0=x0 | .h0 v0 v1 v2 v3=>v0.length<=1000000/\0<=v3/\v3<=3) (fun | .e _=>10000000000 | .h0 v0 v1 v2 v3=>(3-v3).toNat) rfl (by show 10000000000<_;omega) ?_;rintro(y0 | ⟨v0,v1,v2,v3⟩) hs
 ·cases hs;simp only[bK,tF]
  (repeat' (first|intro _|apply And.intro))<;>grind[afj,dK]
 ·dsimp only at hs;simp only[bK,tF]
  (repeat' (first|intro _|apply And.intro))<;>grind[RI,dK]
theorem afl(x0:aqO)(hp:x0.length<=100000):Z (Db x0) fun _=>True:=by
 refine cB rfl ?_;simp only[bK,Da]
 (repeat' (first|intro _|apply And.intro))<;>grind[afk]
theorem KW(x0:Node)(hp:W2 x0):Z (mZ x0) fun r=>G 501 r.1:=by
 refine cB rfl ?_;simp only[bK,mY];have h0:=kR hp
 (repeat' (first|intro _|apply And.intro))<;>grind[afl,bM,kL,kK]
theorem ak0(x0:Node)(hp:W2 x0):Z (yQ x0) fun r=>G 501 r.1:=by
 refine cB rfl ?_;simp only[bK,Hu]
 (repeat' (first|intro _|apply And.intro))<;>grind[KW]
theorem ak1(x0:aqO):Z (BX x0) fun r=>0<=r.1/\r.1<=3:=by
 refine cB rfl ?_;simp only[bK,Hw]
 (repeat' (first|intro _|apply And.intro))<;>grind
theorem aip(x0:aqO)(hp:x0.length<=1000000):Z (E9 x0) fun _=>True:=by
 refine j6 rfl (fun | .e y0=>y0=x0 | .h0 v0 v1=>v0=x0/\0<=v1/\v1<=(x0.length:Int)) (fun | .e _=>10000000000 | .h0 v0 v1=>v1.toNat) rfl (by show 10000000000<_;omega) ?_;rintro(y0 | ⟨v0,v1⟩) hs
 ·cases hs;simp only[bK,vT]
  (repeat' (first|intro _|apply And.intro))<;>grind
 ·obtain⟨rfl,h1,h2⟩:=hs;simp only[bK,vT];have h3:=ak1 (cut v0 v1 (v0.length:Int));have h4:=@nQ (cut v0 0 v1);have h5:=Mv v0 0 v1;have h6:=@dK (v1-1);have h7:=@dK (10*(gv (BX (cut v0 v1 (v0.length:Int)))).1)
  (repeat' (first|intro _|apply And.intro))<;>grind
theorem aiq(x0:Int):Z (ng x0) fun r=>0<=r/\r<=3:=by
 refine j6 rfl (fun | .e y0=>y0=x0 | .h0 v0 v1=>0<=v1/\v1<=3) (fun | .e _=>10000000000 | .h0 v0 v1=>(3-v1).toNat) rfl (by show 10000000000<_;omega) ?_;rintro(y0 | ⟨v0,v1⟩) hs
 ·cases hs;simp only[bK,zR]
  (repeat' (first|intro _|apply And.intro))<;>grind
 ·dsimp only at hs;simp only[bK,zR]
  (repeat' (first|intro _|apply And.intro))<;>grind[dK]
end
section
theorem aCk(x:Int)(k:Nat)(h:0<=x):0<=x / 2 ^ k/\x / 2 ^ k<=x:=by have hp:(0:Int)<2 ^ k:=Int.pow_pos (by decide);exact⟨Int.ediv_nonneg h (by omega),Int.ediv_le_self _ h⟩
theorem ak2(x0:Int):Z (Hz x0) fun r=>r.length<=200:=by
 refine cB rfl ?_;simp only[bK,Hy,aA,List.length_append];have h1:=aiq x0;have h2:=@dK (10*gv (ng x0));have h3:=fun h=>aCk x0 (ak (10*gv (ng x0))).toNat h
 have h4:=zV (x0 / 2 ^ (ak (10*gv (ng x0))).toNat);have h5:∀i,((([[],[107],[109],[103]]:List (aqO))).getD i (dflt Ty.str)).length<=1:=fun i=>by
  match i with
  | 0=>decide
  | 1=>decide
  | 2=>decide
  | 3=>decide
  | n+4=>exact aaG _
 have h6:=h5 (gv (ng x0)).toNat;generalize (([[],[107],[109],[103]]:List (aqO))).getD (gv (ng x0)).toNat (dflt Ty.str)=q at h6 ⊢
 (repeat' (first|intro _|apply And.intro))<;>grind
theorem air(x0:Node)(hp:W2 x0):Z (vU x0) fun r=>G 501 r.1:=by
 refine cB rfl ?_;simp only[bK,Fb];have h0:=kR hp
 (repeat' (first|intro _|apply And.intro))<;>grind[aip,ak2,bM,kK,nk]
theorem aCl(s:aqO)(h:s.length<=1000000):okT s=true:=by
 have:=KT s h;unfold okT;rw[this.1,decide_eq_true h,aeu,aeu,amf];cases h1:gv (iN s)with
 | true=>exact .inr (decide_eq_true (this.2 h1))
 | false=>exact .inl rfl
theorem Dk(x0:fO)(hp:x0.source.length<=1000000/\x0.target.length<=1000000):Z (fT x0) fun _=>True:=by
 refine cB rfl ?_;simp only[bK,Dc];have h1:=aCl x0.target hp.2;have h2:=KT x0.source hp.1
 (repeat' (first|intro _|apply And.intro))<;>grind[acv]
theorem KX(x0:Node)(hp:W2 x0):Z (Fg x0) fun r=>r.1.source.length<=30000/\r.1.target.length<=30000:=by
 refine cB rfl ?_;simp only[bK,Fe]
 (repeat' (first|intro _|apply And.intro))<;>grind[jf,zW,Dk]
theorem KY(x0:fO)(hp:x0.source.length<=1000000/\x0.target.length<=1000000):Z (vV x0) fun _=>True:=by
 refine cB rfl ?_;simp only[bK,Fj,aA,List.length_append,List.length_cons,List.length_nil]
 (repeat' (first|intro _|apply And.intro))<;>grind[Dk]
theorem afm(b:Bool):(fT ⟨[],[],b⟩).isSome=true:=(Dk ⟨[],[],b⟩ ⟨aaG _,aaG _⟩).1
theorem aCm(l:List (aqO))(a b:Int)(i n:Nat)(h:∀j,(l.getD j (Df.d:aqO)).length<=n):((cut l a b).getD i (Df.d:aqO)).length<=n:=by
 have hm:∀x∈l,x.length<=n:=fun x hx=>by obtain⟨j,hj,rfl⟩:=List.mem_iff_getElem.1 hx;have:=h j;rwa[List.getD,aaz hj]at this
 rw[List.getD];cases e:(cut l a b)[i]? with
 | none=>exact aaG _
 | some x=>exact hm x (List.mem_of_mem_drop (amH (agC e)))
theorem avh(s:aqO)(c:UInt8)(a b x y:Int)(i:Nat):((cut (d9 s [c] a b) x y).getD i (Df.d:aqO)).length<=s.length:=aCm _ x y i _ fun j=>QA s c a b j
set_option maxHeartbeats 2000000 in
theorem Jh(x0:aqO)(hp:x0.length<=1000000):Z (yt x0) fun r=>r.1.source.length<=x0.length/\r.1.target.length<=x0.length:=by
 refine cB rfl ?_;simp only[bK,Dh];have h1:=Dj x0 58 0 (-1);have h2:=Mv (d9 x0 [58] 0 (-1)) 0 (ak (((d9 x0 [58] 0 (-1)).length:Int)-1));have h3:=@dK (((d9 x0 [58] 0 (-1)).length:Int)-1)
 (repeat' (first|intro _|apply And.intro))<;>grind[QA,VY,avh,Dk,afm]
set_option maxHeartbeats 2000000 in
theorem afn(x0:Node)(hp:W2 x0):Z (tH x0) fun r=>G 501 r.1:=by
 refine j6 rfl (fun | .e y0=>y0=x0 | .h0 v0 v1 v2 v3 v4 v5=>0<=v2/\v2<=v1/\v0=x0.kids/\v1=(x0.kids.length:Int)/\v3=(0:Int)/\v4=([]:aqO)/\Fm v5.n/\(v5.n.kids.length:Int)<=v2 | .h1 v0 v1 v2 v3 v4 v5 v6=>0<=v2/\v2<=v1/\v1=(v0.length:Int)/\v0.length<=400/\v0=x0.keys/\v1=(x0.keys.length:Int)/\v3=x0/\v4=(0:Int)/\v5=([]:aqO)/\x0.kind=3/\Fm v6.n/\(v6.n.kids.length:Int)<=v2) (fun | .e _=>10000000000 | .h0 v0 v1 v2 v3 v4 v5=>20000000+(v1-v2).toNat | .h1 v0 v1 v2 v3 v4 v5 v6=>10000000+(v1-v2).toNat) rfl (by show 10000000000<_;omega) ?_;rintro(y0 | ⟨v0,v1,v2,v3,v4,v5⟩ | ⟨v0,v1,v2,v3,v4,v5,v6⟩) hs
 ·cases hs;simp only[bK,nP]
  (repeat' (first | (intro _) | (apply And.intro)))<;>grind[dK,aB,aA,iV,iW,lX,nR, -> kR,nS,nT, -> ny,nV,lY,kL,iJ,iX,ni,kK,mo,nk,iH,iI,bM,Jh,KY,dG,dP,dJ,dS,yR,KX]
 ·dsimp only at hs;simp only[bK,nP];have:=@dK (v2+1)
  (repeat' (first | (intro _) | (apply And.intro)))<;>grind[dK,aB,aA,iV,iW,lX,nR, -> kR,nS,nT, -> ny,nV,lY,kL,iJ,iX,ni,kK,mo,nk,iH,iI,bM,Jh,KY,dG,dP,dJ,dS,yR,KX]
 ·dsimp only at hs;simp only[bK,nP];have:=@dK (v2+1)
  (repeat' (first | (intro _) | (apply And.intro)))<;>grind[dK,aB,aA,iV,iW,lX,nR, -> kR,nS,nT, -> ny,nV,lY,kL,iJ,iX,ni,kK,mo,nk,iH,iI,bM,Jh,KY,dG,dP,dJ,dS,yR,KX]
end
section
theorem aCn{d:Nat}{x:Node}(h:G (d+1) x)(i:Nat):G (d+1) (x.kids.getD i (Df.d:Node))/\(0<d->i<x.kids.length->G d (x.kids.getD i (Df.d:Node))):=by
 unfold G at *;rw[List.getD];cases e:x.kids[i]? with
 | none =>refine⟨by have:=acz d;unfold G at this;exact this,fun _ hi=>?_⟩;rw[aaz hi]at e;cases e
 | some y =>have:=(fE.1 h).2.2.2 y (agC e);exact⟨vK 1 this,fun _ _=>this⟩
theorem aAD{d:Nat}{x:Node}(h:G (d+1) x):x.keys.length<=1000/\x.kids.length<=1000:=by unfold G at h;exact⟨(fE.1 h).1,(fE.1 h).2.1⟩
theorem aCo:∀(n:Nat) (b:budget) (x:Node) (deep:Int),13<=(n:Int)+deep->0<=deep->deep<=100->G (n+1) x->Z (fC (n+1) b x deep) fun _=>True:=by
 intro n
 induction n with
 | zero =>
  intro b x deep h1 h2 h3 h4;refine j6 (t:=fB (fC 0)) (s:=.e b x deep) rfl (fun | .e y0 y1 y2=>y2=deep | .h0 _ _ _ _ _=>False) (fun _=>0) rfl (by decide) ?_;rintro(⟨y0,y1,y2⟩ | ⟨v0,v1,v2,v3,v4⟩) hs
  ·cases hs;simp only[bK,fB]
   (repeat' (first|intro _|apply And.intro))<;>grind
  ·exact hs.elim
 | succ n ih =>
  intro b x deep h1 h2 h3 h4;have hk:=aAD h4;refine j6 (t:=fB (fC (n+1))) (s:=.e b x deep) rfl (fun | .e y0 y1 y2=>y1=x/\y2=deep | .h0 v0 v1 v2 v3 v4=>v0=deep/\deep<=12/\v1=x.kids/\v2=(x.kids.length:Int)/\0<=v3/\v3<=v2) (fun | .e _ _ _=>10000000000 | .h0 v0 v1 v2 v3 v4=>(v2-v3).toNat) ⟨rfl,rfl⟩ (by show 10000000000<_;omega) ?_;rintro(⟨y0,y1,y2⟩ | ⟨v0,v1,v2,v3,v4⟩) hs
  ·obtain⟨rfl,rfl⟩:=hs;simp only[bK,fB,nL]
   (repeat' (first|intro _|apply And.intro))<;>grind
  ·obtain⟨rfl,h5,rfl,rfl,h6,h7⟩:=hs;simp only[bK,fB];have h8:=@dK (v0+1);have h9:=@dK (v3+1);have h10:=(aCn h4 v3.toNat).2;have h11:=ih ⟨v4⟩ (x.kids.getD v3.toNat Df.d) (v0+1)
   (repeat' (first|intro _|apply And.intro))<;>grind
theorem ais(x:Node)(h:G 600 x):Z (zQ x) fun _=>True:=by
 refine cB rfl ?_;simp only[bK,E5];have h2:G (999999999999999999999999999998+1+1) x:=by unfold G at *;exact vK (n:=600) 999999999999999999999999999400 h
 have:=aCo 999999999999999999999999999999 ⟨2000⟩ x 1 (by omega) (by omega) (by omega) h2;exact⟨this.1,trivial⟩
theorem ak3(b:Bool):Z (kZ b) fun r=>r=dx [116,114,117,101]\/r=dx [102,97,108,115,101]:=by
 refine cB rfl ?_;simp only[bK,Hf]
 (repeat' (first|intro _|apply And.intro))<;>grind
theorem wf1(d:Nat)(k:Int)(s:aqO)(_:k≠3)(hs:s.length<=30000):wr (d+1) ⟨k,s,[],[]⟩:=⟨aaG _,aaG _,(fun _=>rfl),hs,(fun k hk=>by cases hk),(fun y hy=>by cases hy)⟩
theorem aAE(s:aqO)(hs:s.length<=30000):W1 (dx s):=by unfold W1 W;exact wf1 490 1 s (by decide) hs
theorem awz{ks:List (aqO)}{l:List Node}(h1:ks.length<=300)(h2:ks.length=l.length)(h3:∀k∈ks,k.length<=30000)(h4:∀y∈l,W1 y):W2 ⟨3,[],ks,l⟩:=by unfold W2 W;refine⟨h1,by show l.length<=300;omega,fun _=>h2,aaG _,h3,fun y hy=>?_⟩;have:=h4 y hy;unfold W1 W at this;exact this
theorem apz:W2 ⟨0,[],[],[]⟩:=by unfold W2 W;exact wf1 491 0 [] (by decide) (aaG _)
theorem aaL(ks:List (aqO))(l:List Node)(hp:W2 ⟨3,[],ks,l⟩):Z (lK ks l) fun r=>r=⟨0,[],[],[]⟩\/r=⟨3,[],ks,l⟩:=by
 refine cB rfl ?_;simp only[bK,JV,aB];have h1:=kR hp;have h2:=ais _ (by have:=kL hp;unfold G at *;exact vK (n:=501) 99 this)
 (repeat' (first|intro _|apply And.intro))<;>grind
end
section
theorem ayr(b:Bool):(kZ b).isSome=true/\W1 (gv (kZ b)):=by have:=ak3 b;refine⟨this.1,?_⟩;rcases this.2 with h | h<;>rw[h]<;>exact aAE _ (by decide)
theorem aAF(s:aqO)(a b:Node)(hs:s.length<=30000)(ha:W1 a)(hb:W1 b):(lK [[99,111,110,100,105,116,105,111,110],[114,101,113,117,105,114,101,100],[114,101,115,116,97,114,116]] [dx s,a,b]).isSome=true/\G 500 (gv (lK [[99,111,110,100,105,116,105,111,110],[114,101,113,117,105,114,101,100],[114,101,115,116,97,114,116]] [dx s,a,b])):=by
 have hw:=awz (ks:=[[99,111,110,100,105,116,105,111,110],[114,101,113,117,105,114,101,100],[114,101,115,116,97,114,116]]) (l:=[dx s,a,b]) (by decide) rfl (by decide) (fun y hy=>by
  simp only[List.mem_cons,List.not_mem_nil,or_false]at hy;rcases hy with rfl | rfl | rfl
  ·exact aAE _ hs
  ·exact ha
  ·exact hb)
 have:=aaL _ _ hw;refine⟨this.1,?_⟩;rcases this.2 with h | h
 ·rw[h];exact ni
 ·rw[h];have:=W_G (d:=492) (by unfold W2 at hw;exact hw);exact apv (d:=492) 8 this
set_option maxHeartbeats 2000000 in
theorem Xl(x0:Node)(hp:W2 x0):Z (BS x0) fun r=>G 500 r.1:=by
 refine cB rfl ?_;simp only[bK,Hg];have h1:=@aEB x0 hp;have h2:=fun f h=>jf f [99,111,110,100,105,116,105,111,110] [115,101,114,118,105,99,101,95,115,116,97,114,116,101,100] ⟨h,by decide⟩
 (repeat' (first|intro _|apply And.intro))<;>grind[zW,ayr,aAF]
end
section
theorem ak4(x0:Node)(hp:W2 x0):Z (yN x0) fun r=>G 501 r.1:=by
 refine j6 rfl (fun | .e y0=>y0=x0 | .h0 v0 v1 v2 v3 v4 v5 v6=>0<=v2/\v2<=v1/\v1=(v0.length:Int)/\v0.length<=400/\v3=x0/\v4=(0:Int)/\v5=([]:aqO)/\v3=x0/\(x0.kind=3->v0.length<=x0.kids.length)/\TL v0/\Fm v6.n/\(v6.n.kids.length:Int)<=v2) (fun | .e _=>10000000000 | .h0 v0 v1 v2 v3 v4 v5 v6=>(v1-v2).toNat) rfl (by show 10000000000<_;omega) ?_;rintro(y0 | ⟨v0,v1,v2,v3,v4,v5,v6⟩) hs
 ·cases hs;simp only[bK,yM]
  (repeat' (first | (intro _) | (apply And.intro)))<;>grind[dK,aB,aA,iV,iW,lX,nR, -> kR,nS,nT, -> ny,nV,lY,kL,iJ,iX,ni,kK,mo,nk,apz,bM,iy,Xl,dG,dP,dJ,dS,jF]
 ·dsimp only at hs;simp only[bK,yM];have:=@dK (v2+1)
  (repeat' (first | (intro _) | (apply And.intro)))<;>grind[dK,aB,aA,iV,iW,lX,nR, -> kR,nS,nT, -> ny,nV,lY,kL,iJ,iX,ni,kK,mo,nk,apz,bM,iy,Xl,dG,dP,dJ,dS,jF]
end
section
theorem aED{x:Node}(h:G 501 x):wg 10000 1000 x=true:=avg (apv (d:=501) 99 h)
theorem aCp(x:Node)(h:W1 x):Z (lK [[115,101,114,118,105,99,101]] [x]) fun r=>W2 r:=by
 have hw:=awz (ks:=[[115,101,114,118,105,99,101]]) (l:=[x]) (by decide) rfl (by decide) (fun y hy=>by simp only[List.mem_cons,List.not_mem_nil,or_false]at hy;rw[hy];exact h)
 have:=aaL _ _ hw;refine⟨this.1,?_⟩;rcases this.2 with h | h
 ·rw[h];exact apz
 ·rw[h];exact hw
theorem afo(x0:aqO)(hp:x0.length<=1000000):Z (nO x0) fun r=>0<=r/\r<=x0.length:=by
 refine j6 rfl (fun | .e y0=>y0=x0 | .h0 v0 v1=>v0=x0/\0<=v1/\v1<=(x0.length:Int)) (fun | .e _=>10000000000 | .h0 v0 v1=>((x0.length:Int)-v1).toNat) rfl (by show 10000000000<_;omega) ?_;rintro(y0 | ⟨v0,v1⟩) hs
 ·cases hs;simp only[bK,sZ]
  (repeat' (first|intro _|apply And.intro))<;>grind
 ·obtain⟨rfl,h1,h2⟩:=hs;simp only[bK,sZ]
  (repeat' (first|intro _|apply And.intro))<;>grind[dK]
theorem apA(x0:aqO):Z (oO x0) fun r=>0<=r.2.2/\r.2.2<=x0.length/\(r.2.2=0\/r.2.1≠0):=by
 refine cB rfl ?_;simp only[bK,JW];have h0:(x0==[])=false->0<x0.length:=fun h=>List.length_pos_iff.2 (by simpa using h)
 (repeat' (first|intro _|apply And.intro))<;>grind
set_option maxHeartbeats 2000000 in
theorem acC(x0:Node)(hp:W1 x0):Z (q8 x0) fun r=>G 501 r.1:=by
 refine cB rfl ?_;simp only[bK,AL];have key:∀y,W2 y->G 501 (fP 1000 y):=fun y h=>Ul 1000 501 y (kL h)
 have key2:∀y,W2 y->wg 10000 1000 y=true:=fun y h=>aED (kL h)
 have h0:=lY hp;have h1:=aCp x0 hp;have step:∀y:Node,W2 y->(aU ⟨y,(y.keys.length:Int),y.kind != 3⟩ [115,101,114,118,105,99,101] []).isSome=true/\(gv (aU ⟨y,(y.keys.length:Int),y.kind != 3⟩ [115,101,114,118,105,99,101] [])).1.n=y:=fun y h=>by have:=jf ⟨y,(y.keys.length:Int),y.kind != 3⟩ [115,101,114,118,105,99,101] [] ⟨h,by decide⟩;exact⟨this.1,this.2.1⟩
 have step2:∀f:field,W2 f.n->(aU ⟨f.n,f.left,f.bad⟩ [102,105,108,101] [120]).isSome=true:=fun f h=>(jf ⟨f.n,f.left,f.bad⟩ [102,105,108,101] [120] ⟨h,by decide⟩).1
 refine⟨fun _=>?_,fun _=>?_⟩
 ·refine⟨h1.1,?_⟩;have h1:=h1.2;generalize gv (lK _ _)=y at h1 ⊢;have a1:=step y h1;refine⟨a1.1,?_⟩;generalize gv (aU _ _ _)=p at a1 ⊢;refine⟨step2 p.1 (by rw[a1.2];exact h1),?_⟩
  (repeat' (first|intro _|apply And.intro))<;>grind[iy,bM,kK]
 ·have a1:=step x0 h0;refine⟨a1.1,?_⟩;generalize gv (aU _ _ _)=p at a1 ⊢;refine⟨step2 p.1 (by rw[a1.2];exact h0),?_⟩
  (repeat' (first|intro _|apply And.intro))<;>grind[iy,bM,kK]
set_option maxHeartbeats 2000000 in
theorem ak5(x0:aqO)(hp:x0.length<=1000000):Z (Ht x0) fun _=>True:=by
 refine j6 rfl (fun | .e y0=>y0=x0 | .h0 v0 v1 v2 v3 v4=>v0=x0/\0<=v4/\v4<=(x0.length:Int)) (fun | .e _=>10000000000 | .h0 v0 v1 v2 v3 v4=>((x0.length:Int)-v4).toNat) rfl (by show 10000000000<_;omega) ?_;rintro(y0 | ⟨v0,v1,v2,v3,v4⟩) hs
 ·cases hs;simp only[bK,BU]
  (repeat' (first|intro _|apply And.intro))<;>grind
 ·obtain⟨rfl,h1,h2⟩:=hs;simp only[bK,BU];have h3:=Mv v0 v4 (v0.length:Int) ⟨h1,h2,amd _⟩;have h4:(nO (cut v0 v4 (v0.length:Int))).isSome=true/\0<=gv (nO (cut v0 v4 (v0.length:Int)))/\gv (nO (cut v0 v4 (v0.length:Int)))<=(cut v0 v4 (v0.length:Int)).length:=afo (cut v0 v4 (v0.length:Int)) (by omega);generalize gv (nO (cut v0 v4 (v0.length:Int)))=k at h4 ⊢;have h5:ak (v4+k)=v4+k:=aV (by omega) (by omega);rw[h5];have h6:=Mv v0 v4 (v4+k) ⟨h1,by omega,by omega⟩;have h7:=Mv v0 (v4+k) (v0.length:Int) ⟨by omega,by omega,by omega⟩;have h8:(oO (cut v0 (v4+k) (v0.length:Int))).isSome=true/\0<=(gv (oO (cut v0 (v4+k) (v0.length:Int)))).2.2/\(gv (oO (cut v0 (v4+k) (v0.length:Int)))).2.2<=(cut v0 (v4+k) (v0.length:Int)).length/\((gv (oO (cut v0 (v4+k) (v0.length:Int)))).2.2=0\/(gv (oO (cut v0 (v4+k) (v0.length:Int)))).2.1≠0):=apA (cut v0 (v4+k) (v0.length:Int));have h9:=fun m=>nQ (cut v0 v4 (v4+k)) m (by omega)
  generalize gv (oO (cut v0 (v4+k) (v0.length:Int)))=u at h8 ⊢;have h10:ak (v4+k+u.2.2)=v4+k+u.2.2:=aV (by omega) (by omega);rw[h10]
  (repeat' (first|intro _|apply And.intro))<;>grind
end
section
theorem ar0(c:UInt8)(new:aqO)(h:new.length=4):∀s:aqO,(qF c new s).length<=4*s.length
 | []=>aaG _
 | b::t=>by have:=ar0 c new h t;rw[IB];split<;>simp only[List.length_append,List.length_cons,h]<;>omega
theorem aAG(s:aqO)(h:s.length<=1000000):TP s [39] [39,92,39,39] (-1)=true:=by unfold TP;rw[decide_eq_true h];rfl
theorem aCq(s:aqO):(Xd s [39] [39,92,39,39] (-1)).length<=4*s.length:=ar0 _ _ rfl s
theorem ar1(sep:aqO)(M:Nat):∀l:List (aqO),(∀s∈l,s.length<=M)->(Lib.join l sep).length<=l.length*(M+sep.length)
 | [],_=>by simp[Lib.join,List.intercalate]
 | [a],h=>by have:=h a abd;simp[Lib.join,List.intercalate];omega
 | a::b::t,h=>by
  have h1:=h a abd;have h2:=ar1 sep M (b::t) fun s hs=>h s (abb _ hs)
  have e:Lib.join (a::b::t) sep=a++sep++Lib.join (b::t) sep:=by simp[Lib.join,List.intercalate,List.intersperse]
  rw[e,List.length_append,List.length_append,List.length_cons (a:=a),anW];omega
def TJ(l:List (aqO)):Prop:=∀s∈l,s.length<=200000
theorem aAH:TJ []:=fun s h=>by cases h
theorem aAI{l:List (aqO)}{s:aqO}(h:TJ l)(hs:s.length<=200000):TJ (l++[s]):=fun x hx=>by
 rcases List.mem_append.1 hx with hx | hx
 ·exact h x hx
 ·rw[List.mem_singleton.1 hx];exact hs
theorem ays{l:List (aqO)}(c:UInt8)(h:TJ l)(hl:l.length<=400):acd l [c]=true:=by have:=ar1 [c] 200000 l h;have h2:l.length*(200000+[c].length)<=400*200001:=Nat.mul_le_mul hl (by simp);unfold acd;rw[decide_eq_true (show l.length<=1000000 by omega),decide_eq_true (show(Lib.join l [c]).length<=1000000000 by omega)];rfl
theorem aAJ{l:List (aqO)}(h:TL l)(a b:Int):TL (cut l a b):=by unfold TL at *;intro s hs;exact h s (List.mem_of_mem_drop (amH hs))
attribute [irreducible] TJ
theorem ak6(x0:aqO)(hp:x0.length<=1000000):Z (Hl x0) fun _=>True:=by
 refine j6 rfl (fun | .e y0=>y0=x0 | .h0 v0 v1 v2=>0<=v2/\v2<=v1/\v1=(v0.length:Int)/\v0=x0) (fun | .e _=>10000000000 | .h0 v0 v1 v2=>(v1-v2).toNat) rfl (by show 10000000000<_;omega) ?_;rintro(y0 | ⟨v0,v1,v2⟩) hs
 ·cases hs;simp only[bK,yO]
  (repeat' (first|intro _|apply And.intro))<;>grind
 ·dsimp only at hs;simp only[bK,yO];have:=@dK (v2+1)
  (repeat' (first|intro _|apply And.intro))<;>grind
theorem ak7(x0:List (aqO))(hp:TL x0/\x0.length<=400):Z (Ho x0) fun _=>True:=by
 refine j6 rfl (fun | .e y0=>y0=x0 | .h0 v0 v1 v2 v3=>0<=v3/\v3<=v2/\v2=(v1.length:Int)/\v1=x0/\TJ v0/\(v0.length:Int)=v3) (fun | .e _=>10000000000 | .h0 v0 v1 v2 v3=>(v2-v3).toNat) rfl (by show 10000000000<_;omega) ?_;rintro(y0 | ⟨v0,v1,v2,v3⟩) hs
 ·cases hs;simp only[bK,yP]
  (repeat' (first|intro _|apply And.intro))<;>grind[aAH]
 ·dsimp only at hs;simp only[bK,yP,aB,aA,List.length_append,List.length_cons,List.length_nil];have h1:=@dK (v3+1);have h2:=lX hp.1 v3.toNat;have h3:=aAG (List.getD x0 v3.toNat Df.d) (by omega);have h4:=aCq (List.getD x0 v3.toNat Df.d);have h5:=ak6 (List.getD x0 v3.toNat Df.d) (by omega);have h6:(v0++[[39]++Xd (List.getD x0 v3.toNat Df.d) [39] [39,92,39,39] (-1)++[39]])=v0++[[39]++Xd (List.getD x0 v3.toNat Df.d) [39] [39,92,39,39] (-1)++[39]]:=rfl;have h7:=fun s=>@aAI v0 s
  have h8:=@ays v0 32
  (repeat' (first|intro _|apply And.intro))<;>grind[List.length_append,List.length_cons,List.length_nil]
theorem ak8(x0:Node)(hp:W1 x0):Z (Hr x0) fun _=>True:=by
 refine cB rfl ?_;simp only[bK,Hq];have h0:=lY hp;have h1:=jF x0 h0;have h2:=kR h0;have h3:=fun a b=>aAJ h1.2.1 a b
 have h4:=fun a b=>Mv (gv (mW x0)).1 a b
 (repeat' (first|intro _|apply And.intro))<;>grind[ak7]
end
section
theorem aEE(n:Int) : -9223372036854775808<=ak n/\ak n<=9223372036854775807:=by have e:ak n=(if decide (n%18446744073709551616>=9223372036854775808)=true then n%18446744073709551616-18446744073709551616 else n%18446744073709551616):=rfl;have h1:=Int.emod_nonneg n (b:=18446744073709551616) (by decide);have h2:=Int.emod_lt_of_pos n (b:=18446744073709551616) (by decide);rw[e];split<;>rename_i h<;>rw[adB]at h<;>omega
def Rg(n:Int):Prop:=-9223372036854775808<=n/\n<=9223372036854775807
theorem afp(x0:aqO)(x1:Int)(hp:x0.length<=1000000):Z (yg x0 x1) fun r=>Rg r.1:=by
 refine j6 rfl (fun | .e y0 y1=>y0=x0/\y1=x1 | .h0 v0 v1 v2 v3 v4 v5=>0<=v5/\v5<=v4/\v4=(v0.length:Int)/\v0.length<=1000000/\Rg v2) (fun | .e _ _=>10000000000 | .h0 v0 v1 v2 v3 v4 v5=>(v4-v5).toNat) ⟨rfl,rfl⟩ (by show 10000000000<_;omega) ?_;have hw:∀n,Rg (ak n):=aEE;have h0:Rg 0:=⟨by decide,by decide⟩
 rintro(⟨y0,y1⟩ | ⟨v0,v1,v2,v3,v4,v5⟩) hs
 ·obtain⟨rfl,rfl⟩:=hs;simp only[bK,nN]
  all_goals grind
 ·dsimp only at hs;simp only[bK,nN];have:=@dK (v5+1)
  all_goals grind
theorem afq(x0:aqO)(x1:Int)(hp:x0.length<=1000000):Z (gI x0 x1) fun r=>Rg r.1:=by
 refine cB rfl ?_;simp only[bK,yh];have h0:Rg 0:=⟨by decide,by decide⟩
 all_goals grind[afp]
theorem Sl(f:field)(k:aqO)(h:W2 f.n):Z (ku f k) fun r=>r.1.n=f.n /\ -9223372036854775808<=r.2/\r.2<=9223372036854775807:=by
 refine cB rfl ?_;simp only[bK,pV];have h1:=aaK h;have h2:∀x n,x.length<=1000000->(gI x n).isSome=true/\(-9223372036854775808<=(gv (gI x n)).1/\(gv (gI x n)).1<=9223372036854775807):=fun x n h=>afq x n h
 grind[jf]
theorem aAK(x L:Int)(h:0<=x/\x<=1099511627776)(hL:1<=L/\L<=3600000):ak (Int.tdiv x L)=x / L/\0<=x / L/\x / L<=x/\ak (x / L*L)=x / L*L/\0<=x / L*L/\x / L*L<=x/\ak (x-x / L*L)=x-x / L*L:=by
 have h1:0<=x / L:=Int.ediv_nonneg h.1 (by omega);have h2:x / L*L<=x:=Int.ediv_mul_le x (by omega);have h3:x / L<=x / L*L:=by have:=Int.mul_le_mul_of_nonneg_left hL.1 h1;omega
 have h4:0<=x / L*L:=by omega
 refine⟨?_,h1,by omega,aV (by omega) (by omega),h4,h2,aV (by omega) (by omega)⟩;rw[aeI h.1];exact aV (by omega) (by omega)
theorem apB(x0:Int):Z (JX x0) fun _=>True:=by
 refine j6 rfl (fun | .e y0=>y0=x0 | .h0 v0 v1 v2 v3=>(0<=v0/\v0<=1099511627776)/\(0<=v3/\v3<=4)/\(v1.length:Int)<=30*v3/\∀i:Int,0<=i->i<4->∃L nm,List.getD ([v2.e0,v2.e1,v2.e2,v2.e3]:List xA) (Int.toNat i) (dflt Ty.vB)=⟨L,nm⟩/\(1<=L/\L<=3600000)/\nm.length<=2) (fun | .e _=>10000000000 | .h0 v0 v1 v2 v3=>(4-v3).toNat) rfl (by show 10000000000<_;omega) ?_;rintro(y0 | ⟨v0,v1,v2,v3⟩) hs
 ·cases hs;simp only[bK,AO];refine⟨fun _=>trivial,fun h=>⟨fun _=>trivial,fun h'=>⟨⟨by grind,⟨by omega,by omega⟩,by decide,?_⟩,by decide⟩⟩⟩;intro i h1 h2;have:i=0\/i=1\/i=2\/i=3:=by omega
  rcases this with rfl | rfl | rfl | rfl
  ·exact⟨3600000,[104],rfl,by decide⟩
  ·exact⟨60000,[109],rfl,by decide⟩
  ·exact⟨1000,[115],rfl,by decide⟩
  ·exact⟨1,[109,115],rfl,by decide⟩
 ·obtain⟨h1,h2,h3,h4⟩:=hs;simp only[bK,AO,aA,List.length_append];refine⟨fun h=>?_,fun _=>trivial⟩;obtain⟨L,nm,e,hL,hn⟩:=h4 v3 h2.1 h;rw[e];obtain⟨a1,a2,a3,a4,a5,a6,a7⟩:=aAK v0 L h1 hL;dsimp only;rw[a1,a4,a7];have h5:=@dK (v3+1);have h6:=zV (v0 / L) (by omega);rw[h5 (by omega)]
  (repeat' (first|intro _|apply And.intro))<;>grind
set_option maxHeartbeats 4000000 in
theorem afr(x0:Node)(hp:W2 x0):Z (tu x0) fun r=>G 501 r.1:=by
 refine j6 rfl (fun | .e y0=>y0=x0 | .h0 v0 v1 v2 v3 v4 v5 v6 v7 v8=>0<=v3/\v3<=v2/\v2=(v1.length:Int)/\v1.length<=2/\v4=x0/\v8.n=x0/\Fm v7.n/\(v7.n.kids.length:Int)<=v3+1) (fun | .e _=>10000000000 | .h0 v0 v1 v2 v3 v4 v5 v6 v7 v8=>(v2-v3).toNat) rfl (by show 10000000000<_;omega) ?_;have k1:=aaK hp;have k2:=aAz hp;rintro(y0 | ⟨v0,v1,v2,v3,v4,v5,v6,v7,⟨n8,l8,b8⟩⟩) hs
 ·cases hs;simp only[bK,tq];have h1:=fun l b=>zW ⟨x0,l,b⟩ [100,105,115,97,98,108,101] false hp
  (repeat' (first|intro _|apply And.intro))<;>grind[ak8,dJ,mo,iJ]
 ·obtain⟨h1,h2,h3,h4,rfl,h6,h7,h8⟩:=hs;simp only[bK,tq];have g1:=@dK (v3+1);have h6:n8=v4:=h6;subst h6;have g2:=fun k l b=>jf ⟨n8,l,b⟩ k [49,115] ⟨hp,by decide⟩
  have g3:=fun l b=>Sl ⟨n8,l,b⟩ [114,101,116,114,105,101,115] hp
  have g4:=akZ true
  (repeat' (first|intro _|apply And.intro))<;>grind[ak5,apB,dJ,dG,zV,bM,mo,kK,iJ]
end
section
def Fq(d:Nat)(n:Node):Prop:=(n.kind=3/\n.keys.length=n.kids.length)/\∀y∈n.kids,G d y
theorem aAL(d:Nat):Fq d ⟨3,[],[],[]⟩:=⟨⟨rfl,rfl⟩,fun y h=>by cases h⟩
theorem ayt{d:Nat}{n:Node}(k:aqO){v:Node}(h:Fq d n)(hv:G d v):Fq d (bD n k v)/\(bD n k v).kids.length<=n.kids.length+1:=by
 obtain⟨⟨h1,h2⟩,h3⟩:=h;unfold bD;rw[show(bif n.kind != 3 then n.kind != 0 else false)=false by rw[h1];rfl,cond_false];cases decide (0<=index n.keys k)with
 | true =>
  rw[cond_true];refine⟨⟨⟨rfl,by simp[h2]⟩,fun y hy=>?_⟩,by simp⟩;rcases mem_set hy with hy | rfl
  ·exact h3 y hy
  ·exact hv
 | false =>
  rw[cond_false];refine⟨⟨⟨rfl,by simp[h2]⟩,fun y hy=>?_⟩,by simp⟩;rcases List.mem_append.1 hy with hy | hy
  ·exact h3 y hy
  ·rw[List.mem_singleton.1 hy];exact hv
theorem aCr{d:Nat}{n:Node}(k:aqO)(v:Node)(h:Fq d n)(hl:n.kids.length<=1000):fU n k v=true :=
 qY.2 ⟨⟨by have:=h.1.2;show n.keys.length<=_;omega,by show n.kids.length<=_;omega⟩,fun _=>h.1.2⟩
theorem aEF{d:Nat}{n:Node}(h:Fq d n)(hl:n.kids.length<=1000):G (d+1) n:=by unfold Fq G at *;exact fE.2 ⟨by have:=h.1.2;omega,hl,fun _=>h.1.2,h.2⟩
theorem ayu{d:Nat}{n:Node}(h:Fq d n)(hl:n.kids.length<=1000)(hd:d<599):wg 10000 1000 n=true/\G (d+1) (fP 1000 n):=by have h1:=aEF h hl;refine⟨?_,Ul 1000 (d+1) n h1⟩;have:=apv (d:=d+1) (599-d) h1;rw[show d+1+(599-d)=600 by omega]at this;exact avg this
def F1(n:Node):Prop:=Fq 501 n
theorem aAM:F1 ⟨3,[],[],[]⟩:=aAL 501
theorem ayv{n:Node}(k:aqO){v:Node}(h:F1 n)(hv:G 501 v):F1 (bD n k v)/\(bD n k v).kids.length<=n.kids.length+1:=ayt k h hv
theorem aCs{n:Node}(k:aqO)(v:Node)(h:F1 n)(hl:n.kids.length<=1000):fU n k v=true:=aCr k v h hl
theorem ayw{n:Node}(h:F1 n)(hl:n.kids.length<=1000):wg 10000 1000 n=true/\G 502 (fP 1000 n):=ayu h hl (by decide)
def H1(n:Node):Prop:=(n.keys.length<=300/\(n.kind=3->n.keys.length=n.kids.length)/\TL n.keys)/\∀i:Nat,W1 (n.kids.getD i (Df.d:Node))
theorem aEG{n:Node}(h:H1 n):n.keys.length<=300/\(n.kind=3->n.keys.length=n.kids.length)/\TL n.keys:=h.1
theorem aEH{n:Node}(h:H1 n)(i:Nat):W1 (n.kids.getD i (Df.d:Node)):=h.2 i
attribute [irreducible] F1 H1
theorem aAN:G 502 ⟨0,[],[],[]⟩:=acz 501
theorem aEI:G 502 ⟨3,[],[],[]⟩:=by unfold G;exact fE.2 ⟨aaG _,aaG _,(fun _=>rfl),(fun y hy=>by cases hy)⟩
set_option maxHeartbeats 8000000 in
theorem Ew(x0:Node)(hp:H1 x0):Z (jI x0) fun r=>G 502 r.1/\r.2.1.length<=30000:=by
 refine j6 rfl (fun | .e y0=>y0=x0 | .h0 v0 v1 v2 v3 v4 v5 v6=>0<=v2/\v2<=v1/\v1=(v0.length:Int)/\v0=x0.keys/\v3=x0/\x0.kind=3/\F1 v6/\(v6.kids.length:Int)<=v2) (fun | .e _=>10000000000 | .h0 v0 v1 v2 v3 v4 v5 v6=>(v1-v2).toNat) rfl (by show 10000000000<_;omega) ?_;have h0:=aEG hp;rintro(y0 | ⟨v0,v1,v2,v3,v4,v5,v6⟩) hs
 ·cases hs;simp only[bK,fq]
  (repeat' (first|intro _|apply And.intro))<;>grind[aAM,aAN,aEI]
 ·obtain⟨h1,h2,h3,rfl,rfl,h6,h7,h8⟩:=hs;have a1:=@dK (v2+1);have a2:=aEH hp v2.toNat;have a3:=lY a2;have a4:=lX h0.2.2 v2.toNat;have a5:=ayw h7 (by omega);have a6:=fun k v=>aCs k v h7 (by omega)
  have a7:=fun k v h=>@ayv v6 k v h7 h
  simp only[bK,fq];generalize v3.kids.getD v2.toNat Df.d=y2 at a2 a3 ⊢;generalize v3.keys.getD v2.toNat Df.d=y1 at a4 ⊢;have a8:=kL a3
  (repeat' (first|intro _|apply And.intro))<;>grind[KS,aAN,akY,aio,aik,ain,afn,apx,ak4,acC,afr,acA,aij,ak0,air]
end
section
def F2(n:Node):Prop:=Fq 502 n
def F3(n:Node):Prop:=Fq 503 n
def H2(n:Node):Prop:=(n.keys.length<=300/\(n.kind=3->n.keys.length=n.kids.length)/\TL n.keys)/\∀i:Nat,H1 (n.kids.getD i (Df.d:Node))
def H3(n:Node):Prop:=(n.keys.length<=300/\(n.kind=3->n.keys.length=n.kids.length)/\TL n.keys)/\∀i:Nat,W1 (n.kids.getD i (Df.d:Node))/\H2 (n.kids.getD i (Df.d:Node))
attribute [irreducible] F2 F3 H2 H3
theorem YF(x0:Node)(hp:H1 x0):Z (fG x0) fun r=>G 502 r.1/\r.2.1.length<=30000:=by
 refine cB rfl ?_;simp only[bK,xJ]
 (repeat' (first|intro _|apply And.intro))<;>grind[Ew]
end
section
theorem jo{ρ σ:Type}{t:Tree ρ σ}{m:Option ρ}{s:σ}{r:ρ}(hm:m=mu t s)(I:σ->Prop)(M:σ->Nat)(hs:I s)(hM:M s<1000000000000000000000000000000)(h:∀s,I s->(t s).run Prop (fun r'=>r'=r) (fun s'=>I s'/\M s'<M s) False):m=some r:=by obtain⟨r',h1,h2⟩:=come (fun r'=>r'=r) hm I M hs hM h;rw[h1,h2]
theorem dL{ρ:Type}{t:Te ρ Empty}{m:Option ρ}{r:ρ}(hm:m=t.o)(h:t.run Prop (fun r'=>r'=r) (fun _=>False) False):m=some r:=by obtain⟨r',h1,h2⟩:=awq (fun r'=>r'=r) hm h;rw[h1,h2]
theorem gQ{α:Type}(l:List α)(d:α){i:Int}(h0:0<=i)(h:i<(l.length:Int)):l.drop i.toNat=l.getD i.toNat d::l.drop (i+1).toNat:=by
 have hi:i.toNat<l.length:=by omega
 rw[<- abl hi,show(i+1).toNat=i.toNat+1 by omega];simp[List.getD,hi]
theorem jw{α:Type}(l:List α){i:Int}(h:(l.length:Int)<=i):l.drop i.toNat=[]:=aa9 (by omega)
def vX(c:UInt8):Int:=(c.toNat:Int)-48
theorem aAO(c:UInt8):ak (ak (c.toNat:Int)-48)=vX c:=by have:=c.toNat_lt;show ak (ak (c.toNat:Int)-48)=_;rw[aV (n:=(c.toNat:Int)) (by omega) (by omega),aV (by omega) (by omega)];rfl
def KZ(most d n:Int)(over:Bool):Bool:=bif(bif over then true else decide (Int.tdiv (most-d) 10<n))then true else decide (most<d)
def Oy(most:Int):aqO->Int->Bool->Int×Int
 | [],n,over=>bif over then(0,9)else(n,0)
 | c::t,n,over=>bif(bif decide (vX c<0)then true else decide (9<vX c))then(0,3)else bif !(KZ most (vX c) n over)then Oy most t (n*10+vX c) (KZ most (vX c) n over)else Oy most t n (KZ most (vX c) n over)
def aaM(s:aqO):Bool:=bif s==[]then true else(bif decide ((1:Int)<(s.length:Int))then(((List.getD s 0 0).toNat:Int)==48)else false)
def iM(s:aqO)(most:Int):Int×Int:=bif aaM s then(0,3)else Oy most s 0 false
def amI(s:aqO)(most:Int):Int:=(iM s most).1
def VZ(s:aqO)(most:Int):Int:=(iM s most).2
def apC(s:aqO)(most:Int):Bool:=decide (s.length<=1000000)&&decide (0<=most)&&decide (most<=9007199254740992)
theorem xK{s:aqO}{most:Int}:apC s most=true↔(s.length<=1000000/\0<=most)/\most<=9007199254740992:=by simp[apC]
theorem aAP(c:UInt8) : -48<=vX c/\vX c<=207:=by have:=c.toNat_lt;unfold vX;omega
theorem cZ{n:Int}(h : -9223372036854775808<=n/\n<=9223372036854775807):ak n=n:=aV h.1 h.2
theorem RJ(s:aqO)(most:Int)(hk:apC s most=true):yg s most=some (iM s most):=by
 obtain⟨⟨hs,h0⟩,h1⟩:=xK.1 hk;refine jo rfl (fun | .e y0 y1=>y0=s/\y1=most | .h0 v0 v1 v2 v3 v4 v5=>v0=s/\v1=most/\v4=(s.length:Int)/\0<=v5/\v5<=v4/\0<=v2/\v2<=most/\Oy most (s.drop v5.toNat) v2 v3=iM s most) (fun | .e _ _=>10000000000 | .h0 v0 v1 v2 v3 v4 v5=>(v4-v5).toNat) ⟨rfl,rfl⟩ (by show 10000000000<_;omega) ?_;rintro(⟨y0,y1⟩ | ⟨v0,v1,v2,v3,v4,v5⟩) hs'
 ·obtain⟨rfl,rfl⟩:=hs';have e:iM y0 y1=bif aaM y0 then(0,3)else Oy y1 y0 0 false:=rfl
  have e2:y0=[]\/0<y0.length:=by cases y0<;>simp
  simp only[bK,nN]
  (repeat' (first|intro _|apply And.intro))<;>grind[aaM,aed]
 ·obtain⟨rfl,rfl,rfl,g1,g2,g3,g4,g5⟩:=hs';simp only[bK,nN,aAO];have e1:=@cZ (v5+1);by_cases hi:v5<(v0.length:Int)
  ·rw[gQ v0 0 g1 hi,Oy]at g5;generalize v0.getD v5.toNat 0=c at g5 ⊢;have b:=aAP c;generalize vX c=d at g5 b ⊢;have w1:ak (v1-d)=v1-d:=cZ (by omega);have w2:ak ((v1-d).tdiv 10)=(v1-d).tdiv 10:=cZ (by have:((v1-d).tdiv 10).natAbs=(v1-d).natAbs / 10:=Int.natAbs_tdiv _ _;omega);have ov:KZ v1 d v2 v3=false->v2*10+d<=v1:=fun ho=>by
    unfold KZ at ho;cases v3 with
    | true=>cases ho
    | false =>
     by_cases a1:(v1-d).tdiv 10<v2
     ·rw[dT a1]at ho;cases ho
     ·rw[dF a1]at ho;have hmd:¬ v1<d:=by simpa using ho
      have hq:(v1-d).tdiv 10=(v1-d) / 10:=aeI (by omega);omega
   have w3:=@cZ (v2*10);have w4:=@cZ (v2*10+d);rw[w1,w2]
   (repeat' (first|intro _|apply And.intro))<;>grind[KZ]
  ·rw[jw v0 (by omega),Oy]at g5
   (repeat' (first|intro _|apply And.intro))<;>grind
theorem tJ(s:aqO)(most:Int)(hk:apC s most=true):gI s most=some (iM s most):=by refine dL rfl ?_;have:=xK.1 hk;simp only[aN,bB,yh,RJ s most hk,aH,decide_eq_false (show ¬ most<0 by omega),cond_false]
end
section
def ar2(c:Int):Bool:=bif decide (97<=c)then decide (c<=122)else false
def V3(c:Int):Bool:=bif decide (48<=c)then decide (c<=57)else false
def Oz(c:Int):Bool:=bif ar2 c then true else(bif decide (65<=c)then decide (c<=90)else false)
def Bj(c:Int):Bool:=bif Oz c then true else V3 c
def yx(c:Int):Bool:=bif(bif(bif(bif Oz c then true else V3 c)then true else c==45)then true else c==95)then true else c==46
def Un(c:Int):Bool:=bif Oz c then true else c==95
def Mw(c:Int):Bool:=bif(bif Oz c then true else V3 c)then true else c==95
def rU(f g:Int->Bool)(s:aqO):Bool:=bif(bif(bif decide ((s.length:Int)<1)then true else decide ((24:Int)<(s.length:Int)))then true else !(f (Int.ofNat (List.getD s (Int.toNat 0) 0).toNat)))then false else(s.drop 1).all fun c=>g (Int.ofNat c.toNat)
theorem ait(c:Int):vL c=some (ar2 c):=dL rfl rfl
theorem Ji(c:Int):fA c=some (V3 c):=dL rfl rfl
theorem Dl(c:Int):nM c=some (Oz c):=dL rfl (by simp only[aN,bB,CY,ait,aH];rfl)
theorem YG(c:Int):Dw c=some (Bj c):=dL rfl (by simp only[aN,bB,xC,Dl,Ji,aH,aez,ad5,av,fI];rfl)
theorem WE(c:Int):BI c=some (Un c):=dL rfl (by simp only[aN,bB,vC,Dl,aH];rfl)
theorem ar3(s:aqO):((decide ((0:Int)<=0)&&decide ((0:Int)<(s.length:Int))) || !(!(bif decide ((s.length:Int)<1)then true else decide ((24:Int)<(s.length:Int)))))=true:=by
 cases s with
 | nil=>rfl
 | cons c t=>rw[decide_eq_true (show(0:Int)<((c::t).length:Int) by rw[List.length_cons];omega)];rfl
theorem ru(s:aqO)(hs:s.length<=1000000):iL s=some (rU Bj yx s):=by
 have h:jq s=some (rU Bj yx s):=by
  refine jo rfl (fun | .e y0=>y0=s | .h0 v0 v1=>v0=s/\1<=v1/\v1<=(s.length:Int)/\((s.drop v1.toNat).all fun c=>yx (Int.ofNat c.toNat))=rU Bj yx s) (fun | .e _=>10000000000 | .h0 _ v1=>((s.length:Int)-v1).toNat) rfl (by show 10000000000<_;omega) ?_;rintro(y0 | ⟨v0,v1⟩) hs'
  ·cases hs';simp only[aN,bB,dH,YG,aez,ad5,av,fI];simp only[bK]
   (repeat' (first|intro _|apply And.intro))<;>grind[rU]
  ·obtain⟨rfl,h1,h2,h3⟩:=hs';simp only[aN,bB,dH,Dl,Ji,aH,aez,ad5,av,fI];simp only[bK];have e1:=@cZ (v1+1);by_cases hi:v1<(v0.length:Int)
   ·rw[gQ v0 0 (by omega) hi,aeB]at h3;generalize v0.getD v1.toNat 0=c at h3 ⊢;have e:yx (Int.ofNat c.toNat)=yx (c.toNat:Int):=rfl
    (repeat' (first|intro _|apply And.intro))<;>grind[yx]
   ·rw[jw v0 (by omega)]at h3
    (repeat' (first|intro _|apply And.intro))<;>grind
 exact dL rfl (by simp only[aN,Az,h,aH])
theorem Mx(s:aqO)(hs:s.length<=1000000):zo s=some (rU Un Mw s):=by
 have h:jc s=some (rU Un Mw s):=by
  refine jo rfl (fun | .e y0=>y0=s | .h0 v0 v1=>v0=s/\1<=v1/\v1<=(s.length:Int)/\((s.drop v1.toNat).all fun c=>Mw (Int.ofNat c.toNat))=rU Un Mw s) (fun | .e _=>10000000000 | .h0 _ v1=>((s.length:Int)-v1).toNat) rfl (by show 10000000000<_;omega) ?_;rintro(y0 | ⟨v0,v1⟩) hs'
  ·cases hs';simp only[aN,bB,dw,WE,aez,ad5,av,fI];simp only[bK]
   (repeat' (first|intro _|apply And.intro))<;>grind[rU]
  ·obtain⟨rfl,h1,h2,h3⟩:=hs';simp only[aN,bB,dw,Dl,Ji,aH,aez,ad5,av,fI];simp only[bK];have e1:=@cZ (v1+1);by_cases hi:v1<(v0.length:Int)
   ·rw[gQ v0 0 (by omega) hi,aeB]at h3;generalize v0.getD v1.toNat 0=c at h3 ⊢;have e:Mw (Int.ofNat c.toNat)=Mw (c.toNat:Int):=rfl
    (repeat' (first|intro _|apply And.intro))<;>grind[Mw]
   ·rw[jw v0 (by omega)]at h3
    (repeat' (first|intro _|apply And.intro))<;>grind
 exact dL rfl (by simp only[aN,zm,h,aH])
end
section
theorem part{ρ σ:Type}[Df ρ]{t:Tree ρ σ}{m:Option ρ}{s:σ}(hm:m=mu t s)(Q:ρ->Prop)(I:σ->Prop)(hs:I s)(h:∀s,I s->(t s).run Prop Q I True):m.isSome=true->Q (gv m):=by
 have go:∀f s r,I s->Tt t f s=some r->Q r:=by
  intro f
  induction f with
  | zero=>intro s r _ e;cases e
  | succ f ih =>
   intro s r hs e;have h1:=h s hs;rw[Tt,Te.nat]at e;rw[Te.nat]at h1;cases ht:(t s).run _ Tr.k Tr.g Tr.n with
   | k r'=>rw[ht]at e h1;injection e with e;subst e;exact h1
   | g s'=>rw[ht]at e h1;exact ih s' r h1 e
   | n=>rw[ht]at e;cases e
 intro hi;obtain⟨r,hr⟩:=Option.isSome_iff_exists.1 hi;rw[hr,fI];rw[hm]at hr;exact go _ s r hs hr
theorem awC{ρ:Type}[Df ρ]{t:Te ρ Empty}{m:Option ρ}(hm:m=t.o)(Q:ρ->Prop)(h:t.run Prop Q (fun _=>False) True):m.isSome=true->Q (gv m):=by
 subst hm;intro hi;rw[Te.nat]at h;rw[Te.o,Te.nat]at hi ⊢;cases ht:t.run _ Tr.k Tr.g Tr.n with
 | k r'=>rw[ht]at h;exact h
 | g s2=>cases s2
 | n=>rw[ht]at hi;cases hi
theorem iA{ρ:Type}[Df ρ]{t:Te ρ Empty}{m:Option ρ}{q:ρ}(hm:m=t.o)(h:t.run Prop (fun r=>r=q) (fun _=>False) True):m.isSome=true->gv m=q:=awC hm _ h
theorem pI{α:Type}[Df α](l:List α)(i:Int)(f:α->Prop):ix l i True f=(0<=i->i<(l.length:Int)->f (l.getD i.toNat Df.d)):=by unfold ix;rw[wB];simp
theorem pS(l:aqO)(i:Int)(f:Int->Prop):Oi l i True f=(0<=i->i<(l.length:Int)->f ((l.getD i.toNat 0).toNat:Int)):=by unfold Oi;rw[wB];simp
theorem pK(c:Bool)(a:Prop):ck c True a=(c=true->a):=by unfold ck;cases c<;>simp
theorem pZ{α:Type}[Df α](o:Option α)(f:α->Prop):cl o True f=(o.isSome=true->f (gv o)):=by
 cases o with
 | none=>simp[cl]
 | some r=>simp[cl,gv]
theorem trQ:(∀(c:Bool) (a b:Prop),(bif c then a else b)=((c=true->a)/\(c=false->b)))/\(∀(α:Type) [Df α] (l:List α) (i:Int) (f:α->Prop),ix l i True f=(0<=i->i<(l.length:Int)->f (l.getD i.toNat Df.d)))/\(∀(l:aqO) (i:Int) (f:Int->Prop),Oi l i True f=(0<=i->i<(l.length:Int)->f ((l.getD i.toNat 0).toNat:Int))) /\
  (∀(c:Bool) (a:Prop),ck c True a=(c=true->a))/\(∀(α:Type) [Df α] (o:Option α) (f:α->Prop),cl o True f=(o.isSome=true->f (gv o)))/\(∀x:Node,aj x=x)/\(∀a b:Bool,((a||b)=true)=(a=true\/b=true))/\(∀a b:Bool,((a&&b)=true)=(a=true/\b=true))/\(∀(p:Prop) [Decidable p],(decide p=true)=p) /\
  (∀a:Bool,((!a)=true)=(a=false))/\(∀(p:Prop) [Decidable p],(decide p=false)=¬p)/\(∀(β:Type) (l:List β) (i:Int),fZ l i=(decide ((0:Int)<=i)&&decide (i<(l.length:Int))))/\(∀(β:Type) (l:List β) (a b:Int),bN l a b=(decide ((0:Int)<=a)&&decide (a<=b)&&decide (b<=(l.length:Int)))) /\
  (∀(α:Type) [BEq α] [LawfulBEq α] (a b:α),((a==b)=true)=(a=b))/\(∀s p:aqO,uI s p=(decide (s.length<=1000000)&&decide (p.length=1)))/\(∀(s p:aqO) (a b:Int),Qt s p a b=(decide (s.length<=1000000)&&decide (p.length=1)&&(a==0)&&(b == -1))) :=
 ⟨wB,fun _ _=>pI,pS,pK,fun _ _=>pZ,trB.2.2.2.2.2⟩
theorem eX:type_of% (And.intro @aN (And.intro bB trQ)):=And.intro @aN (And.intro bB trQ)
def lq:List Node->Option (List (aqO))
 | []=>some []
 | x::t=>bif x.kind != 1 then none else(lq t).map (x.text :: ·)
def bH(n:Node):List (aqO):=(lq n.kids).getD []
def pY(n:Node):Bool:=(lq n.kids).isSome&&(bif n.kind==2 then decide ((n.kids.length:Int)<=32)else false)
theorem jG:gv dW=(⟨0,[],[],[]⟩,10):=by have h:dW=some (⟨0,[],[],[]⟩,10):=dL rfl rfl;rw[h,fI]
theorem rz(n:Node)(k:Int):jJ n k=some (bif n.kind==k then decide ((n.kids.length:Int)<=32)else false):=dL rfl rfl
theorem zX(n:Node)(hl:n.kids.length<=1000000):(mW n).isSome=true->gv (mW n)=(bH n,pY n):=by
 refine part rfl (fun r=>r=(bH n,pY n)) (fun | .e y0=>y0=n | .h0 v0 v1 v2 v3 v4=>v1=n.kids/\v2=(n.kids.length:Int)/\0<=v3/\v3<=v2/\v4=n/\bH n=((lq (n.kids.drop v3.toNat)).map (v0 ++ ·)).getD []/\pY n=((lq (n.kids.drop v3.toNat)).isSome&&(bif n.kind==2 then decide ((n.kids.length:Int)<=32)else false))) rfl ?_;rintro(y0 | ⟨v0,v1,v2,v3,v4⟩) hs
 ·cases hs;simp only[eX,vM];refine⟨trivial,trivial,by omega,by omega,trivial,?_,rfl⟩;show(lq n.kids).getD []=((lq n.kids).map (([]:List (aqO)) ++ ·)).getD [];cases lq n.kids<;>rfl
 ·obtain⟨rfl,rfl,h1,h2,rfl,h3,h4⟩:=hs;simp only[aN,bB,vM,rz,aH];simp only[eX];have e1:=@cZ (v3+1);by_cases hi:v3<(v4.kids.length:Int)
  ·rw[gQ v4.kids Df.d h1 hi,lq]at h3 h4;rw[e1 (by omega)];generalize v4.kids.getD v3.toNat Df.d=y at h3 h4 ⊢;cases hk:y.kind != 1<;>cases ht:lq (v4.kids.drop (v3+1).toNat)<;>simp only[hk,ht,cond_true,cond_false,Option.map_none,aji,Option.getD_none,am4,Option.isSome_none,aez,ajZ,aeu]at h3 h4 ⊢ <;> ((repeat' (first|intro _|apply And.intro))<;>grind[abt,agI])
  ·rw[jw v4.kids (by omega),lq]at h3 h4;simp only[aji,am4,aez,aeu,aeb]at h3 h4
   (repeat' (first|intro _|apply And.intro))<;>grind
end
section
theorem yZ:zn=(⟨0,[],[],[]⟩:Node):=rfl
def qH(n:Node)(k:Int):Bool:=bif n.kind==k then decide ((n.kids.length:Int)<=32)else false
def zY(y:Node):Bool:=bif y.kind != 0 then(bif y.kind != 3 then true else decide ((0:Int)<(y.keys.length:Int)))else false
def IG(v:aqO->Node):List (aqO)->Node->Node
 | [],o=>o
 | s::t,o=>IG v t (bD o s (v s))
def aaN(o:Node)(bad:Bool):Bool:=bif bad then true else decide ((32:Int)<(o.keys.length:Int))
def DY(o:Node)(bad:Bool):Node:=bif aaN o bad then zn else fP 1000 ⟨3,o.text,o.keys,o.kids⟩
def DZ(o:Node)(bad:Bool):Int:=bif aaN o bad then 10 else 0
theorem iE(f:form)(b:Bool):bX f b=some (⟨f.n,bif f.bad then true else b⟩,b):=dL rfl (by simp only[aN,bB,xD,bf])
theorem iB(f:form)(k:aqO)(v:Node):(bZ f k v).isSome=true->gv (bZ f k v)=(⟨bD f.n k v,f.bad⟩,()):=by refine iA rfl ?_;simp only[eX,zq];exact fun _=>trivial
theorem iF(f:form):(dA f).isSome=true->(gv (dA f)).2=(DY f.n f.bad,DZ f.n f.bad):=by
 refine awC rfl (fun r:form×Node×Int=>r.2=(DY f.n f.bad,DZ f.n f.bad)) ?_;simp only[eX,xE,jG,DY,DZ,aaN]
 (repeat' (first|intro _|apply And.intro))<;>grind[yZ]
def qO(n:Node):List (aqO):=bif qH n 3 then n.keys else bH n
def set0(n:Node):Bool:=bif qH n 3 then n.kids.any zY else !(pY n)
def YH(n:Node):Bool:=set0 n||(qO n).any fun s=>!(rU Bj yx s)
def YI(n:Node):Node:=IG (fun _=>zn) (qO n) zn
def M7(n:Node):Node:=DY (YI n) (YH n)
def M8(n:Node):Int:=DZ (YI n) (YH n)
theorem apD(n:Node)(hl:n.kids.length<=1000000)(_:n.keys.length<=1000000)(hs:∀s∈qO n,s.length<=1000000)(hn:(qO n).length<=1000000):(um n).isSome=true->gv (um n)=(M7 n,M8 n):=by
 refine part rfl (fun r=>r=(M7 n,M8 n)) (fun | .e y0=>y0=n | .h0 v0 v1 v2 v3 v4 v5 v6 v7=>v0=n.keys/\v1=true/\v2=n.kids/\v3=(n.kids.length:Int)/\0<=v4/\v4<=v3/\qH n 3=true/\v7.n=zn/\(v7.bad||(n.kids.drop v4.toNat).any zY)=n.kids.any zY | .h1 v0 v1 v2 v3 v4 v5=>v0=qO n/\v1=((qO n).length:Int)/\0<=v2/\v2<=v1/\IG (fun _=>zn) ((qO n).drop v2.toNat) v5.n=YI n/\(v5.bad||((qO n).drop v2.toNat).any fun s=>!(rU Bj yx s))=YH n) rfl ?_;rintro(y0 | ⟨v0,v1,v2,v3,v4,v5,v6,⟨o,bad⟩⟩ | ⟨v0,v1,v2,v3,v4,⟨o,bad⟩⟩) hs'
 ·cases hs';simp only[aN,bB,uj,rz,iE,bf,aH];simp only[eX];have h1:=zX n hl;have h2:qH n 3=(bif n.kind==3 then decide ((n.kids.length:Int)<=32)else false):=rfl
  (repeat' (first|intro _|apply And.intro))<;>grind[qO,set0,YH,YI,aed,yZ]
 ·obtain⟨rfl,rfl,rfl,rfl,h1,h2,h3,h4,h5⟩:=hs';simp only[aN,bB,uj,iE,bf,aH];simp only[eX];have e1:=@cZ (v4+1);by_cases hi:v4<(n.kids.length:Int)
  ·rw[gQ n.kids Df.d h1 hi,al6]at h5;generalize n.kids.getD v4.toNat Df.d=y at h5 ⊢;have e2:(bif(y.kind != (0:Int))then(bif(y.kind != (3:Int))then true else(decide ((0:Int)<((y.keys).length:Int))))else false)=zY y:=rfl;rw[e2]
   (repeat' (first|intro _|apply And.intro))<;>grind
  ·rw[jw n.kids (by omega),List.any_nil]at h5
   (repeat' (first|intro _|apply And.intro))<;>grind[qO,set0,YH,YI,aed]
 ·obtain⟨rfl,rfl,h1,h2,h3,h4⟩:=hs';simp only[aN,bB,uj,iE,bf,aH];simp only[eX];have e1:=@cZ (v2+1);by_cases hi:v2<((qO n).length:Int)
  ·rw[gQ (qO n) Df.d h1 hi,IG]at h3;rw[gQ (qO n) Df.d h1 hi,al6]at h4;have h5:=hs _ (aee (show v2.toNat<(qO n).length by omega));have h6:(qO n).getD v2.toNat Df.d=(qO n)[v2.toNat]'(by omega):=by simp[List.getD,show v2.toNat<(qO n).length by omega]
   rw[<- h6]at h5;clear h6;generalize (qO n).getD v2.toNat Df.d=s at h3 h4 h5 ⊢;have h7:=ru s h5;have h8:=fun b=>iB ⟨o,b⟩ s ⟨0,[],[],[]⟩
   rw[h7]
   (repeat' (first|intro _|apply And.intro))<;>grind[fI,yZ]
  ·rw[jw (qO n) (by omega),IG]at h3;rw[jw (qO n) (by omega),List.any_nil]at h4;have h5:=iF ⟨o,bad⟩
   (repeat' (first|intro _|apply And.intro))<;>grind[M7,M8]
end
section
def M9:aqO:=[61]
def Xm(f:aqO->Bool):List (aqO)->Node->Bool->Node×Bool
 | [],o,b=>(o,b)
 | s::t,o,b=>Xm f t (bD o (lU s M9) (dx (pU s M9))) (bif b then true else(bif aD o (lU s M9)then true else !(f (lU s M9))))
def RL(f:aqO->Bool):List (aqO)->List Node->Node->Bool->Node×Bool
 | s::t,y::r,o,b=>RL f t r (bD o s (dx y.text)) (bif b then true else(bif decide ((1:Int)<y.kind)then true else !(f s)))
 | _,_,o,b=>(o,b)
def K3(vars:Bool)(s:aqO):Bool:=bif vars then rU Un Mw s else rU Bj yx s
def Uo(n:Node)(vars:Bool):Node×Bool:=bif pY n then Xm (K3 vars) (bH n) zn false else bif qH n 3 then RL (K3 vars) n.keys n.kids zn false else(zn,true)
theorem aiu(s p:aqO):(lU s p).length<=s.length:=by
 unfold lU;cases decide (0<=pR s p)
 ·exact abn _
 ·show(List.take _ s).length<=s.length;rw[ad6];omega
def Jj(n:Node)(vars:Bool):Node:=DY (Uo n vars).1 (Uo n vars).2
def Jk(n:Node)(vars:Bool):Int:=DZ (Uo n vars).1 (Uo n vars).2
theorem rV{l:List (aqO)}{B:Nat}(h:∀s∈l,s.length<=B)(i:Nat):(l.getD i (Df.d:aqO)).length<=B:=by
 rw[List.getD];cases e:l[i]? with
 | none=>exact aaG _
 | some x=>exact h x (agC e)
theorem aiv:DY zn true=zn/\DZ zn true=10:=⟨rfl,rfl⟩
set_option maxHeartbeats 1000000 in
theorem aiw(n:Node)(vars:Bool)(hl:n.kids.length<=1000000)(hk:n.keys.length<=1000000)(h3:n.kind=3->n.keys.length=n.kids.length)(hs:∀s∈bH n,s.length<=1000000)(hn:(bH n).length<=1000000)(hs2:∀s∈n.keys,s.length<=1000000):(vP n vars).isSome=true->gv (vP n vars)=(Jj n vars,Jk n vars):=by
  refine part rfl (fun r=>r=(Jj n vars,Jk n vars)) (fun | .e y0 y1=>y0=n/\y1=vars | .Qv v0 v1 v2 _ _ v5=>vars=false/\v0=bH n/\v1=((bH n).length:Int)/\0<=v2/\v2<=v1/\Xm (rU Bj yx) ((bH n).drop v2.toNat) v5.n v5.bad=Uo n vars | .Qw v0 v1 v2 _ _ v5=>vars=true/\v0=bH n/\v1=((bH n).length:Int)/\0<=v2/\v2<=v1/\Xm (rU Un Mw) ((bH n).drop v2.toNat) v5.n v5.bad=Uo n vars | .Qx v0 v1 v2 v3 _ _ v6=>vars=false/\v3=n/\n.kind=3/\v0=n.keys/\v1=(n.keys.length:Int)/\0<=v2/\v2<=v1/\RL (rU Bj yx) (n.keys.drop v2.toNat) (n.kids.drop v2.toNat) v6.n v6.bad=Uo n vars | .Qy v0 v1 v2 v3 _ _ v6=>vars=true/\v3=n/\n.kind=3/\v0=n.keys/\v1=(n.keys.length:Int)/\0<=v2/\v2<=v1/\RL (rU Un Mw) (n.keys.drop v2.toNat) (n.kids.drop v2.toNat) v6.n v6.bad=Uo n vars) ⟨rfl,rfl⟩ ?_;rintro(⟨y0,y1⟩ | ⟨v0,v1,v2,v3,v4,⟨o,bad⟩⟩ | ⟨v0,v1,v2,v3,v4,⟨o,bad⟩⟩ | ⟨v0,v1,v2,v3,v4,v5,⟨o,bad⟩⟩ | ⟨v0,v1,v2,v3,v4,v5,⟨o,bad⟩⟩) hs'
  · obtain⟨rfl,rfl⟩:=hs';simp only[aN,bB,kY,rz,bf,aH];simp only[eX];have h1:=zX y0 hl;have h2:=jG;have h4:=aiv;have h5:K3 true=rU Un Mw:=rfl;have h6:K3 false=rU Bj yx:=rfl
    (repeat' (first|intro _|apply And.intro))<;>grind[Uo,Jj,Jk,aed,yZ,qH]
  all_goals
    first
    | (obtain⟨rfl,rfl,rfl,h1,h2,h4⟩:=hs'
       simp only[aN,bB,kY,iE,bf,aH];simp only[eX];have e1:=@cZ (v2+1);by_cases hi:v2<((bH n).length:Int)
       · rw[gQ (bH n) Df.d h1 hi,Xm]at h4;have h5:=rV hs v2.toNat;generalize (bH n).getD v2.toNat Df.d=s at h4 h5 ⊢;have h6:=aiu s [61];have h7:=fun b=>iB ⟨o,b⟩ (lU s [61]) (dx (pU s [61]))
         have h8:lU s M9=lU s [61]:=rfl;have h9:pU s M9=pU s [61]:=rfl;rw[h8,h9]at h4
         first | rw[ru _ (by omega)] | rw[Mx _ (by omega)]
         (repeat' (first|intro _|apply And.intro))<;>grind[fI]
       · rw[jw (bH n) (by omega),Xm]at h4;have h5:=iF ⟨o,bad⟩
         (repeat' (first|intro _|apply And.intro))<;>grind[Jj,Jk])
    | (obtain⟨rfl,rfl,h0,rfl,rfl,h1,h2,h4⟩:=hs'
       have hkk:=h3 h0;simp only[aN,bB,kY,iE,bf,aH];simp only[eX];have e1:=@cZ (v2+1);by_cases hi:v2<(v3.keys.length:Int)
       · rw[gQ v3.keys Df.d h1 hi,gQ v3.kids Df.d h1 (by omega),RL]at h4;have h5:=rV hs2 v2.toNat;generalize v3.keys.getD v2.toNat Df.d=s at h4 h5 ⊢;generalize v3.kids.getD v2.toNat Df.d=y at h4 ⊢;have h7:=fun b=>iB ⟨o,b⟩ s (dx y.text)
         first | rw[ru _ h5] | rw[Mx _ h5]
         (repeat' (first|intro _|apply And.intro))<;>grind[fI]
       · rw[jw v3.keys (by omega),RL]at h4;have h5:=iF ⟨o,bad⟩
         (repeat' (first|intro _|apply And.intro))<;>grind[Jj,Jk]
         all_goals (intro a b c d e;cases e))
end
end Go.Proofs.YtclnniijooeajaaGreatDoor.Rf
