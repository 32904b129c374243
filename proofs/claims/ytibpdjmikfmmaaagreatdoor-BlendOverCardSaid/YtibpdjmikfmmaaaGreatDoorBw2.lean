/- Part 2 of a proof: the texts MirI MirJ MirK MirL MirM MirN, one behind the other. -/
import Derived.Test.YtibpdjmikfmmaaaGreatDoorBw1
import Derived.Lib.UnsafeStr
import Derived.MapKept
noncomputable section
namespace Go.Proofs.YtibpdjmikfmmaaaGreatDoor.bB
open Go Go.RowKit
section
variable {P:Program} {E:Env P}
def gF(E:Env P)(w:World)(ro:Nat->Nat->Prop):List Value->List (TV E)->Prop
 | [],[]=>True
 | v::vs,⟨t,x⟩::r=>vI E w ro v t x/\gF E w ro vs r
 | _,_=>False
def qz(E:Env P)(w:World)(ro:Nat->Nat->Prop)(v:Value):List (TV E)->Prop
 | [⟨t,x⟩]=>vI E w ro v t x
 | rs=>∃vs:List Value,v = .tuple vs.toArray/\gF E w ro vs rs
def EU(E:Env P)(f:FuncId)(args res:List (TV E)):Prop :=
 ∀(w:World) (ro:Nat->Nat->Prop) (vals:List Value),gF E w ro vals args->(∀k o,ro k o->k<w.heap.size) ->
  Calls P f vals.toArray w fun e w'=>∃v,e = .returned v/\Below w.heap.size w w'/\qz E w' (fun k o=>ro k o\/(w.heap.size<=k/\k<w'.heap.size)) v res
abbrev rz (P:Program) (f:FuncId):Prop:=∃fn,P.funcs[f]? = some fn/\(fn.name == "runtime.NumGoroutine")=false/\fn.body.isNone=false
def aV(E:Env P)(f:FuncId)(F:List (TV E)->Option (Bool×List (TV E))):Prop :=
 (rz P f)/\∀args res,F args=some (true,res)->EU E f args res
def aaU(E:Env P)(f:FuncId)(args:List (TV E))(t:E.Ty)(l:List (E.Den t)):Prop :=
 ∀(w:World) (ro:Nat->Nat->Prop) (vals:List Value),gF E w ro vals args->(∀k o,ro k o->k<w.heap.size) ->
  Calls P f vals.toArray w fun e w'=>∃(gh:Gh) (xs:List Value),e = .returned gh.v/\Below w.heap.size w w'/\gh.n=l.length/\gh.e=E.tid t/\gh.sz=E.size t/\sW w' gh xs/\ng E w' ro t xs l/\∀g,gh.blk=some g->w.heap.size<=g
def ahZ(E:Env P)(f:FuncId)(t:E.Ty)(l:List (E.Den t))(rest:List (TV E))(back:Bool)(l':List (E.Den t)):Prop :=
 ∀(w:World) (ro:Nat->Nat->Prop) (gh:Gh) (xs:List Value) (vals:List Value),gh.n=l.length->gh.e=E.tid t->gh.sz=E.size t->sW w gh xs->ng E w ro t xs l->(∀g,gh.blk=some g->∀o,¬ ro g o)->gF E w ro vals rest->(∀k o,ro k o->k<w.heap.size) ->
  Calls P f (gh.v::vals).toArray w fun e w'=>∃(val:Value) (bE:Gh) (xs':List Value),e = .returned val/\w.grownBy w' gh.blk/\bE.n=l'.length/\bE.e=E.tid t/\bE.sz=E.size t/\sW w' bE xs'/\ng E w' (fun k o=>ro k o\/(bE.blk≠some k/\(gh.blk=some k\/w.heap.size<=k/\k<w'.heap.size))) t xs' l' /\
   (∀g,bE.blk=some g->gh.blk=some g\/w.heap.size<=g)/\(back=true->val=bE.v)/\(back=false->bE=gh)
def aeH(E:Env P)(f:FuncId)(t:E.Ty):Prop :=
 ∀(w:World) (n:Int),0<=n->n*(E.bytes t:Int)<=140737488355328 ->
  Calls P f #[.slice none 0 0,.int .i64 n] w fun e w'=>∃(gh:Gh),e = .returned gh.v/\Below w.heap.size w w'/\gh.n=0/\gh.e=E.tid t/\gh.sz=E.size t/\sW w' gh []/\∀g,gh.blk=some g->w.heap.size<=g
def Zh(E:Env P)(f:FuncId)(t:E.Ty)(x:E.Den t)(rest:List (TV E))(y:E.Den t)(res:List (TV E)):Prop :=
 ∀(w:World) (ro:Nat->Nat->Prop) (g:Nat) (e:TypeId) (vs:Array Value) (vals:List Value),w.heap[g]? = some (.cells vs e (0,0))->oZ E w ro vs (E.cells t x)->(∀o,¬ ro g o)->gF E w ro vals rest->(∀k o,ro k o->k<w.heap.size) ->
  Calls P f (.pointer (some ⟨g,0,none⟩)::vals).toArray w fun ed w'=>∃(v:Value) (vs':Array Value),ed = .returned v/\w.grownBy w' (some g)/\w'.heap[g]? = some (.cells vs' e (0,0)) /\
   oZ E w' (fun k o=>ro k o\/(w.heap.size<=k/\k<w'.heap.size)) vs' (E.cells t y)/\qz E w' (fun k o=>ro k o\/(w.heap.size<=k/\k<w'.heap.size)) v res
def ape(E:Env P)(w:World)(ro:Nat->Nat->Prop)(v:Value):Arg E->Prop
 | .v x=>vI E w ro v x.1 x.2
 | .c f p q=>∃vs us:Array Value,v = .func (.func f) vs us/\gF E w ro vs.toList p/\gF E w ro us.toList q
def aaV(E:Env P)(f:FuncId)(args:List (Arg E))(res:List (TV E)):Prop :=
 ∀(w:World) (ro:Nat->Nat->Prop) (vals:List Value),vals.length=args.length->(∀(i:Nat) v y,vals[i]? = some v->args[i]? = some y->ape E w ro v y)->(∀k o,ro k o->k<w.heap.size) ->
  Calls P f vals.toArray w fun e w'=>∃v,e = .returned v/\Below w.heap.size w w'/\qz E w' (fun k o=>ro k o\/(w.heap.size<=k/\k<w'.heap.size)) v res
def awX(E:Env P)(I:Inl E):Prop:=∀{R:Type} (f:FuncId) (args:List (AV E)) (objs:List (Nat×aU E)) (next:Nat) (k:AV E->List (Nat×aU E)->Nat->Option R) (rr:R),I.run f args objs next k=some rr ->
 (rz P f) /\
 ∀(w0:Start) (aP:Nat->Nat->Prop) (a:Act) (w:World) (ι:Nat->Option Gh) (ro:Nat->Nat->Prop) (vals:List Value),Base w0 aP a w ι ro->(∀(id:Nat) o,look objs id=some o->kE E w ro ι id o)->Inj E objs ι->(∀id,next<=id->ι id=none) ->
  (∀id o,look objs id=some o->id<next)->vals.length=args.length->(∀(i:Nat) v x,vals[i]? = some v->args[i]? = some x->aO E w ro ι v x) ->
  Calls P f vals.toArray w fun e w'=>∃(v:Value) (x:AV E) (nH:List (Nat×aU E)) (next':Nat) (ι':Nat->Option Gh) (ro':Nat->Nat->Prop),e = .returned v/\k x nH next'=some rr/\aO E w' ro' ι' v x/\Base w0 aP a w' ι' ro' /\
   (∀(id:Nat) o,look nH id=some o->kE E w' ro' ι' id o)/\Inj E nH ι'/\(∀id,next'<=id->ι' id=none)/\(∀id o,look nH id=some o->id<next') /\
   (∀k o,ro k o->ro' k o/\w'.cell? ⟨k,o,none⟩=w.cell? ⟨k,o,none⟩)/\∀id gh,ι id=some gh->ι' id=some gh
def azY(P:Program)(f:FuncId)(T:TypeId):Prop :=
 (∀(w:World) (b:Nat),w.cell? ⟨b,0,none⟩=some (.pointer none)->w.shape? b=some (T,2)->w.frozen? ⟨b,0,none⟩=false->Calls P f #[.pointer (some ⟨b,0,none⟩)] w fun e w'=>e = .returned (.tuple #[])/\w'=w.setCell ⟨b,0,none⟩ (.pointer (some ⟨b,0,none⟩))) /\
 ∀(w:World) (b:Nat),w.cell? ⟨b,0,none⟩=some (.pointer (some ⟨b,0,none⟩))->Calls P f #[.pointer (some ⟨b,0,none⟩)] w fun e w'=>e = .returned (.tuple #[])/\w'=w
def ays(E:Env P)(f:FuncId)(args:List (AV E))(x:AV E):Prop :=
 ∀(w:World) (ro:Nat->Nat->Prop) (vals:List Value),vals.length=args.length->(∀(i:Nat) v y,vals[i]? = some v->args[i]? = some y->aO E w ro (fun _=>none) v y)->(∀k o,ro k o->k<w.heap.size) ->
  Calls P f vals.toArray w fun e w'=>∃v,e = .returned v/\Below w.heap.size w w'/\aO E w' (fun k o=>ro k o\/(w.heap.size<=k/\k<w'.heap.size)) (fun _=>none) v x
def aJ(E:Env P)(O:aR E):Prop :=
 (∀f args res,O.call f args=some (true,res)->(rz P f)/\EU E f args res) /\
 (∀f args t l,O.fresh f args=some (true,⟨t,l⟩)->(rz P f)/\aaU E f args t l) /\
 (∀f t l rest back l',O.ao0 f t l rest=some (true,back,l')->(rz P f)/\ahZ E f t l rest back l') /\
 (∀f t,O.grow f=some t->(rz P f)/\aeH E f t)/\awX E O.inl /\
 (∀f T,O.cc=some (f,T)->(rz P f)/\azY P f T) /\
 (∀f args x,O.cl f args=some x->(rz P f)/\ays E f args x) /\
 (∀f t x args y res,O.auS f t x args=some (true,y,res)->(rz P f)/\Zh E f t x args y res) /\
 ∀f p xs res,p∈O.cla f->p.2 xs=some (true,res)->(rz P f)/\aaV E f xs res
end
section
variable {P:Program} {E:Env P} {w:World} {ro:Nat->Nat->Prop} {ι:Nat->Option Gh} {S:aI E} {asm:List (Nat×Bool)} {a:Act}
theorem ah0{t t':E.Ty}{l:List (E.Den t)}{l':List (E.Den t')}(h:IW t t' l=some l'):∃e:t=t',l'=e▸l:=by
 unfold IW at h;cases hd:E.dec t t' with
 | isFalse hn=>rw[hd]at h;cases h
 | isTrue he=>rw[hd]at h;cases h;exact⟨he,rfl⟩
theorem Nz(c:Ctx E S asm a w ι ro){o:Oper}{T T':TypeId}{s x:Operand}(ho:o.op = .call { callee:=.builtin .append,args:=#[s,x],argTypes:=#[T,T'] }){r:gK E}{Y:AV E}
  (hsrc:∀t l2,P.underlying T=some (.slice (E.tid t))->JF (E.tid t) Y=some ⟨t,l2⟩->∃news,Src P (E.size t) T' (a.eval x) l2.length news w/\ng E w ro t news l2)
  (h:Eu S.objs S.next T (bG S.tmps asm s) Y=some r) (hok:r.ok=true):bL E o a w ι ro S.next r:=by
 have hs:=c.get s;generalize hvs:a.eval s=vs at hs;generalize iy:a.eval x=vx at hsrc;generalize bG S.tmps asm s=X at *;have fin:∀{v':Value} {w':World},(Builtin.append_ #[T,T'] o.type #[vs,vx]).run P w = .ok v' w'->(execOp a.eval o).run P w = .ok (.value v') w':=by intro v' w' hr;simp only[execOp,ho,resolve,invoke,builtin,Sem.run_bind,Sem.run_pure,Result.andThen_ok,anf,afu,afM,hvs,iy,hr]
 unfold Eu at h;split at h
 ·rename_i e he;have hu:=qy he;split at h
  ·rename_i t l2 hsl;split at h
   ·rename_i ht;have ht:=abe ht;subst ht;obtain⟨news,hs2,hnd⟩:=hsrc t l2 hu hsl;split at h
    ·
     cases h;have e1:=hs.jT;subst e1;have hok':l2.length*E.bytes t<=av:=of_decide_eq_true hok;obtain⟨v',w',ι',ro',hrun,hp⟩:=X8 c t T T' o.type hu (.slice none 0 0) [] l2 [] vx news none none (.inl ⟨World.ownsRow_nil w 0 (E.tid t) (E.size t),rfl⟩) (fun i x j c h=>by simp at h) (fun g hg=>by cases hg) hs2 hnd (by rw[List.length_nil,afr];exact hok') (.inl ⟨rfl,rfl⟩);simp only[hok',decide_true];exact .inl ⟨v',w',ι',ro',fin hrun,hp⟩
    ·
     rename_i t' l1 id;cases hc:IW t t' l2 with
     | none=>rw[hc]at h;cases h
     | some X7 =>
      cases eD:look S.objs id with
      | none=>rw[hc,eD]at h;cases h
      | some ob =>
       rw[hc,eD]at h;cases ob with
       | tail live =>
        cases live with
        | false=>cases h
        | true =>
         cases h;obtain⟨ee,hl⟩:=ah0 hc;subst ee;obtain rfl:l2=X7:=hl.symm;have hok':(l1.length+l2.length)*E.bytes t<=av:=of_decide_eq_true hok;cases hs with
         | grow gh _ _ _ hi hn hge hgs hd1 =>obtain⟨bE,xs,hi',hown,iF⟩:=c.objs id _ eD rfl;rw[hi]at hi';cases hi';unfold sW at hown;rw[hn,hge,hgs]at hown;rw[hn,hgs]at iF;obtain⟨v',w',ι',ro',hrun,hp⟩:=X8 c t T T' o.type hu gh.v l1 l2 xs vx news (some (id,.dead)) gh.blk hown (agc hown hd1) (fun g hg=>iF g hg) hs2 hnd hok' (.inr ⟨id,gh,rfl,hi,rfl⟩);simp only[hok',decide_true];exact .inl ⟨v',w',ι',ro',fin hrun,hp⟩
       | _=>cases h
    ·
     rename_i t0 n0 id;split at h
     ·rename_i t' l1 eD;cases hc:IW t t' l2 with
      | none=>rw[hc]at h;cases h
      | some X7 =>
       rw[hc]at h;cases h;obtain⟨ee,hl⟩:=ah0 hc;subst ee;obtain rfl:l2=X7:=hl.symm;have hok':(l1.length+l2.length)*E.bytes t<=av:=of_decide_eq_true hok;cases hs with
       | row gh _ _ ad cap hi aGh hgs0 hgv had =>obtain⟨bE,xs,hi',hn,hge,hgs,hown,hrow,iF⟩:=c.objs id _ eD;rw[hi]at hi';cases hi';unfold sW at hown;rw[hn,hge,hgs]at hown;obtain⟨v',w',ι',hrun,hp⟩:=aaT c t T T' o.type hu gh.v l1 l2 xs vx news (some (id,.dead)) gh.blk hown hrow (fun g hg o=>iF g hg o) hs2 hnd hok' (.inr ⟨id,gh,rfl,hi,rfl⟩);simp only[hok',decide_true];exact .inl ⟨v',w',ι',ro,fin hrun,hp⟩
     ·cases h
    ·cases h
   ·cases h
  ·cases h
 ·cases h
theorem alB(c:Ctx E S asm a w ι ro){o:Oper}{T:TypeId}{s x:Operand}(ho:o.op = .call { callee:=.builtin .append,args:=#[s,x],argTypes:=#[T,T] }){r:gK E}
  (h:Eu S.objs S.next T (bG S.tmps asm s) (bG S.tmps asm x)=some r) (hok:r.ok=true):bL E o a w ι ro S.next r :=
 Nz c ho (fun _ _ hT hsl=>(F4 (c.get x) hsl).src hT) h hok
theorem ah1(c:Ctx E S asm a w ι ro){o:Oper}{T T':TypeId}{s x:Operand}(ho:o.op = .call { callee:=.builtin .append,args:=#[s,x],argTypes:=#[T,T'] }){r:gK E}
  (h:Nt S.objs S.next T T' (bG S.tmps asm s) (bG S.tmps asm x)=some r) (hok:r.ok=true):bL E o a w ι ro S.next r:=by
 have hx:=c.get x;unfold Nt at h;split at h
 ·rename_i e hT' he;split at h
  ·rename_i l hY;split at h
   ·rename_i t ht;split at h
    ·rename_i g hg;rw[hY]at hx;refine Nz c ho (fun t' l2 hT hsl=>?_) h hok;cases hsl;have hv:a.eval x = .string ⟨l.toArray⟩:=by
      generalize a.eval x=vx at hx;cases hx with
      | d _ _ hd=>cases hd;rfl
     rw[hv];exact ayr g (E.QC _ g hg) (BL hT') l
    ·cases h
   ·cases h
  ·cases h
 ·cases h
theorem wU:∀(Ts:List TypeId) (vs:List Value) (as:List (AV E)) (xs:List (TV E)),vs.length=as.length->(∀(i:Nat) v x,vs[i]? = some v->as[i]? = some x->aO E w ro ι v x)->foldArgs Ts as=some xs->gF E w ro vs xs
 | [],[],[],xs,_,_,h=>by cases h;trivial
 | T::Ts,v::vs,x::as,xs,hl,hr,h=>by
  unfold foldArgs at h;split at h
  ·rename_i t ht;split at h
   ·rename_i y hy;split at h
    ·rename_i r hr';cases h;exact⟨Ay (hr 0 v x rfl rfl) hy,wU Ts vs as r (by simpa using hl) (fun i v x hv hx=>hr (i+1) v x (by simpa using hv) (by simpa using hx)) hr'⟩
    ·cases h
   ·cases h
  ·cases h
 | [],v::vs,x::as,xs,_,_,h=>by cases h
 | T::Ts,[],[],xs,_,_,h=>by cases h
 | [],[],_::_,_,hl,_,_=>by simp at hl
 | [],_::_,[],_,hl,_,_=>by simp at hl
 | _::_,[],_::_,_,hl,_,_=>by simp at hl
 | _::_,_::_,[],_,hl,_,_=>by simp at hl
theorem gF.at_:∀(vs:List Value) (rs:List (TV E)),gF E w ro vs rs->vs.length=rs.length/\∀(i:Nat) v x,vs[i]? = some v->rs[i]? = some x->vI E w ro v x.1 x.2
 | [],[],_=>⟨rfl,fun i v x h=>by simp at h⟩
 | v::vs,r::rs,h=>by obtain⟨t,y⟩:=r;obtain⟨h1,h2⟩:=h;obtain⟨g1,g2⟩:=gF.at_ vs rs h2;grind
 | [],_::_,h=>h.elim
 | _::_,[],h=>h.elim
theorem QL{v:Value}{res:List (TV E)}(h:qz E w ro v res):aO E w ro ι v (QH res):=by
 unfold qz at h;split at h
 ·exact sj h
 ·rename_i hne;obtain⟨vs,rfl,h⟩:=h;obtain⟨h1,h2⟩:=gF.at_ vs res h;have e:QH res = .wP (res.map fun r=>iw r.1 r.2):=by
   unfold QH;grind
  rw[e];refine .wP _ _ (by simp[h1]) (fun j u x hu hx=>?_);rw[acj]at hx;cases hr:res[j]? with
  | none=>rw[hr]at hx;cases hx
  | some r =>rw[hr]at hx;cases hx;exact sj (h2 j u r (by simpa using hu) hr)
theorem sW.lt{gh:Gh}{xs:List Value}(h:sW w gh xs){g:Nat}(hg:gh.blk=some g):g<w.heap.size:=by
 rcases h with⟨h,hb⟩ | ⟨_,_,hb,_⟩
 ·exact(h.lt g (hb▸hg)).2
 ·rw[hb]at hg;cases hg
theorem Ew{o:Oper}{f:FuncId}{lJ:Operand}{as:Array Operand}{ts:Array TypeId}(ho:o.op = .call { callee:=.value lJ,args:=as,argTypes:=ts })(hfo:a.eval lJ = .func (.func f) #[] #[])
  (h:rz P f):(execOp a.eval o).run P w = .ok (.enter f (as.toList.map a.eval).toArray) w:=by
 obtain⟨fn,hfn,hname,hbody⟩:=h;have e1:(as.map a.eval)=(as.toList.map a.eval).toArray:=by apply Array.ext';simp
 simp only[execOp,ho,resolve,hfo,Deferred.ofValue,Sem.run_bind,Sem.run_pure,Result.andThen_ok,invoke,callFunc,e1]
 have hn:¬ fn.name = "runtime.NumGoroutine" := by intro e;rw[e]at hname;simp at hname
 have hb:¬ fn.body=none:=by intro e;rw[e]at hbody;simp at hbody
 simp[hfn,hn,hb,program,Sem.run]
theorem ah2{o:Oper}{f:FuncId}{lJ:Operand}{as:Array Operand}{ts:Array TypeId}{vs us:Array Value}(ho:o.op = .call { callee:=.value lJ,args:=as,argTypes:=ts })(hfo:a.eval lJ = .func (.func f) vs us)
  (h:rz P f):(execOp a.eval o).run P w = .ok (.enter f (vs.toList++(as.toList.map a.eval++us.toList)).toArray) w:=by
 obtain⟨fn,hfn,hname,hbody⟩:=h;have e1:(vs++(as.map a.eval))++us=(vs.toList++(as.toList.map a.eval++us.toList)).toArray:=by apply Array.ext';simp
 have hn:¬ fn.name = "runtime.NumGoroutine" := by intro e;rw[e]at hname;simp at hname
 have hb:¬ fn.body=none:=by intro e;rw[e]at hbody;simp at hbody
 simp only[execOp,ho,resolve,hfo,Deferred.ofValue,Sem.run_bind,Sem.run_pure,Result.andThen_ok,invoke,callFunc,e1];simp[hfn,hn,hb,program,Sem.run]
theorem gy.below(c:Ctx E S asm a w ι ro){w':World}{ro':Nat->Nat->Prop}{r:gK E}{v:Value}(hb:Below w.heap.size w w')(hu:r.upd=none)(hn:r.new=none)(h1:∀k o,ro k o->ro' k o)(h2:∀k o,ro' k o->ro k o\/w.heap.size<=k/\k<w'.heap.size)(hv:aO E w' ro' ι v r.v):gy E w w' ι ι ro ro' S.next r v where
 os:=hb.os
 tape:=hb.tape
 output:=hb.output
 size:=hb.size
 frame:=fun k hk _=>hb.block k hk
 cell:=fun k o h=>hb.cell (p:=⟨k,o,none⟩) (c.aZ k o h)
 mono:=h1
 aZ:=fun k o h=>(h2 k o h).elim (fun h=>afg (c.aZ k o h) hb.size) (·.2)
 fresh:=fun k o h=>(h2 k o h).imp_right fun h=>.inl h.1
 ni:=fun _ _=>rfl
 sZ:=fun gh k h=>by rw[c.fresh]at h;cases h
 qL:=fun _=>rfl
 upd:=fun id o h=>by rw[hu]at h;cases h
 new:=fun o h=>by rw[hn]at h;cases h
 val:=hv
theorem gy.row(c:Ctx E S asm a w ι ro){w':World}{gh:Gh}{t:E.Ty}{l:List (E.Den t)}{ys:List Value}(hb:Below w.heap.size w w')(hn:gh.n=l.length)(hge:gh.e=E.tid t)(hgs:gh.sz=E.size t)(hown:sW w' gh ys)(hrow:ng E w' ro t ys l)(hblk:∀g,gh.blk=some g->w.heap.size<=g){ok:Bool}:gy E w w' ι (mV ι S.next gh) ro ro S.next ⟨ok,.row t l.length S.next,none,some (.row t l)⟩ gh.v:=by
 obtain⟨ad,cap,hgv,had⟩:=hown.shape;exact {
  os:=hb.os
  tape:=hb.tape
  output:=hb.output
  size:=hb.size
  frame:=fun k hk _=>hb.block k hk
  cell:=fun k o h=>hb.cell (p:=⟨k,o,none⟩) (c.aZ k o h)
  mono:=fun _ _ h=>h
  aZ:=fun k o h=>afg (c.aZ k o h) hb.size
  fresh:=fun k o h=>.inl h
  ni:=fun id h=>if_neg h
  sZ:=fun bE k h hk=>by simp[mV]at h;subst h;exact⟨hown.lt hk,.inl (hblk k hk)⟩
  qL:=fun h=>by cases h
  upd:=fun id o h=>by cases h
  new:=fun o h=>by cases h;exact⟨gh,ys,if_pos rfl,hn,hge,hgs,hown,hrow,fun g hg o hr=>by have:=c.aZ g o hr;have:=hblk g hg;omega⟩
  val:=by rw[<- hn];exact .row gh t S.next ad cap (if_pos rfl) hge hgs hgv had }
theorem arX(c:Ctx E S asm a w ι ro){O:aR E}(hO:aJ E O){o:Oper}{f:FuncId}{lJ:Operand}{as:Array Operand}{ts:Array TypeId}(ho:o.op = .call { callee:=.value lJ,args:=as,argTypes:=ts })(hfo:a.eval lJ = .func (.func f) #[] #[])
  {r:gK E} (h:aaL O S.next f ts.toList (bW S.tmps asm as)=some r) (hok:r.ok=true):bL E o a w ι ro S.next r:=by
 have args:∀xs,foldArgs ts.toList (bW S.tmps asm as)=some xs->gF E w ro (as.toList.map a.eval) xs:=fun xs hxs =>
  wU (ι:=ι) ts.toList _ _ xs (by simp[bW]) (fun i v x hv hx=>by
    unfold bW at hx;rw[acj]at hv hx;cases hi:as.toList[i]? with
    | none=>rw[hi]at hv;cases hv
    | some y =>rw[hi]at hv hx;cases hv;cases hx;exact c.get y) hxs
 have enter:=Ew (a:=a) (w:=w) (P:=P) ho hfo;unfold aaL at h;split at h
 ·rename_i xs hxs;cases hfr:O.Le f with
  | true =>
   rw[hfr]at h;simp only[cond_true]at h;split at h
   ·rename_i ok t l hres;cases h;have hok:ok=true:=hok;subst hok;obtain⟨hfn,lQ⟩:=hO.2.1 f xs t l hres;refine .inr (.inr ⟨f,_,enter hfn,(lQ w ro _ (args xs hxs) c.aZ).mono fun e w' he=>?_⟩);obtain⟨gh,ys,rfl,hb,hn,hge,hgs,hown,hrow,hblk⟩:=he;exact⟨gh.v,mV ι S.next gh,ro,rfl,.row c hb hn hge hgs hown (hrow) hblk⟩
   ·cases h
  | false =>
   rw[hfr]at h;simp only[cond_false]at h;split at h
   ·rename_i ok res hres;cases h;have hok:ok=true:=hok;subst hok;obtain⟨hfn,lQ⟩:=hO.1 f xs res hres;refine .inr (.inr ⟨f,_,enter hfn,(lQ w ro _ (args xs hxs) c.aZ).mono fun e w' he=>?_⟩);obtain⟨v,rfl,hb,hr⟩:=he;refine⟨v,ι,_,rfl,.below c hb rfl rfl (fun _ _ h=>.inl h) (fun _ _ h=>h) (QL hr)⟩
   ·cases h
 ·cases h
theorem apf(_:Ctx E S asm a w ι ro){O:aR E}(_:aJ E O){o:Oper}{f:FuncId}{lJ:Operand}{as:Array Operand}{ts:Array TypeId}(_:o.op = .call { callee:=.value lJ,args:=as,argTypes:=ts })(_:a.eval lJ = .func (.func f) #[] #[])
  {r:gK E} (h:WZ O f (bW S.tmps asm as)=some r) (_:r.ok=true):bL E o a w ι ro S.next r:=by
 unfold WZ at h;cases h
theorem apg(_:Ctx E S asm a w ι ro){O:aR E}(_:aJ E O){o:Oper}{f:FuncId}{lJ:Operand}{as:Array Operand}{ts:Array TypeId}(_:o.op = .call { callee:=.value lJ,args:=as,argTypes:=ts })(_:a.eval lJ = .func (.func f) #[] #[])
  {r:gK E} (h:WV O S.objs f ts.toList (bW S.tmps asm as)=some r) (_:r.ok=true):bL E o a w ι ro S.next r:=by
 unfold WV at h;cases h
theorem Uu{w':World}{ro':Nat->Nat->Prop}{v:Value}{c:bQ E.Den}(h:ag4 c=true)(hr:dU E w ro v c):dU E w' ro' v c:=by cases hr<;>first | exact .bool _ | exact .int _ _ | exact .str _ | cases h
theorem aeI{w':World}{ro':Nat->Nat->Prop}{v:Value}{t:E.Ty}{x:E.Den t}(h:(E.cells t x).all ag4=true)(hr:vI E w ro v t x):vI E w' ro' v t x:=by
 rw[afE]at h;rcases hr with⟨ha,vs,hv,hrow⟩ | ⟨ha,c,hc,hd⟩
 ·exact .inl ⟨ha,vs,hv,hrow.1,fun j u c hu hc=>Uu (h c (afD hc)) (hrow.2 j u c hu hc)⟩
 ·exact .inr ⟨ha,c,hc,Uu (h c (by rw[hc];exact abI)) hd⟩
theorem aeJ{w':World}{ro':Nat->Nat->Prop}:∀{vs:List Value} {rs:List (TV E)},WW rs=true->gF E w ro vs rs->gF E w' ro' vs rs
 | [],[],_,_=>trivial
 | v::vs,⟨t,x⟩::r,h,hr=>by simp only[WW,abK]at h;exact⟨aeI h.1 hr.1,aeJ h.2 hr.2⟩
 | [],_::_,_,h=>h.elim
 | _::_,[],_,h=>h.elim
theorem au1{w':World}{ro':Nat->Nat->Prop}{v:Value}{rs:List (TV E)}(h:WW rs=true)(hr:qz E w ro v rs):qz E w' ro' v rs:=by
 unfold qz at hr ⊢;split at hr
 ·simp only[WW,abK]at h;exact aeI h.1 hr
 ·obtain⟨vs,hv,ha⟩:=hr;exact⟨vs,hv,aeJ h ha⟩
def Xe(E:Env P)(objs:List (Nat×aU E))(ι:Nat->Option Gh)(ro:Nat->Nat->Prop):Nat->Nat->Prop:=fun k o=>ro k o\/∃id t l gh,look objs id=some (.row t l)/\ι id=some gh/\gh.blk=some k
theorem aeK(c:Ctx E S asm a w ι ro){v:Value}{x:AV E}(h:aO E w ro ι v x):aO E w (Xe E S.objs ι ro) ι v (ao1 S.objs x):=by
 have hro:∀k o,ro k o->Xe E S.objs ι ro k o:=fun _ _ h=>.inl h
 have hm:=h.mono (ro':=Xe E S.objs ι ro) hro (fun _ _ _=>rfl) (fun _ _ h=>h);cases h with
 | row gh t id ad cap hi h2 h3 h4 h5 =>
  show aO E w _ ι gh.v (match look S.objs id with | some (.row t' l)=>.d (.slice t' l) | _=>.row t gh.n id);split
  ·rename_i t' l eD;obtain⟨bE,ys,hi',hn,hge,hgs,hown,hrow,iF⟩:=c.objs id _ eD;rw[hi]at hi';cases hi';refine .d _ _ (Ke (xs:=ys) (b:=gh.blk) ?_ (fun g o hg _=>.inr ⟨id,t',l,gh,eD,hi,hg⟩) (hrow.mono hro (fun _ _ _=>rfl)));rcases hown with⟨h,hb⟩ | ⟨h0,h1,h2,h3⟩
   ·grind
   grind
  ·exact hm
 | _=>exact hm
theorem aph(c:Ctx E S asm a w ι ro){v:Value}{x:AV E}(h:aO E w ro ι v x):aO E w (Xe E S.objs ι ro) ι v (arL S.objs x):=by
 have h1:=aeK c h;cases h with
 | agg vs cs hs hi =>
  refine .agg vs _ (by simp[hs]) fun j v y hv hy=>?_
  rw[acj]at hy;cases hx:cs[j]? with
  | none=>rw[hx]at hy;cases hy
  | some z=>rw[hx]at hy;cases hy;exact aeK c (hi j v z hv hx)
 | _=>exact h1
theorem apj(c:Ctx E S asm a w ι ro){O:aR E}(hO:aJ E O){o:Oper}{f:FuncId}{lJ:Operand}{as:Array Operand}{ts:Array TypeId}(ho:o.op = .call { callee:=.value lJ,args:=as,argTypes:=ts })(hfo:a.eval lJ = .func (.func f) #[] #[])
  {r:gK E} (h:WX O S.objs f ts.toList (bW S.tmps asm as)=some r) (hok:r.ok=true):bL E o a w ι ro S.next r:=by
 unfold WX at h;split at h
 ·split at h
  ·rename_i xs hxs;split at h
   ·rename_i ok res hres;split at h
    ·rename_i hfl;cases h;have hok:ok=true:=hok;subst hok;have kR:∀k o,Xe E S.objs ι ro k o->k<w.heap.size:=by
      rintro k o (h | ⟨id,t,l,gh,h1,h2,h3⟩)
      ·exact c.aZ k o h
      ·obtain⟨bE,ys,hi',hn,hge,hgs,hown,hrow,iF⟩:=c.objs id _ h1;rw[h2]at hi';cases hi';exact hown.lt h3
     have args:gF E w (Xe E S.objs ι ro) (as.toList.map a.eval) xs :=
      wU (ι:=ι) ts.toList _ _ xs (by simp[bW]) (fun i v x hv hx=>by
       rw[acj]at hx;unfold bW at hx;rw[acj]at hv hx;cases hi':as.toList[i]? with
       | none=>rw[hi']at hv;cases hv
       | some y =>rw[hi']at hv hx;cases hv;cases hx;exact aph c (c.get y)) hxs
     obtain⟨hfn,lQ⟩:=hO.1 f xs res hres;have enter:=Ew (a:=a) (w:=w) (P:=P) ho hfo hfn;refine .inr (.inr ⟨f,_,enter,(lQ w _ _ args kR).mono fun e w' he=>?_⟩);obtain⟨v,rfl,hb,hr⟩:=he;refine⟨v,ι,ro,rfl,.below c hb rfl rfl (fun _ _ h=>h) (fun _ _ h=>.inl h) (QL (au1 hfl hr))⟩
    ·cases h
   ·cases h
  ·cases h
 ·cases h
theorem acV:∀{cs:List (AV E)} {ds:List (bQ E.Den)},ahR cs=some ds->cs=ds.map Et.d
 | [],ds,h=>by cases h;rfl
 | v::r,ds,h=>by
  unfold ahR at h;split at h
  ·rename_i heq;cases heq
  ·rename_i c r' heq;cases heq;split at h
   ·rename_i l hl;cases h;rw[acV hl];rfl
   ·cases h
  ·cases h
def apk(E:Env P)(objs:List (Nat×aU E))(ι:Nat->Option Gh)(ro:Nat->Nat->Prop):Nat->Nat->Prop:=fun k o=>ro k o\/∃id cs gh,look objs id=some (.box cs)/\ι id=some gh/\gh.blk=some k
theorem JG(c:Ctx E S asm a w ι ro):∀{args xs:List (AV E)} {vals:List Value},QI S.objs args=some xs->vals.length=args.length->(∀(i:Nat) v x,vals[i]? = some v->args[i]? = some x->aO E w ro ι v x) ->
  vals.length=xs.length/\∀(i:Nat) v x,vals[i]? = some v->xs[i]? = some x->aO E w (apk E S.objs ι ro) (fun _=>none) v x
 | [],xs,vals,h,hl,_=>by cases h;exact⟨hl,fun i v x _ hx=>by simp at hx⟩
 | y::r,xs,vals,h,hl,hr=>by
  match vals,hl with
  | u::us,hl =>
   have hu:=hr 0 u y rfl rfl;have X9:=fun i v x (hv:us[i]? = some v) (hx:r[i]? = some x)=>hr (i+1) v x (by simpa using hv) (by simpa using hx)
   have hl':us.length=r.length:=by simpa using hl
   unfold QI at h;split at h
   ·rename_i heq;cases heq
   ·rename_i id off r' heq;cases heq;split at h
    ·rename_i cs eD;split at h
     ·rename_i ds hds;split at h
      ·rename_i l hl2;cases h;obtain⟨q1,q2⟩:=JG c hl2 hl' X9;refine⟨by simpa using q1,fun i v x hv hx=>?_⟩;cases i with
       | succ i=>exact q2 i v x (by simpa using hv) (by simpa using hx)
       | zero =>
        simp only[aiB,Option.some.injEq]at hv hx;subst hv;subst hx;obtain⟨gh,g,vs,e,hi,hgv,hblk,hh,hsz,hcell,iF,_⟩:=c.objs id _ eD;cases hu with
        | ptr bE g' id' off' hi' FY =>
         rw[hi]at hi';cases hi';rw[hgv]at FY;cases FY;have hcs:=acV hds;refine .lN g off (fun j=>vs.getD (off+j) undef) (ds.drop off) (fun j c' hj=>?_) (fun j c' hj=>?_)
         ·rw[afs]at hj;have hlt:off+j<vs.size:=by rw[hsz,hcs,List.length_map];exact(List.getElem?_eq_some_iff.1 hj).1
          refine⟨.inr ⟨id,cs,gh,eD,hi,hblk⟩,?_⟩;simp[World.cell?,hh,Array.getD,hlt]
         ·rw[afs]at hj;have hlt:off+j<vs.size:=by rw[hsz,hcs,List.length_map];exact(List.getElem?_eq_some_iff.1 hj).1
          have h1:vs[off+j]? = some (vs.getD (off+j) undef):=by simp[Array.getD,hlt]
          have h2:cs[off+j]? = some (.d c'):=by rw[hcs,acj,hj];rfl
          have:=(hcell _ _ _ h1 h2).2;generalize vs.getD (off+j) undef=vq at this ⊢;cases this with
          | d _ _ hd=>exact hd.mono (fun _ _ h=>.inl h) (fun _ _ _=>rfl)
      ·cases h
     ·cases h
    ·cases h
   ·rename_i c' r' heq;cases heq;split at h
    ·rename_i l hl2;cases h;obtain⟨q1,q2⟩:=JG c hl2 hl' X9;refine⟨by simpa using q1,fun i v x hv hx=>?_⟩;cases i with
     | succ i=>exact q2 i v x (by simpa using hv) (by simpa using hx)
     | zero =>
      simp only[aiB,Option.some.injEq]at hv hx;subst hv;subst hx;cases hu with
      | d _ _ hd=>exact .d _ _ (hd.mono (fun _ _ h=>.inl h) (fun _ _ _=>rfl))
    ·cases h
   ·rename_i t' x' r' heq;cases heq;split at h
    ·rename_i l hl2;cases h;obtain⟨q1,q2⟩:=JG c hl2 hl' X9;refine⟨by simpa using q1,fun i v x hv hx=>?_⟩;cases i with
     | succ i=>exact q2 i v x (by simpa using hv) (by simpa using hx)
     | zero =>
      simp only[aiB,Option.some.injEq]at hv hx;subst hv;subst hx;cases hu with
      | st vs _ _ ha hrow=>exact .st vs _ _ ha (hrow.mono (fun _ _ h=>.inl h) (fun _ _ _=>rfl))
    ·cases h
   ·rename_i cs r' heq;cases heq;split at h
    ·rename_i ds l hds hl2;cases h;obtain⟨q1,q2⟩:=JG c hl2 hl' X9;refine⟨by simpa using q1,fun i v x hv hx=>?_⟩;cases i with
     | succ i=>exact q2 i v x (by simpa using hv) (by simpa using hx)
     | zero =>
      simp only[aiB,Option.some.injEq]at hv hx;subst hv;subst hx;cases hu with
      | agg vs _ h1 h2 =>
       refine .agg vs _ h1 fun j v c' hv hj=>?_
       have:=h2 j v c' hv hj;rw[acV hds,acj]at hj;cases hdj:ds[j]? with
       | none=>rw[hdj]at hj;cases hj
       | some q =>
        rw[hdj]at hj;cases hj;cases this with
        | d _ _ hd=>exact .d _ _ (hd.mono (fun _ _ h=>.inl h) (fun _ _ _=>rfl))
    ·cases h
   ·cases h
theorem apl(c:Ctx E S asm a w ι ro){O:aR E}(hO:aJ E O){o:Oper}{f:FuncId}{lJ:Operand}{as:Array Operand}{ts:Array TypeId}(ho:o.op = .call { callee:=.value lJ,args:=as,argTypes:=ts })(hfo:a.eval lJ = .func (.func f) #[] #[])
  {r:gK E} (h:WY O S.objs f (bW S.tmps asm as)=some r) (hok:r.ok=true):bL E o a w ι ro S.next r:=by
 unfold WY at h;split at h
 ·split at h
  ·rename_i xs hxs
   replace h:O.inl.run f xs [] 0 ag5=some r:=by grind
   have kR:∀k o,apk E S.objs ι ro k o->k<w.heap.size:=by
    rintro k o (h | ⟨id,cs,gh,h1,h2,h3⟩)
    ·exact c.aZ k o h
    ·obtain⟨bE,g,vs,e,hi',_,hblk,hh,_⟩:=c.objs id _ h1;grind
   obtain⟨hl,hargs⟩:=JG c (vals:=as.toList.map a.eval) hxs (by simp[bW]) (fun i v x hv hx=>by
    unfold bW at hx;rw[acj]at hv hx;cases hi':as.toList[i]? with
    | none=>rw[hi']at hv;cases hv
    | some y =>rw[hi']at hv hx;cases hv;cases hx;exact c.get y)
   obtain⟨hfn,lQ⟩:=hO.2.2.2.2.1 f xs [] 0 ag5 r h;have enter:=Ew (a:=a) (w:=w) (P:=P) ho hfo hfn;have hb0:Base ⟨w,none,none,[],fun _=>none⟩ (apk E S.objs ι ro) { tmps:=#[],defers:=[] } w (fun _=>none) (apk E S.objs ι ro) :=
    ⟨⟨rfl,rfl,rfl,ab8 _,fun _ _ _=>rfl⟩,kR,(fun _ _ h=>.inl h),(fun _ _ _ h=>by cases h),rfl,(fun _ h=>by cases h),(fun _ _ h=>by cases h)⟩
   refine .inr (.inr ⟨f,_,enter,(lQ ⟨w,none,none,[],fun _=>none⟩ _ _ w (fun _=>none) _ _ hb0 (fun id o h=>by cases h) (fun id id' o o' gh bE k (h:look [] id=some o)=>by cases h) (fun _ _=>rfl) (fun id o h=>by cases h) hl hargs).mono fun e w' he=>?_⟩);obtain⟨v,x,nH,next',ι',ro',rfl,hk,hrep,hb,_,_,_,_,hcell,_⟩:=he;unfold ag5 at hk;split at hk
   ·rename_i d;split at hk
    ·rename_i hfl;cases hk;have hbl:=hb.below;refine⟨v,ι,ro,rfl, {
      os:=hbl.os
      tape:=hbl.tape
      output:=hbl.output
      size:=hbl.size
      frame:=fun k hk _=>hbl.block k hk (fun e=>by cases e)
      cell:=fun k o h=>(hcell k o (.inl h)).2
      mono:=fun _ _ h=>h
      aZ:=fun k o h=>afg (c.aZ k o h) hbl.size
      fresh:=fun k o h=>.inl h
      ni:=fun id h=>rfl
      sZ:=fun bE k h hk=>by rw[c.fresh]at h;cases h
      qL:=fun h=>rfl
      upd:=fun id o h=>by cases h
      new:=fun o h=>by cases h
      val:=by
       cases hrep with
       | d _ _ hd=>exact .d _ _ (Uu hfl hd) }⟩
    ·cases hk
   ·cases hk
  ·cases h
 ·cases h
theorem Xf{vs us:List Value}{p q:List (AV E)}(hl:vs.length=p.length)(h1:∀(j:Nat) v c,vs[j]? = some v->p[j]? = some c->aO E w ro ι v c)(h2:∀(j:Nat) v c,us[j]? = some v->q[j]? = some c->aO E w ro ι v c) :
  ∀(j:Nat) v c,(vs++us)[j]? = some v->(p++q)[j]? = some c->aO E w ro ι v c:=by
 grind
theorem args_at(c:Ctx E S asm a w ι ro)(as:Array Operand):∀(i:Nat) v x,(as.toList.map a.eval)[i]? = some v->(bW S.tmps asm as)[i]? = some x->aO E w ro ι v x:=fun i v x hv hx=>by
 unfold bW at hx;rw[acj]at hv hx;cases hi':as.toList[i]? with
 | none=>rw[hi']at hv;cases hv
 | some y =>rw[hi']at hv hx;cases hv;cases hx;exact c.get y
theorem QM:∀(ts:List E.Ty) (vs:List Value) (as:List (AV E)) (xs:List (TV E)),vs.length=as.length->(∀(i:Nat) v x,vs[i]? = some v->as[i]? = some x->aO E w ro ι v x)->Uk ts as=some xs->gF E w ro vs xs
 | [],[],[],xs,_,_,h=>by cases h;trivial
 | t::ts,v::vs,x::as,xs,hl,hr,h=>by
  unfold Uk at h;split at h
  ·rename_i y hy;split at h
   ·rename_i r hr';cases h;exact⟨Ay (hr 0 v x rfl rfl) hy,QM ts vs as r (by simpa using hl) (fun i v x hv hx=>hr (i+1) v x (by simpa using hv) (by simpa using hx)) hr'⟩
   ·cases h
  ·cases h
 | [],v::vs,x::as,xs,_,_,h=>by cases h
 | t::ts,[],[],xs,_,_,h=>by cases h
 | [],[],_::_,_,hl,_,_=>by simp at hl
 | [],_::_,[],_,hl,_,_=>by simp at hl
 | _::_,[],_::_,_,hl,_,_=>by simp at hl
 | _::_,_::_,[],_,hl,_,_=>by simp at hl
theorem au2{s:Aa E}{v:Value}{x:AV E}{y:Arg E}(h:aO E w ro ι v x)(hs:auT s x=some y):ape E w ro v y:=by
 unfold auT at hs;split at hs
 ·split at hs
  ·rename_i z hz;cases hs;exact Ay h hz
  ·cases hs
 ·rename_i f ps qs f' a b;split at hs
  ·rename_i p q hf hp hq;cases hs;have hf:=abe hf;subst hf;cases h with
   | fn _ vs us _ _ h1 h2 h3 h4=>exact⟨vs,us,rfl,QM ps vs.toList a p (by simpa using h1) (fun i v x hv hx=>h3 i v x (by simpa using hv) hx) hp,QM qs us.toList b q (by simpa using h2) (fun i v x hv hx=>h4 i v x (by simpa using hv) hx) hq⟩
  ·cases hs
 ·rename_i f f';split at hs
  ·rename_i hf;cases hs;have hf:=abe hf;subst hf;exact⟨#[], #[],h.jT,trivial,trivial⟩
  ·cases hs
 ·cases hs
theorem aeL:∀{ss:List (Aa E)} {as:List (AV E)} {xs:List (Arg E)},WT ss as=some xs->as.length=xs.length/\∀(i:Nat) v x y,as[i]? = some x->xs[i]? = some y->aO E w ro ι v x->ape E w ro v y
 | [],[],xs,h=>by cases h;exact⟨rfl,fun i v x y hx=>by simp at hx⟩
 | s::ss,x::as,xs,h=>by
  unfold WT at h;split at h
  ·rename_i y hy;split at h
   ·rename_i r hr;cases h;obtain⟨h1,h2⟩:=aeL hr;refine⟨by simp[h1],fun i v x' y' hx hy' hrep=>?_⟩;cases i with
    | zero=>simp at hx hy';subst hx;subst hy';exact au2 hrep hy
    | succ i=>grind
   ·cases h
  ·cases h
 | [],_::_,_,h=>by cases h
 | _::_,[],_,h=>by cases h
theorem Zi{as:List (AV E)}{r:gK E}:∀{l:List (List (Aa E)×(List (Arg E)->Option (Bool×List (TV E))))},Y7 as l=some r->∃p∈l, ∃xs ok res,WT p.1 as=some xs/\p.2 xs=some (ok,res)/\r=⟨ok,QH res,none,none⟩
 | [],h=>by cases h
 | p::l,h=>by
  unfold Y7 at h;have next:Y7 as l=some r->∃p'∈p::l, ∃xs ok res,WT p'.1 as=some xs/\p'.2 xs=some (ok,res)/\r=⟨ok,QH res,none,none⟩:=fun h=>by obtain⟨p',hp,q⟩:=Zi h;exact⟨p',abD _ hp,q⟩
  grind
theorem aeM{as:List (AV E)}{r:gK E}{l:List (List (Aa E)×(List (Arg E)->Option (Bool×List (TV E))))}(h:Y7 as l=some r):r.upd=none/\r.new=none:=by obtain⟨_,_,_,_,_,_,_,rfl⟩:=Zi h;exact⟨rfl,rfl⟩
theorem aaW(c:Ctx E S asm a w ι ro){O:aR E}(hO:aJ E O){o:Oper}{f:FuncId}{vals:List Value}{avs:List (AV E)}(hl:vals.length=avs.length)(hr:∀(i:Nat) v x,vals[i]? = some v->avs[i]? = some x->aO E w ro ι v x)
  (enter:(rz P f)->(execOp a.eval o).run P w = .ok (.enter f vals.toArray) w) {r:gK E} (h:acT O f avs=some r) (hok:r.ok=true):bL E o a w ι ro S.next r:=by
 obtain⟨p,hp,xs,ok,res,hxs,hres,rfl⟩:=Zi h;have hok:ok=true:=hok;subst hok;obtain⟨hfn,lQ⟩:=hO.2.2.2.2.2.2.2.2 f p xs res hp hres;obtain⟨q1,q2⟩:=aeL (w:=w) (ro:=ro) (ι:=ι) hxs;refine .inr (.inr ⟨f,_,enter hfn,(lQ w ro vals (hl.trans q1) (fun i v y hv hy=>?_) c.aZ).mono fun e w' he=>?_⟩)
 ·have hi:i<avs.length:=by rw[q1];exact(List.getElem?_eq_some_iff.1 hy).1
  exact q2 i v _ y (aaO hi) hy (hr i v _ hv (aaO hi))
 ·obtain⟨v,rfl,hb,hr⟩:=he;have hcell:∀k o,ro k o->w'.cell? ⟨k,o,none⟩=w.cell? ⟨k,o,none⟩:=fun k o h=>hb.cell (p:=⟨k,o,none⟩) (c.aZ k o h)
  exact⟨v,ι,_,rfl,.below c hb rfl rfl (fun _ _ h=>.inl h) (fun _ _ h=>h) (QL hr)⟩
theorem toDs_rep{vs:Array Value}:∀{cs:List (AV E)} {ds:List (bQ E.Den)},toDs cs=some ds->cs.length=ds.length/\∀(j:Nat) c d,cs[j]? = some c->ds[j]? = some d->toD c=some d
 | [],ds,h=>by cases h;exact⟨rfl,fun j c d hc=>by simp at hc⟩
 | c::cs,ds,h=>by
  unfold toDs at h;split at h
  ·rename_i d h1;split at h
   ·rename_i ds' h2;cases h;obtain⟨hl,hat⟩:=toDs_rep (vs:=vs) h2;grind
   ·cases h
  ·cases h
theorem apm(c:Ctx E S asm a w ι ro){O:aR E}(hO:aJ E O){o:Oper}{f:FuncId}{lJ:Operand}{as:Array Operand}{ts:Array TypeId}(ho:o.op = .call { callee:=.value lJ,args:=as,argTypes:=ts })(hfo:a.eval lJ = .func (.func f) #[] #[])
  {r:gK E} (h:WU O S.objs f ts.toList (bW S.tmps asm as)=some r) (hok:r.ok=true):bL E o a w ι ro S.next r:=by
 have hargs:∀(i:Nat) v x,(as.toList.map a.eval)[i]? = some v->(bW S.tmps asm as)[i]? = some x->aO E w ro ι v x:=fun i v x hv hx=>by
  unfold bW at hx;rw[acj]at hv hx;cases hi':as.toList[i]? with
  | none=>rw[hi']at hv;cases hv
  | some y =>rw[hi']at hv hx;cases hv;cases hx;exact c.get y
 have hlen:(as.toList.map a.eval).length=(bW S.tmps asm as).length:=by simp[bW]
 have enter:=Ew (a:=a) (w:=w) (P:=P) ho hfo;generalize as.toList.map a.eval=vals at hargs hlen enter;generalize bW S.tmps asm as=avs at h hargs hlen;unfold WU at h;split at h
 ·cases h
 ·rename_i t hbt;split at h
  ·rename_i T Ts id rest hts;cases vals with
   | nil=>simp at hlen
   | cons v vals =>
    have hr0:=hargs 0 v _ rfl rfl;have hrest:∀(i:Nat) u x,vals[i]? = some u->rest[i]? = some x->aO E w ro ι u x:=fun i u x hu hx=>hargs (i+1) u x (by simpa using hu) (by simpa using hx)
    have hlen':vals.length=rest.length:=by simpa using hlen
    split at h
    ·rename_i cs eD;split at h
     ·rename_i x hx;split at h
      ·rename_i xs hxs;split at h
       ·rename_i ok y res hbf;cases h;have hok:ok=true:=hok;subst hok;have args:=wU (ι:=ι) Ts vals rest xs hlen' hrest hxs;obtain⟨gh,g,vs,e,hi,hgv,hblk,hh,hsz,hcell,iF,hge⟩:=c.objs id _ eD;have hv:v = .pointer (some ⟨g,0,none⟩):=by
         cases hr0 with
         | ptr bE g' _ _ h1 h2=>grind
        subst hv;have hrow:oZ E w ro vs (E.cells t x):=by
         unfold ag3 at hx;split at hx
         ·rename_i ds hds;obtain⟨hl,hat⟩:=toDs_rep (vs:=vs) hds;refine oZ.le (E.wQ t ds x hx) ⟨by rw[hsz,hl],fun j u d hu hd=>?_⟩;have hj:j<cs.length:=by rw[hl];exact(List.getElem?_eq_some_iff.1 hd).1
          exact toD_rep (hcell j u _ hu (aaO hj)).2 (hat j _ d (aaO hj) hd)
         ·cases hx
        obtain⟨hfn,lQ⟩:=hO.2.2.2.2.2.2.2.1 f t x xs y res hbf;have acW:g<w.heap.size:=by grind
        refine .inr (.inr ⟨f,_,enter hfn,(lQ w ro g e vs vals hh hrow iF args c.aZ).mono fun ed w' he=>?_⟩);obtain⟨v,vs',rfl,hgrow,hh',hrow',hret⟩:=he;have azZ:∀k o,ro k o->w'.cell? ⟨k,o,none⟩=w.cell? ⟨k,o,none⟩:=fun k o h=>World.cell?_of_block (hgrow.block k (c.aZ k o h) (fun e=>by cases e;exact iF o h))
        exact⟨v,ι,fun k o=>ro k o\/(w.heap.size<=k/\k<w'.heap.size),rfl, {
         os:=hgrow.os
         tape:=hgrow.tape
         output:=hgrow.output
         size:=hgrow.size
         frame:=fun k hk hne=>hgrow.block k hk (fun e=>by cases e;exact hne id _ gh rfl hi hblk)
         cell:=azZ
         mono:=fun _ _ h=>.inl h
         aZ:=fun k o h=>by
          rcases h with h | h
          ·exact afg (c.aZ k o h) hgrow.size
          ·exact h.2
         fresh:=fun k o h=>by grind
         ni:=fun _ _=>rfl
         sZ:=fun au3 k h _=>by rw[c.fresh]at h;cases h
         qL:=fun _=>rfl
         upd:=fun id' o h=>by
          cases h;refine⟨gh,g,vs',e,hi,hgv,hblk,hh',by rw[hrow'.1,List.length_map],fun j u q hu hq=>?_,fun o h=>?_,hge⟩
          ·rw[acj]at hq;cases hj:(E.cells t y)[j]? with
           | none=>rw[hj]at hq;cases hq
           | some d =>rw[hj]at hq;cases hq;have:=hrow'.2 j u d hu hj;exact⟨this.one,.d _ _ this⟩
          grind
         new:=fun o h=>by cases h
         val:=QL hret }⟩
       ·cases h
      ·cases h
     ·cases h
    ·cases h
  ·cases h
theorem apn(_:Ctx E S asm a w ι ro){O:aR E}(_:aJ E O){o:Oper}{f:FuncId}{lJ:Operand}{as:Array Operand}{ts:Array TypeId}(_:o.op = .call { callee:=.value lJ,args:=as,argTypes:=ts })(_:a.eval lJ = .func (.func f) #[] #[])
  {r:gK E} (h:WS O S.objs f (bW S.tmps asm as)=some r) (_:r.ok=true):bL E o a w ι ro S.next r:=by
 unfold WS at h;cases h
theorem apo(c:Ctx E S asm a w ι ro){O:aR E}(hO:aJ E O){o:Oper}{f:FuncId}{lJ:Operand}{as:Array Operand}{ts:Array TypeId}(ho:o.op = .call { callee:=.value lJ,args:=as,argTypes:=ts })(hfo:a.eval lJ = .func (.func f) #[] #[])
  {r:gK E} (h:W9 O S.next f (bW S.tmps asm as)=some r) (hok:r.ok=true):bL E o a w ι ro S.next r:=by
 have hargs:∀(i:Nat) v x,(as.toList.map a.eval)[i]? = some v->(bW S.tmps asm as)[i]? = some x->aO E w ro ι v x:=fun i v x hv hx=>by
  unfold bW at hx;rw[acj]at hv hx;cases hi':as.toList[i]? with
  | none=>rw[hi']at hv;cases hv
  | some y =>rw[hi']at hv hx;cases hv;cases hx;exact c.get y
 have hlen:(as.toList.map a.eval).length=(bW S.tmps asm as).length:=by simp[bW]
 have enter:=Ew (a:=a) (w:=w) (P:=P) ho hfo;generalize as.toList.map a.eval=vals at hargs hlen enter;generalize bW S.tmps asm as=avs at h hargs hlen;unfold W9 at h;split at h
 ·rename_i t n hg;cases h
  match vals,hlen with
  | [u,v],_ =>
  have e1:=(hargs 0 u _ rfl rfl).jT;have e2:=(hargs 1 v _ rfl rfl).sJ;subst e1;subst e2;have hok:(decide (0<=n)&&decide (n*(E.bytes t:Int)<=140737488355328))=true:=hok;simp only[abK,ab6]at hok;obtain⟨hfn,lQ⟩:=hO.2.2.2.1 f t hg;refine .inr (.inr ⟨f,_,enter hfn,(lQ w n hok.1 hok.2).mono fun e w' he=>?_⟩);obtain⟨gh,rfl,hb,hn,hge,hgs,hown,hblk⟩:=he;exact⟨gh.v,mV ι S.next gh,ro,rfl,.row (t:=t) (l:=[]) c hb hn hge hgs hown (fun i x j cc h=>by simp at h) hblk⟩
 ·cases h
theorem apq(c:Ctx E S asm a w ι ro){O:aR E}(hO:aJ E O){o:Oper}{f:FuncId}{lJ:Operand}{as:Array Operand}{ts:Array TypeId}(ho:o.op = .call { callee:=.value lJ,args:=as,argTypes:=ts })(hfo:a.eval lJ = .func (.func f) #[] #[])
  {r:gK E} (h:Xa O S.objs S.next f ts.toList (bW S.tmps asm as)=some r) (hok:r.ok=true):bL E o a w ι ro S.next r:=by
 have hargs:∀(i:Nat) v x,(as.toList.map a.eval)[i]? = some v->(bW S.tmps asm as)[i]? = some x->aO E w ro ι v x:=fun i v x hv hx=>by
  unfold bW at hx;rw[acj]at hv hx;cases hi':as.toList[i]? with
  | none=>rw[hi']at hv;cases hv
  | some y =>rw[hi']at hv hx;cases hv;cases hx;exact c.get y
 have hlen:(as.toList.map a.eval).length=(bW S.tmps asm as).length:=by simp[bW]
 have enter:=Ew (a:=a) (w:=w) (P:=P) ho hfo;generalize as.toList.map a.eval=vals at hargs hlen enter;generalize bW S.tmps asm as=avs at h hargs hlen;unfold Xa at h;split at h
 ·rename_i T Ts t0 n0 id rest hts;cases vals with
  | nil=>simp at hlen
  | cons v vals =>
   have hr0:=hargs 0 v _ rfl rfl;have hrest:∀(i:Nat) u x,vals[i]? = some u->rest[i]? = some x->aO E w ro ι u x:=fun i u x hu hx=>hargs (i+1) u x (by simpa using hu) (by simpa using hx)
   have hlen':vals.length=rest.length:=by simpa using hlen
   split at h
   ·rename_i t l eD;split at h
    ·rename_i xs hxs;have args:=wU (ι:=ι) Ts vals rest xs hlen' hrest hxs;obtain⟨gh,ys,hi,hn,hge,hgs,hown,hrow,iF⟩:=c.objs id _ eD;have hv:v=gh.v:=by
      cases hr0 with
      | row bE _ _ ad cap h1 h2 h3 h4 h5=>rw[h1]at hi;cases hi;rfl
     subst hv;split at h
     ·rename_i ok l' hres;cases h;have hok:ok=true:=hok;subst hok;obtain⟨hfn,lQ⟩:=hO.2.2.1 f t l xs true l' hres;refine .inr (.inr ⟨f,_,enter hfn,(lQ w ro gh ys vals hn hge hgs hown hrow iF args c.aZ).mono fun e w' he=>?_⟩);obtain⟨val,bE,ys',rfl,hgrow,hn',hge',hgs',hown',hrow',hblk,hback,_⟩:=he;obtain rfl:=hback rfl;have hcell:∀k o,ro k o->w'.cell? ⟨k,o,none⟩=w.cell? ⟨k,o,none⟩:=fun k o h=>World.cell?_of_block (hgrow.block k (c.aZ k o h) (fun e=>iF k e.symm o h))
      obtain⟨ad,cap,hgv,had⟩:=hown'.shape;exact⟨bE.v,mV ι S.next bE,fun k o=>ro k o\/(bE.blk≠some k/\(gh.blk=some k\/w.heap.size<=k/\k<w'.heap.size)),rfl, {
       os:=hgrow.os
       tape:=hgrow.tape
       output:=hgrow.output
       size:=hgrow.size
       frame:=fun k hk hne=>hgrow.block k hk (fun e=>hne id _ gh rfl hi e.symm)
       cell:=hcell
       mono:=fun _ _ h=>.inl h
       aZ:=fun k o h=>by
        rcases h with h | ⟨_,h | h⟩
        ·exact afg (c.aZ k o h) hgrow.size
        ·exact afg (hown.lt h) hgrow.size
        ·exact h.2
       fresh:=fun k o h=>by
        rcases h with h | ⟨_,h | h⟩
        ·exact .inl h
        ·exact .inr (.inr ⟨id,_,gh,rfl,hi,h⟩)
        ·exact .inr (.inl h.1)
       ni:=fun id h=>if_neg h
       sZ:=fun au3 k h hk=>by
        simp[mV]at h;subst h;refine⟨hown'.lt hk,?_⟩;rcases hblk k hk with h | h
        ·exact .inr ⟨id,_,gh,rfl,rfl,hi,h⟩
        ·exact .inl h
       qL:=fun h=>by cases h
       upd:=fun id o h=>by cases h;trivial
       new:=fun o h=>by
        cases h;refine⟨bE,ys',if_pos rfl,hn',hge',hgs',hown',hrow',fun g hg o hr=>?_⟩;rcases hr with hr | ⟨hne,_⟩
        rotate_left
        ·exact hne hg
        rcases hblk g hg with h | h
        ·exact iF g h o hr
        ·have:=c.aZ g o hr;omega
       val:=by rw[<- hn'];exact .row bE t S.next ad cap (if_pos rfl) hge' hgs' hgv had }⟩
     ·rename_i ok l' hres;cases h;have hok:ok=true:=hok;subst hok;obtain⟨hfn,lQ⟩:=hO.2.2.1 f t l xs false l' hres;refine .inr (.inr ⟨f,_,enter hfn,(lQ w ro gh ys vals hn hge hgs hown hrow iF args c.aZ).mono fun e w' he=>?_⟩);obtain⟨val,bE,ys',rfl,hgrow,hn',hge',hgs',hown',hrow',hblk,_,hsame⟩:=he;obtain rfl:=hsame rfl;have hcell:∀k o,ro k o->w'.cell? ⟨k,o,none⟩=w.cell? ⟨k,o,none⟩:=fun k o h=>World.cell?_of_block (hgrow.block k (c.aZ k o h) (fun e=>iF k e.symm o h))
      exact⟨val,ι,fun k o=>ro k o\/(bE.blk≠some k/\(bE.blk=some k\/w.heap.size<=k/\k<w'.heap.size)),rfl, {
       os:=hgrow.os
       tape:=hgrow.tape
       output:=hgrow.output
       size:=hgrow.size
       frame:=fun k hk hne=>hgrow.block k hk (fun e=>hne id _ bE rfl hi e.symm)
       cell:=hcell
       mono:=fun _ _ h=>.inl h
       aZ:=fun k o h=>by
        rcases h with h | ⟨_,h | h⟩
        ·exact afg (c.aZ k o h) hgrow.size
        ·exact afg (hown.lt h) hgrow.size
        ·exact h.2
       fresh:=fun k o h=>by grind
       ni:=fun id h=>rfl
       sZ:=fun au3 k h hk=>by rw[c.fresh]at h;cases h
       qL:=fun h=>rfl
       upd:=fun id' o h=>by
        cases h;exact⟨bE,ys',hi,hn',hge',hgs',hown',hrow',fun g hg o hr=>by
         rcases hr with hr | ⟨hne,_⟩
         ·exact iF g hg o hr
         ·exact hne hg⟩
       new:=fun o h=>by cases h
       val:=.any _ }⟩
     ·cases h
    ·cases h
   ·cases h
 ·rename_i T Ts rest hts;cases vals with
  | nil=>simp at hlen
  | cons v vals =>
   have e1:=(hargs 0 v _ rfl rfl).jT;subst e1;have hrest:∀(i:Nat) u x,vals[i]? = some u->rest[i]? = some x->aO E w ro ι u x:=fun i u x hu hx=>hargs (i+1) u x (by simpa using hu) (by simpa using hx)
   have hlen':vals.length=rest.length:=by simpa using hlen
   split at h
   ·rename_i e he;split at h
    ·rename_i t ht;split at h
     ·rename_i xs hxs;have args:=wU (ι:=ι) Ts vals rest xs hlen' hrest hxs;split at h
      ·rename_i ok l' hres;cases h;have hok:ok=true:=hok;subst hok;obtain⟨hfn,lQ⟩:=hO.2.2.1 f t [] xs true l' hres;refine .inr (.inr ⟨f,_,enter hfn,(lQ w ro ⟨.slice none 0 0,0,E.tid t,E.size t,none⟩ [] vals rfl rfl rfl (.inl ⟨World.ownsRow_nil w 0 _ _,rfl⟩) (fun i x j cc h=>by simp at h) (fun g hg=>by cases hg) args c.aZ).mono fun e w' he=>?_⟩);obtain⟨val,bE,ys',rfl,hgrow,hn',hge',hgs',hown',hrow',hblk,hback,_⟩:=he;obtain rfl:=hback rfl;have hcell:∀k o,ro k o->w'.cell? ⟨k,o,none⟩=w.cell? ⟨k,o,none⟩:=fun k o h=>World.cell?_of_block (hgrow.block k (c.aZ k o h) (fun e=>by cases e))
       obtain⟨ad,cap,hgv,had⟩:=hown'.shape;exact⟨bE.v,mV ι S.next bE,fun k o=>ro k o\/(bE.blk≠some k/\((none:Option Nat)=some k\/w.heap.size<=k/\k<w'.heap.size)),rfl, {
        os:=hgrow.os
        tape:=hgrow.tape
        output:=hgrow.output
        size:=hgrow.size
        frame:=fun k hk _=>hgrow.block k hk (fun e=>by cases e)
        cell:=hcell
        mono:=fun _ _ h=>.inl h
        aZ:=fun k o h=>by
         rcases h with h | ⟨_,h | h⟩
         ·exact afg (c.aZ k o h) hgrow.size
         ·cases h
         ·exact h.2
        fresh:=fun k o h=>by
         rcases h with h | ⟨_,h | h⟩
         ·exact .inl h
         ·cases h
         ·exact .inr (.inl h.1)
        ni:=fun id h=>if_neg h
        sZ:=fun au3 k h hk=>by
         simp[mV]at h;subst h;refine⟨hown'.lt hk,?_⟩;rcases hblk k hk with h | h
         ·cases h
         ·exact .inl h
        qL:=fun h=>by cases h
        upd:=fun id o h=>by cases h
        new:=fun o h=>by
         cases h;refine⟨bE,ys',if_pos rfl,hn',hge',hgs',hown',hrow',fun g hg o hr=>?_⟩;rcases hr with hr | ⟨hne,_⟩
         ·rcases hblk g hg with h | h
          ·cases h
          ·have:=c.aZ g o hr;omega
         ·exact hne hg
        val:=by rw[<- hn'];exact .row bE t S.next ad cap (if_pos rfl) hge' hgs' hgv had }⟩
      ·cases h
     ·cases h
    ·cases h
   ·cases h
 ·cases h
theorem aaX(c:Ctx E S asm a w ι ro){o:Oper}{T:TypeId}{n:Nat}{ps:Array (Nat×Operand)}(ho:o.op = .buildSlice T n ps){r:gK E}(h:FX S.next T n (sV S.tmps asm ps)=some r) :
  bL E o a w ι ro S.next r:=by
 unfold FX at h;split at h
 ·rename_i hps;split at h
  ·rename_i e he;split at h
   ·rename_i t ht;cases h;have auZ:=E.Pm e t ht;subst auZ;have hu:=qy he;have aEn:ps = #[]:=by
     have:ps.toList=[]:=by simpa[sV]using hps
     simpa using this
    subst aEn;let gh:Gh:=⟨.slice (some ⟨w.heap.size,0,none⟩) 0 0,0,E.tid t,E.size t,none⟩
    refine .inl ⟨gh.v,w.alloc (.cells #[] (E.tid t)),mV ι S.next gh,ro,?_, {
     os:=rfl
     tape:=rfl
     output:=rfl
     size:=by simp
     frame:=fun k hk _=>heap_alloc_old w _ hk
     cell:=fun k o h=>BK w _ (c.aZ k o h) o
     mono:=fun _ _ h=>h
     aZ:=fun k o h=>by have:=c.aZ k o h;simp;omega
     fresh:=fun k o h=>.inl h
     ni:=fun id h=>if_neg h
     sZ:=fun bE k h hk=>by simp[mV]at h;subst h;cases hk
     qL:=fun h=>by cases h
     upd:=fun id o h=>by cases h
     new:=fun o h=>by cases h;exact⟨gh,[],if_pos rfl,rfl,rfl,rfl,.inr ⟨rfl,rfl,rfl,_,rfl⟩,fun i x j cc h=>by simp at h,fun g hg=>by cases hg⟩
     val:=.row gh t S.next _ 0 (if_pos rfl) rfl rfl rfl (fun h=>by cases h) }⟩
    simp only[execOp,ho,Instr.buildSlice];simp only[Sem.run_bind,run_underlying hu,Result.andThen_ok,tu,Nat.zero_mul];have e0:Array.map (fun _=>(default:Value)) (Array.range 0) = #[]:=ahS (by simp);simp[Instr.fill,newRow,gh,e0]
   ·cases h
  ·cases h
 ·cases h
theorem arY(_:Ctx E S asm a w ι ro){o:Oper}{T:TypeId}{n m:Operand}(_:o.op = .makeSlice T n m){r:gK E}(h:aaM S.next T (bG S.tmps asm n) (bG S.tmps asm m)=some r)(_:r.ok=true):bL E o a w ι ro S.next r:=by unfold aaM at h;cases h
theorem arZ(_:Ctx E S asm a w ι ro){o:Oper}{T:TypeId}{d s:Operand}(_:o.op = .call { callee:=.builtin .copy,args:=#[d,s],argTypes:=#[T,T] }){r:gK E}
  (h:aaN S.objs T (bG S.tmps asm d) (bG S.tmps asm s)=some r):bL E o a w ι ro S.next r:=by
 unfold aaN at h;cases h
theorem ah4(_:Ctx E S asm a w ι ro){o:Oper}{T T':TypeId}{big:Bool}{x y:Operand}(_:o.op = .call { callee:=.builtin (bif big then .max else .min),args:=#[x,y],argTypes:=#[T,T'] }){r:AV E}
  (h:ag6 big T (bG S.tmps asm x) (bG S.tmps asm y)=some r):bL E o a w ι ro S.next (.pure r):=by
 unfold ag6 at h;cases h
theorem ah5(_:Ctx E S asm a w ι ro){o:Oper}{T:TypeId}(_:o.op = .makeMap T none){r:gK E}(h:Nu S.next T=some r):bL E o a w ι ro S.next r:=by unfold Nu at h;cases h
theorem alC(_:Ctx E S asm a w ι ro){o:Oper}{T:TypeId}{x i:Operand}{ok:Bool}(_:o.op = .lookup T x i ok){r:AV E}(h:Y8 S.objs T (bG S.tmps asm x) (bG S.tmps asm i) ok=some r):bL E o a w ι ro S.next (.pure r):=by unfold Y8 at h;cases h
theorem ah6(_:Ctx E S asm a w ι ro){o:Oper}{T:TypeId}{x i:Operand}{ok:Bool}(_:o.op = .lookup T x i ok){r:AV E}(h:Ul T (bG S.tmps asm x) (bG S.tmps asm i) ok=some r):bL E o a w ι ro S.next (.pure r):=by unfold Ul at h;cases h
theorem ayt{v:Value}{t:E.Ty}{m id:Nat}(h:aO E w ro ι v (.row t m id)):∃ad cap,v = .slice ad m cap/\(0<m->∃g,ad=some ⟨g,0,none⟩):=by
 cases h with
 | row gh _ _ ad cap h1 h2 h3 h4 h5=>exact⟨ad,cap,h4,h5⟩
theorem ar0{T e:TypeId}(hu:P.underlying T=some (.slice e))(d:Nat)(ad:Option Addr)(n cp:Nat):(Op.equalIn (d+1) T (.slice ad n cp) (.slice none 0 0)).run P w = .ok ad.isNone w:=by cases ad<;>simp[Op.equalIn,run_underlying hu]
theorem Zj{T:TypeId}{e1 e2:Array TypeId}{e3:Bool}(hu:P.underlying T=some (.func e1 e2 e3))(d:Nat)(v:Value)(b:Bool)(h:(v = .nilFunc/\b=true)\/(∃f x y,v = .func f x y)/\b=false):(Op.equalIn (d+1) T v .nilFunc).run P w = .ok b w:=by rcases h with⟨rfl,rfl⟩ | ⟨⟨f,x,y,rfl⟩,rfl⟩<;>simp[Op.equalIn,run_underlying hu]
theorem am4{T e1 e2:TypeId}(hu:P.underlying T=some (.map e1 e2))(d:Nat)(r:Option Nat):(Op.equalIn (d+1) T (.map r) (.map none)).run P w = .ok r.isNone w:=by cases r<;>simp[Op.equalIn,run_underlying hu]
theorem Xg{T e:TypeId}(hu:P.underlying T=some (.pointer e))(d:Nat)(r:Option Addr):(Op.equalIn (d+1) T (.pointer r) (.pointer none)).run P w = .ok r.isNone w:=by cases r<;>simp[Op.equalIn,run_underlying hu]
def Po:Value->Value->Bool
 | .slice _ _ _,.slice none _ _=>true
 | .func _ _ _,.nilFunc=>true
 | .nilFunc,.nilFunc=>true
 | .map _,.map none=>true
 | .pointer _,.pointer none=>true
 | _,_=>false
theorem alD{T:TypeId}{X Y:AV E}{ok b:Bool}(h:aoY T X Y=some (ok,b))(hok:ok=true){vx vy:Value}(hx:aO E w ro ι vx X)(hy:aO E w ro ι vy Y):(Op.equal T vx vy).run P w = .ok b w/\Po vx vy=true:=by
 show(Op.equalIn (9999+1) T vx vy).run P w = .ok b w/\Po vx vy=true;unfold aoY at h;split at h
 ·rename_i e hu;have hy:=hy.jT;subst hy;have go:∀(ad:Option Addr) (n cp:Nat),vx = .slice ad n cp->b=ad.isNone->(Op.equalIn (9999+1) T vx (.slice none 0 0)).run P w = .ok b w/\Po vx (.slice none 0 0)=true:=fun ad n cp e1 e2=>by
   subst e1;subst e2;exact⟨ar0 hu 9999 ad n cp,rfl⟩
  unfold arE at h;split at h
  ·cases h;exact go none 0 0 hx.jT rfl
  ·rename_i t l;cases h;cases hx with
   | d _ _ hd =>obtain⟨ad,cap,rfl,hs⟩:=hd.su;grind
  ·rename_i t l id;cases h;cases hx with
   | grow gh _ _ _ h1 h2 h3 h4 hd =>obtain⟨ad,cap,hv,hs⟩:=hd.su;grind
  ·rename_i t n id;cases h;obtain⟨ad,cap,hv,hg⟩:=ayt hx;obtain⟨g,rfl⟩:=hg (by simpa[Nat.blt_eq]using hok);exact go _ _ _ hv rfl
  ·cases h
 ·rename_i e1 e2 e3 hu;have hy:=hy.jT;subst hy;unfold arF at h;split at h
  ·cases h;have:=hx.jT;subst this;exact⟨Zj hu 9999 _ _ (.inl ⟨rfl,rfl⟩),rfl⟩
  ·cases h;have:=hx.jT;subst this;exact⟨Zj hu 9999 _ _ (.inr ⟨⟨_,_,_,rfl⟩,rfl⟩),rfl⟩
  ·cases h;cases hx with
   | fn=>exact⟨Zj hu 9999 _ _ (.inr ⟨⟨_,_,_,rfl⟩,rfl⟩),rfl⟩
  ·cases h
 ·rename_i e1 e2 hu;have hy:=hy.jT;subst hy;unfold arG at h;split at h
  ·cases h;have:=hx.jT;subst this;exact⟨am4 hu 9999 none,rfl⟩
  ·cases h;cases hx with
   | mp gh g=>exact⟨am4 hu 9999 (some g),rfl⟩
  ·cases h
 ·rename_i e1 hu;have hy:=hy.jT;subst hy;unfold arH at h;split at h
  ·cases h;have:=hx.jT;subst this;exact⟨Xg hu 9999 none,rfl⟩
  ·cases h;cases hx with
   | ptr=>exact⟨Xg hu 9999 (some _),rfl⟩
  ·cases h;cases hx with
   | lN=>exact⟨Xg hu 9999 (some _),rfl⟩
  ·cases h;cases hx with
   | elt=>exact⟨Xg hu 9999 (some _),rfl⟩
  ·cases h
 ·cases h
theorem au4(c:Ctx E S asm a w ι ro){o:Oper}{op:BinOp}{T T':TypeId}{x y:Operand}(ho:o.op = .binOp op T x y T'){r:Bool×AV E}(h:aoZ op T (bG S.tmps asm x) (bG S.tmps asm y)=some r)(hok:r.1=true):bL E o a w ι ro S.next (.test r.1 r.2):=by
 have hx:=c.get x;have hy:=c.get y;generalize iy:a.eval x=vx at hx;generalize FZ:a.eval y=vy at hy;generalize bG S.tmps asm x=X at *;generalize bG S.tmps asm y=Y at *;unfold aoZ at h;split at h
 ·rename_i ok b hm hb;have hok':ok=true:=by
   grind
  obtain⟨hr,hp⟩:=alD hb hok' hx hy;split at h
  ·cases h;refine .pure c.aZ c.fresh (val:=.bool b) ?_ rfl rfl (.d _ _ (.bool _));unfold Po at hp;split at hp<;>first | (cases hp;done) | simp[execOp,ho,iy,FZ,eqGuard,binOp,hr]
  ·cases h;refine .pure c.aZ c.fresh (val:=.bool !b) ?_ rfl rfl (.d _ _ (.bool _));unfold Po at hp;split at hp<;>first | (cases hp;done) | simp[execOp,ho,iy,FZ,eqGuard,binOp,hr]
  ·cases h
 ·cases h
theorem alE(_:Ctx E S asm a w ι ro){o:Oper}{T:TypeId}{m i x:Operand}(_:o.op = .mapUpdate T m i x){u:Nat×aU E}(h:QJ S.objs T (bG S.tmps asm m) (bG S.tmps asm i) (bG S.tmps asm x)=some u):bL E o a w ι ro S.next ⟨true,.any,some u,none⟩:=by unfold QJ at h;cases h
theorem fZ{α β:Type}{f:α->β}{x:Option α}{y:β}(h:x.map f=some y):∃z,x=some z/\f z=y:=by
 cases x with
 | none=>cases h
 | some z=>exact⟨z,rfl,by simpa using h⟩
theorem ah7{α:Type}{as:Array α}{f:α->AV E}{x:AV E}(h:as.toList.map f=[x]):∃s,as = #[s]/\f s=x:=by
 obtain⟨l⟩:=as
 match l,h with
 | [s],h=>exact⟨s,rfl,by simpa using h⟩
theorem Uv{α:Type}{as:Array α}{f:α->AV E}{x y:AV E}(h:as.toList.map f=[x,y]):∃s u,as = #[s,u]/\f s=x/\f u=y:=by
 obtain⟨l⟩:=as
 match l,h with
 | [s,u],h=>grind
theorem apr(c:Ctx E S asm a w ι ro){o:Oper}{s:Operand}{ts:Array TypeId}(ho:o.op = .call { callee:=.builtin .unsafeSliceData,args:=#[s],argTypes:=ts }){t:E.Ty}{l:List (E.Den t)}{id:Nat}(hs:bG S.tmps asm s = .grow t l id)(hok:(!l.isEmpty)=true) :
  bL E o a w ι ro S.next (.test (!l.isEmpty) (.sd t l id)):=by
 have hv:=c.get s;rw[hs]at hv;generalize hvs:a.eval s=vs0 at hv;cases hv with
 | grow gh _ _ _ h1 hn he hsz hd =>
  obtain⟨ad,cap,hgv,hd'⟩:=hd.su;rcases hd' with rfl | ⟨g,off,rfl,hcap,_⟩
  ·cases hok
  ·have hc0:cap≠0:=by
    cases l with
    | nil=>cases hok
    | cons x r=>simp at hcap;omega
   refine .pure c.aZ c.fresh (val:=.pointer (some ⟨g,off,none⟩)) ?_ rfl rfl (.sd gh t l id ⟨g,off,none⟩ cap h1 hgv hn he hsz hd);rw[hgv]at hvs;have hrun:=Lib.run_unsafeSliceData_row (P:=P) w ts o.type ⟨g,off,none⟩ l.length cap hc0;simp only[execOp,ho,resolve,invoke,builtin,Sem.run_bind,Sem.run_pure,Result.andThen_ok,anf,afu,afM,hvs,hrun]
theorem alF(c:Ctx E S asm a w ι ro){o:Oper}{s:Operand}{ts:Array TypeId}(ho:o.op = .call { callee:=.builtin .unsafeSliceData,args:=#[s],argTypes:=ts })(hs:bG S.tmps asm s = .d (.raw (.slice none 0 0))) :
  bL E o a w ι ro S.next (.pure (.d (.raw (.pointer none)))):=by
 have hv:=c.get s;rw[hs]at hv;have hvs:=hv.jT;have hrun:=Lib.run_unsafeSliceData_nil (P:=P) w ts o.type 0 0;refine c.pure (val:=.pointer none) ?_ (.d _ _ (.raw _ rfl));simp only[execOp,ho,resolve,invoke,builtin,Sem.run_bind,Sem.run_pure,Result.andThen_ok,anf,afu,afM,hvs,hrun]
theorem aps(c:Ctx E S asm a w ι ro){o:Oper}{s u:Operand}{pt it:TypeId}(ho:o.op = .call { callee:=.builtin .unsafeString,args:=#[s,u],argTypes:=#[pt,it] }){n:Int}(hs:bG S.tmps asm s = .d (.raw (.pointer none)))(hu:bG S.tmps asm u = .d (.int .i64 n))(hok:(n==0)=true) :
  bL E o a w ι ro S.next (.test (n==0) (.d (.str []))):=by
 have hv:=c.get s;rw[hs]at hv;have hvs:=hv.jT;have hw:=c.get u;rw[hu]at hw;have hvu:=hw.sJ;have hn:=eq_of_beq hok;subst hn;have hrun:=Lib.run_unsafeString_none (P:=P) w pt it o.type none;refine .pure c.aZ c.fresh (val:=.string .empty) ?_ rfl rfl (.d _ _ (.str []));simp only[execOp,ho,resolve,invoke,builtin,Sem.run_bind,Sem.run_pure,Result.andThen_ok,anf,afu,afM,hvs,hvu,hrun]
theorem ar1(_:Ctx E S asm a w ι ro){o:Oper}{s u:Operand}{pt it:TypeId}(_:o.op = .call { callee:=.builtin .unsafeString,args:=#[s,u],argTypes:=#[pt,it] }){t:E.Ty}{l:List (E.Den t)}{id:Nat}{n:Int}(_:bG S.tmps asm s = .sd t l id)(_:bG S.tmps asm u = .d (.int .i64 n))
  {r:gK E} (h:aaK S.objs pt t l id n=some r) (_:r.ok=true):bL E o a w ι ro S.next r:=by
 unfold aaK at h;cases h
theorem am5(c:Ctx E S asm a w ι ro){O:aR E}(hO:aJ E O){o:Oper}{r:gK E}(h:kQ O S asm o.op=some r)(hok:r.ok=true):bL E o a w ι ro S.next r:=by
 cases hop:o.op with
 | move x=>rw[hop]at h;cases h;exact aeD c (.inl hop)
 | assign x=>rw[hop]at h;cases h;exact aeD c (.inr hop)
 | pick x y z=>rw[hop]at h;obtain⟨q,hq,rfl⟩:=fZ h;exact arQ c hop hq
 | alloc T =>
  rw[hop]at h;simp only[kQ]at h;split at h
  ·rename_i cs hcs;split at h
   ·rename_i hk;cases h;exact ao5 c hop hcs hk O
   ·cases h
  ·cases h
 | box T x =>
  rw[hop]at h;simp only[kQ]at h;split at h
  ·rename_i cs hcs;cases h;exact auV c hop hcs
  ·cases h
 | build T ps=>rw[hop]at h;obtain⟨q,hq,rfl⟩:=fZ h;exact ao9 c hop hq
 | buildSlice T n ps =>
  rw[hop]at h;simp only[kQ]at h;split at h
  ·rename_i q hq;cases h;exact aaX c hop hq
  ·split at h
   ·rename_i q hq;cases h;exact aaS c hop hq
   ·exact aga c hop h
 | makeFunc f x y =>
  rw[hop]at h;simp only[kQ]at h;split at h
  ·cases h;exact agb c hop
  ·cases h
 | load T x =>
  rw[hop]at h;simp only[kQ]at h;split at h
  ·rename_i q hq;cases h;exact arP c hop hq
  ·obtain⟨q,hq,rfl⟩:=fZ h;exact ao7 c hop hq hok
 | store T x y =>
  rw[hop]at h;simp only[kQ]at h;split at h
  ·rename_i u hu;cases h;exact aaQ c hop hu
  ·split at h
   ·rename_i ok u hu;cases h;exact alv c hop hu hok
   ·cases h
 | nilCheck x =>
  rw[hop]at h;simp only[kQ]at h;have hx:=c.get x;generalize iy:a.eval x=vx at hx;split at h
  ·rename_i id off hg;cases h;rw[hg]at hx;cases hx with
   | ptr gh g _ _ hi hgv=>exact c.pure (val:=.pointer (some ⟨g,off,none⟩)) (by simp[execOp,hop,iy]) (.ptr gh g id off hi hgv)
  ·rename_i cs hg;cases h;rw[hg]at hx;cases hx with
   | lN g off f _ h1 h2=>exact c.pure (val:=.pointer (some ⟨g,off,none⟩)) (by simp[execOp,hop,iy]) (.lN g off f _ h1 h2)
  ·rename_i id i off hg;cases h;rw[hg]at hx;cases hx with
   | elt gh g _ _ _ cap hi hgv hlt=>exact c.pure (val:=.pointer (some ⟨g,i*gh.sz+off,none⟩)) (by simp[execOp,hop,iy]) (.elt gh g id i off cap hi hgv hlt)
  ·rename_i f p q hg;cases h;rw[hg]at hx;cases hx with
   | fn _ vs us _ _ h1 h2 h3 h4=>exact c.pure (val:=.func (.func f) vs us) (by simp[execOp,hop,iy]) (.fn f vs us p q h1 h2 h3 h4)
  ·cases h
 | makeSlice T n m=>rw[hop]at h;exact arY c hop h hok
 | makeMap T n =>
  rw[hop]at h;cases n with
  | none=>exact ah5 c hop h
  | some _=>cases h
 | mapUpdate T m i x =>
  rw[hop]at h;simp only[kQ]at h;split at h
  ·rename_i u hu;cases h;exact alE c hop hu
  ·cases h
 | lookup T x i ok =>
  rw[hop]at h;simp only[kQ]at h;split at h
  ·rename_i q hq;cases h;exact alC c hop hq
  ·obtain⟨q,hq,rfl⟩:=fZ h;exact ah6 c hop hq
 | binOp op T x y T' =>
  rw[hop]at h;simp only[kQ]at h;split at h
  ·rename_i q hq;cases h;exact auX c hop hq hok
  ·split at h
   ·rename_i q hq;cases h;exact apc c hop hq hok
   ·obtain⟨q,hq,rfl⟩:=fZ h;exact au4 c hop hq hok
 | unOp op T x=>rw[hop]at h;obtain⟨q,hq,rfl⟩:=fZ h;exact ayp c hop hq hok
 | convert s d x=>rw[hop]at h;obtain⟨q,hq,rfl⟩:=fZ h;exact arV c hop hq hok
 | fieldAddr s x f=>rw[hop]at h;obtain⟨q,hq,rfl⟩:=fZ h;exact apa c hop hq
 | field s x f=>rw[hop]at h;obtain⟨q,hq,rfl⟩:=fZ h;exact alx c hop hq
 | indexAddr T x i =>
  rw[hop]at h;simp only[kQ]at h;split at h
  ·rename_i q hq;cases h;exact acU c hop hq hok
  ·split at h
   ·rename_i q hq;cases h;exact af8 c hop hq hok
   ·obtain⟨q,hq,rfl⟩:=fZ h;exact af9 c hop hq hok
 | index T x i =>
  rw[hop]at h;simp only[kQ]at h;split at h
  ·rename_i q hq;cases h;exact apb c hop hq hok
  ·obtain⟨q,hq,rfl⟩:=fZ h;exact aly c hop hq hok
 | slice T x l hh m =>
  rw[hop]at h;simp only[kQ]at h;split at h
  ·rename_i q hq;cases h;exact apd c hop hq hok
  ·split at h
   ·rename_i q hq;cases h;exact alz c hop hq hok
   ·obtain⟨q,hq,rfl⟩:=fZ h;exact alA c hop hq hok
 | extract x i=>rw[hop]at h;obtain⟨q,hq,rfl⟩:=fZ h;exact ahV c hop hq
 | call cl =>
  rw[hop]at h;obtain⟨callee,as,ts⟩:=cl;simp only[kQ]at h;split at h
  ·rename_i BM;split at h
   ·rename_i x T hx hT;obtain⟨q,hq,rfl⟩:=fZ h;obtain⟨s,rfl,rfl⟩:=ah7 hx;exact auY c hop hT hq
   ·cases h
  ·rename_i BM;split at h
   ·rename_i s x T T' hsx Pp;split at h
    ·rename_i hb;have hb:=abe hb;subst hb;obtain⟨s',x',rfl,rfl,rfl⟩:=Uv hsx;obtain rfl:ts = #[T,T]:=by obtain⟨l⟩:=ts;simp at Pp;simp[Pp]
     exact alB c hop h hok
    ·obtain⟨s',x',rfl,rfl,rfl⟩:=Uv hsx;obtain rfl:ts = #[T,T']:=by obtain⟨l⟩:=ts;simp at Pp;simp[Pp]
     exact ah1 c hop h hok
   ·cases h
  ·rename_i BM;split at h
   ·rename_i t l id hx;cases h;obtain⟨s,rfl,hs⟩:=ah7 hx;exact apr c hop hs hok
   ·rename_i hx;cases h;obtain⟨s,rfl,hs⟩:=ah7 hx;exact alF c hop hs
   ·cases h
  ·rename_i BM;split at h
   ·rename_i t l id n pt it hx hT;obtain⟨s,u,rfl,hs,hu⟩:=Uv hx;obtain rfl:ts = #[pt,it]:=by obtain⟨l⟩:=ts;simp at hT;simp[hT]
    exact ar1 c hop hs hu h hok
   ·rename_i n pt it hx hT;cases h;obtain⟨s,u,rfl,hs,hu⟩:=Uv hx;obtain rfl:ts = #[pt,it]:=by obtain⟨l⟩:=ts;simp at hT;simp[hT]
    exact aps c hop hs hu hok
   ·cases h
  ·rename_i BM;split at h
   ·rename_i m n hx;cases h;obtain⟨s,rfl,hs⟩:=ah7 hx;have hv:=c.get s;rw[hs]at hv;obtain⟨x1,x2,e1,h1,h2⟩:=hv.Xd;exact c.pure (val:=.float .f64 x1) (by simp only[execOp,hop,resolve,invoke,builtin,Sem.run_bind,Sem.run_pure,Result.andThen_ok,anf,afu,afM,e1];rfl) (.d _ _ (.flt _ _ h1))
   ·cases h
  ·rename_i BM;split at h
   ·rename_i m n hx;cases h;obtain⟨s,rfl,hs⟩:=ah7 hx;have hv:=c.get s;rw[hs]at hv;obtain⟨x1,x2,e1,h1,h2⟩:=hv.Xd;exact c.pure (val:=.float .f64 x2) (by simp only[execOp,hop,resolve,invoke,builtin,Sem.run_bind,Sem.run_pure,Result.andThen_ok,anf,afu,afM,e1];rfl) (.d _ _ (.flt _ _ h2))
   ·cases h
  ·rename_i BM;split at h
   ·rename_i m n hx;cases h;obtain⟨s,u,rfl,hs,hu⟩:=Uv hx;have hv:=c.get s;rw[hs]at hv;have hv2:=c.get u;rw[hu]at hv2;obtain⟨x1,e1,h1⟩:=hv.Lf;obtain⟨x2,e2,h2⟩:=hv2.Lf;exact c.pure (val:=.complex .f64 x1 x2) (by simp only[execOp,hop,resolve,invoke,builtin,Sem.run_bind,Sem.run_pure,Result.andThen_ok,anf,afu,afM,e1,e2];rfl) (.d _ _ (.FT _ _ _ _ h1 h2))
   ·cases h
  ·rename_i BM;split at h
   ·rename_i s x T T' hsx Pp;split at h
    ·rename_i hb;have hb:=abe hb;subst hb;obtain⟨s',x',rfl,rfl,rfl⟩:=Uv hsx;obtain rfl:ts = #[T,T]:=by obtain⟨l⟩:=ts;simp at Pp;simp[Pp]
     exact arZ c hop h
    ·cases h
   ·cases h
  ·rename_i BM;split at h
   ·rename_i s x T T' hsx Pp;obtain⟨q,hq,rfl⟩:=fZ h;obtain⟨s',x',rfl,rfl,rfl⟩:=Uv hsx;obtain rfl:ts = #[T,T']:=by obtain⟨l⟩:=ts;simp at Pp;simp[Pp]
    exact ah4 (big:=false) c hop hq
   ·cases h
  ·rename_i BM;split at h
   ·rename_i s x T T' hsx Pp;obtain⟨q,hq,rfl⟩:=fZ h;obtain⟨s',x',rfl,rfl,rfl⟩:=Uv hsx;obtain rfl:ts = #[T,T']:=by obtain⟨l⟩:=ts;simp at Pp;simp[Pp]
    exact ah4 (big:=true) c hop hq
   ·cases h
  ·rename_i lJ;split at h
   ·rename_i f hf;have hfo:a.eval lJ = .func (.func f) #[] #[]:=by
     unfold Xb at hf;split at hf
     ·cases hf;rfl
     ·unfold funcOf at hf;split at hf
      ·rename_i heq;cases hf;have hx:=c.get lJ;rw[heq]at hx;exact hx.jT
      ·cases hf
    split at h
    ·rename_i q hq;cases h;exact aaW c hO (by simp[bW]) (args_at c as) (Ew hop hfo) hq hok
    split at h
    ·rename_i q hq;cases h;exact apm c hO hop hfo hq hok
    split at h
    ·rename_i q hq;cases h;exact apn c hO hop hfo hq hok
    split at h
    ·rename_i q hq;cases h;exact apo c hO hop hfo hq hok
    split at h
    ·rename_i q hq;cases h;exact apq c hO hop hfo hq hok
    split at h
    ·rename_i q hq;cases h;exact apj c hO hop hfo hq hok
    ·split at h
     ·rename_i q hq;cases h;exact apg c hO hop hfo hq hok
     ·split at h
      ·rename_i q hq;cases h;exact apl c hO hop hfo hq hok
      ·split at h
       ·rename_i q hq;cases h;exact apf c hO hop hfo hq hok
       ·exact arX c hO hop hfo h hok
   ·split at h
    ·rename_i f p q hg;have hx:=c.get lJ;rw[hg]at hx;generalize hv:a.eval lJ=vx at hx;cases hx with
     | fn _ vs us _ _ h1 h2 h3 h4 =>exact aaW c hO (by simp[bW,h1,h2]) (Xf (by simpa using h1) (fun j v x hv hx=>h3 j v x (by simpa using hv) hx) (Xf (by simp[bW]) (args_at c as) fun j v x hv hx=>h4 j v x (by simpa using hv) hx)) (ah2 hop hv) h hok
    ·cases h
  ·cases h
 | _=>rw[hop]at h;cases h
end
section
variable {P:Program} {E:Env P}
def guardOf(tm:List (Nat×AV E)):Nat->Nat->Bool->Option (Bool×List (Nat×Bool))
 | 0,_,_=>none
 | f+1,gs,want=>match look tm gs with
  | some (.d (.bool b))=>some (bif want then b else !b,[(gs,want)])
  | some (.cond j w (.d (.bool b)))=>match guardOf tm f j w with
   | some (b',asm)=>some (b'&&(bif want then b else !b),(gs,want)::asm)
   | none=>none
  | _=>none
def ag9(ops:Array Oper)(j:Nat):Option Nat:=(ops[j]?).bind (·.dst)
def eF:AV E->Bool
 | .cond _ _ _=>true
 | _=>false
def evG(O:aR E)(ops:Array Oper)(S:aI E)(o:Oper):Option (gK E):=match o.guard with
 | none=>match kQ O S [] o.op with
  | some r=>bif eF r.v then none else some r
  | none=>none
 | some (j,want)=>match ag9 ops j with
  | none=>none
  | some gs=>match guardOf S.tmps 8 gs want with
   | none=>none
   | some (b,asm)=>match kQ O S asm o.op with
    | some ⟨ok,v,none,none⟩=>some ⟨ok||!b,.cond gs want v,none,none⟩
    | _=>none
def Od(objs:List (Nat×aU E))(dY:Nat)(r:gK E):List (Nat×aU E) :=
 (match r.new with | some o=>[(dY,o)] | none=>[])++((match r.upd with | some u=>[u] | none=>[])++objs)
def Kg(d:Option Nat)(v:AV E)(loc:List (Nat×AV E)):List (Nat×AV E):=match d with
 | some d=>(d,v)::loc
 | none=>loc
def tC:List (Nat×AV E)->List (Nat×AV E)
 | []=>[]
 | (t,x)::r=>bif eF x then(t,.any)::tC r else(t,x)::tC r
def Ey(d:Nat):List (Nat×AV E)->Bool
 | []=>true
 | (_,.cond j _ _)::r=>(!Nat.beq j d)&&Ey d r
 | _::r=>Ey d r
def QN(n:Nat)(d:Option Nat)(loc:List (Nat×AV E)):Bool:=match d with
 | none=>true
 | some d=>Nat.blt d n&&Ey d loc
def apt(I:Inl E)(S:aI E)(o:Oper):Option (FuncId×List (AV E)):=match o.guard,o.op with
 | none,.call c=>(match c.callee with
  | .value x=>(match Xb (bG S.tmps []) x with
   | some f=>bif I.has f then some (f,bW S.tmps [] c.args)else none
   | none=>(match bG S.tmps [] x with
    | .fn f p q=>bif I.has f then some (f,p++(bW S.tmps [] c.args++q))else none
    | _=>none))
  | _=>none)
 | _,_=>none
def nI{R:Type}(O:aR E)(ops:Array Oper)(n:Nat)(glob:List (Nat×AV E)):List Oper->List (Nat×AV E)->List (Nat×aU E)->Nat->(aI E->Option R)->Option R
 | [],loc,objs,next,k=>k ⟨n,tC loc++glob,objs,next⟩
 | o::rest,loc,objs,next,k=>match apt O.inl ⟨n,loc++glob,objs,next⟩ o with
  | some (f,args)=>O.inl.run f args objs next fun v nH next'=>match QN n o.dst ((0,v)::loc)&&!(eF v)with
   | true=>nI O ops n glob rest (Kg o.dst v loc) nH next' k
   | false=>none
  | none=>match evG O ops ⟨n,loc++glob,objs,next⟩ o with
   | some r=>match QN n o.dst ((0,r.v)::loc)with
    | true=>bif r.ok then nI O ops n glob rest (Kg o.dst r.v loc) (Od objs next r) (next+1) k else none
    | false=>none
   | none=>none
def aS(tm:List (Nat×AV E)):Prop:=∀p∈tm,eF p.2=false
end
section
variable {P:Program} {E:Env P} {w w':World} {ro ro':Nat->Nat->Prop} {ι ι':Nat->Option Gh} {S:aI E} {asm:List (Nat×Bool)} {a:Act}
theorem nJ{α:Type}:∀(l m:List (Nat×α)) (i:Nat),look (l++m) i=(match look l i with | some x=>some x | none=>look m i)
 | [],m,i=>rfl
 | (j,x)::l,m,i=>by
  simp only[aft,bf];split
  ·rfl
  ·exact nJ l m i
theorem j5{α:Type}:∀(l:List (Nat×α)) (i:Nat) (x:α),look l i=some x->(i,x)∈l
 | [],i,x,h=>by cases h
 | (j,y)::l,i,x,h=>by
  rw[bf]at h;split at h
  ·rename_i hj;have:=abe hj;grind
  ·exact abD _ (j5 l i x h)
theorem Uw{x:Option (gK E)}{r:gK E}(h:(match x with | some r=>bif eF r.v then none else some r | none=>none)=some r):x=some r/\eF r.v=false:=by grind
theorem Tc{tm:List (Nat×AV E)}(ht:yE E w ro ι a tm):∀(f gs:Nat) (want:Bool) (b:Bool) (asm:List (Nat×Bool)),guardOf tm f gs want=some (b,asm)->a.tmps[gs]? = some (.bool want)->b=true/\Xc a asm
 | 0,_,_,_,_,h,_=>by cases h
 | f+1,gs,want,b,asm,h,hw=>by
  unfold guardOf at h;split at h
  ·rename_i b0 hl;cases h;obtain⟨v,hv,hr⟩:=ht gs _ hl;have e1:v = .bool b0:=aO.tq hr;rw[hw,e1]at hv;cases hv;refine⟨by cases want<;>rfl,fun j b' hb=>?_⟩;simp only[uY,Bool.or_false,abK]at hb;have e2:=abe hb.1;grind
  ·rename_i j w0 b0 hl;split at h
   ·rename_i b' aEo hg;cases h;obtain⟨v,hv,hr1,hr2⟩:=ht gs _ hl;rw[hw]at hv;cases hv;have hj:a.tmps[j]? = some (.bool w0):=by
     by_cases h:a.tmps[j]? = some (.bool w0)
     ·exact h
     ·exact absurd (hr2 h) (by simp[undef])
    have e1:=aO.tq (hr1 hj);cases e1;obtain⟨h1,h2⟩:=Tc ht f j w0 b' aEo hg hj;refine⟨by rw[h1];cases want<;>rfl,Zb h2 hw⟩
   ·cases h
  ·cases h
def ah8(E:Env P)(w':World)(ro':Nat->Nat->Prop)(ι':Nat->Option Gh)(a:Act)(val:Value)(x:AV E):Prop :=
 ∀tm:Array Value,(∀gs want u,x = .cond gs want u->tm[gs]? = a.tmps[gs]?)->CQ E w' ro' ι' tm val x
theorem gy.az0{dY:Nat}{r:gK E}{val:Value}(h:gy E w w' ι ι' ro ro' dY r val):gy E w w' ι ι' ro ro' dY { r with v:=.any } val where
 os:=h.os
 tape:=h.tape
 output:=h.output
 size:=h.size
 frame:=h.frame
 cell:=h.cell
 mono:=h.mono
 aZ:=h.aZ
 fresh:=h.fresh
 ni:=h.ni
 sZ:=h.sZ
 qL:=h.qL
 upd:=h.upd
 new:=h.new
 val:=.any _
theorem aeN(kR:∀k o,ro k o->k<w.heap.size)(NA:yE E w ro ι a S.tmps)(Ny:∀(id:Nat) o,look S.objs id=some o->kE E w ro ι id o)(hfresh:ι S.next=none)
  {O:aR E} (hO:aJ E O) {ops:Array Oper} {o:Oper} {r:gK E} (h:evG O ops S o=some r) (hok:r.ok=true) {K:Act->World->Prop} {Q:Exit->Act->World->Prop}
  (hK:∀val w' ι' ro',gy E w w' ι ι' ro ro' S.next { r with v:=.any } val->ah8 E w' ro' ι' a val r.v->K (a.put o.dst val) w') :
  if Region.wanted o (yielded ops a.tmps)=true then o.wp P a w K Q else K (a.put o.dst undef) w:=by
 unfold evG at h;split at h
 ·rename_i hg;have h:=(Uw h).1;have hw:Region.wanted o (yielded ops a.tmps)=true:=by simp[Region.wanted,hg]
  rw[if_pos hw];have c:Ctx E S [] a w ι ro:=⟨NA,fun j b hb=>by simp[uY]at hb,kR,Ny,hfresh⟩
  refine(am5 c hO h hok).wp fun val w' ι' ro' hp=>hK val w' ι' ro' hp.az0 fun tm NA=>?_
  have hv:=hp.val;generalize r.v=x at hv NA;cases hv with
  | any _=>exact .any _
  | d _ c h=>exact .d _ c h
  | st vs t x ha h=>exact .st vs t x ha h
  | agg vs cs h1 h2=>exact .agg vs cs h1 h2
  | wP vs cs h1 h2=>exact .wP vs cs h1 h2
  | grow gh t l id h1 h2 h3 h4 h5=>exact .grow gh t l id h1 h2 h3 h4 h5
  | ptr gh g id off h1 h2=>exact .ptr gh g id off h1 h2
  | lN g off f cs h1 h2=>exact .lN g off f cs h1 h2
  | row gh t id ad cap h1 h2 h3 h4 h5=>exact .row gh t id ad cap h1 h2 h3 h4 h5
  | elt gh g id i off cap h1 h2 h3=>exact .elt gh g id i off cap h1 h2 h3
  | fn f vs us a b h1 h2 h3 h4=>exact .fn f vs us a b h1 h2 h3 h4
  | Lp gh g id n cap h1 h2=>exact .Lp gh g id n cap h1 h2
  | mp gh g id h1 h2=>exact .mp gh g id h1 h2
  | yl gh l id h1 h2=>exact .yl gh l id h1 h2
  | mk gh _ g T id h1 h2 h3 h4=>exact .mk gh _ g T id h1 h2 h3 h4
  | sd gh t l id ad cap h1 h2 h3 h4 h5 h6=>exact .sd gh t l id ad cap h1 h2 h3 h4 h5 h6
 ·rename_i j want hg;split at h
  ·cases h
  ·rename_i gs hgs;split at h
   ·cases h
   ·rename_i b asm hguard;split at h
    ·rename_i ok v hop;cases h;by_cases hw:a.tmps[gs]? = some (.bool want)
     ·have hwant:Region.wanted o (yielded ops a.tmps)=true:=by
       unfold ag9 at hgs;simp[Region.wanted,hg,yielded,hgs,hw]
      rw[if_pos hwant];obtain⟨hb,apu⟩:=Tc NA _ _ _ _ _ hguard hw;subst hb;have hok':ok=true:=by simpa using hok
      have c:Ctx E S asm a w ι ro:=⟨NA,apu,kR,Ny,hfresh⟩
      refine(am5 c hO hop hok').wp fun val w' ι' ro' hp=>hK val w' ι' ro' ?_ fun tm au5=>?_
      ·have:=hp.az0;grind
      ·have e:=au5 gs want v rfl;refine⟨fun _=>hp.val,fun hne=>?_⟩;rw[e]at hne;exact absurd hw hne
     ·have hwant:¬ Region.wanted o (yielded ops a.tmps)=true:=by
       unfold ag9 at hgs;simp only[Region.wanted,hg,yielded,hgs,Option.bind_some];grind
      rw[if_neg hwant];refine hK undef w ι ro (.pure rfl rfl kR hfresh (.any _)) fun tm au5=>?_
      have e:=au5 gs want v rfl;refine⟨fun hc=>?_,fun _=>rfl⟩;rw[e]at hc;exact absurd hc hw
    ·cases h
theorem sW.frame{gh:Gh}{xs:List Value}(h:sW w gh xs)(hf:∀g,gh.blk=some g->w'.heap[g]? = w.heap[g]?):sW w' gh xs:=by
 rcases h with⟨⟨h1,h2⟩,hb⟩ | h
 ·refine .inl ⟨⟨h1,?_⟩,hb⟩;rcases h2 with hn | ⟨g,cap,cur,hv,hb',hg,rest⟩
  ·exact .inl hn
  ·have hblk:gh.blk=some g:=by rw[hb,hv];rfl
   grind
 ·exact .inr h
theorem kE.step{objs:List (Nat×aU E)}{dY:Nat}{r:gK E}{val:Value}(hp:gy E w w' ι ι' ro ro' dY r val)(hfresh:ι dY=none)(hinj:Inj E objs ι)(wT:∀id o,r.upd=some (id,o)->∃o',look objs id=some o'/\o'.live=true)
  (hilt:∀id gh k,ι id=some gh->gh.blk=some k->k<w.heap.size) {id:Nat} {o:aU E} (hl:look objs id=some o) (hid:id≠dY) (hne:∀o',r.upd≠some (id,o')) (h:kE E w ro ι id o):kE E w' ro' ι' id o:=by
 have hext:∀id gh,ι id=some gh->ι' id=some gh:=by intro i gh hi;rw[hp.ni i (fun e=>by subst e;rw[hfresh]at hi;cases hi)];exact hi
 have mono:∀(v:Value) (x:AV E),aO E w ro ι v x->aO E w' ro' ι' v x:=fun v x h=>h.mono hp.mono hp.cell hext
 have QO:o.live=true->∀gh k,ι id=some gh->gh.blk=some k->(∀id' o' bE,r.upd=some (id',o')->ι id'=some bE->bE.blk≠some k):=by intro hlive gh k hgh hk id' o' bE hu QS hk';obtain⟨o'',hl'',ayu⟩:=wT id' o' hu;have:=hinj id id' o o'' gh bE k hl hl'' hlive ayu hgh QS hk hk';subst this;exact hne o' hu
 cases o with
 | dead=>trivial
 | box cs =>
  obtain⟨gh,g,vs,e,hi,hgv,hblk,hh,hsz,hcell,iF,hge⟩:=h;have acW:=hilt id gh g hi hblk;have hd:=QO rfl gh g hi hblk;refine⟨gh,g,vs,e,hext _ _ hi,hgv,hblk,(hp.frame g acW hd).trans hh,hsz,fun j v c hv hc=>⟨(hcell j v c hv hc).1,mono _ _ (hcell j v c hv hc).2⟩,fun o hr=>?_,hge⟩;rcases hp.fresh g o hr with h | h | ⟨id',o',bE,hu,QS,hk'⟩
  ·exact iF o h
  ·omega
  ·exact hd id' o' bE hu QS hk'
 | tail live =>
  intro hlive;obtain⟨gh,xs,hi,hown,iF⟩:=h hlive;have hd:=fun k hk=>QO hlive gh k hi hk
  refine⟨gh,xs,hext _ _ hi,?_,fun g hg o ho hr=>?_⟩
  ·exact hown.frame fun g hg=>hp.frame g (hilt id gh g hi hg) (hd g hg)
  ·rcases hp.fresh g o hr with h | h | ⟨id',o',bE,hu,QS,hk'⟩
   ·exact iF g hg o ho h
   ·have:=hilt id gh g hi hg;omega
   ·exact hd g hg id' o' bE hu QS hk'
 | arr t l fz =>
  obtain⟨hagg,gh,g,vs,e,hi,hgv,hblk,hh,hsz,hcell,iF,hge⟩:=h;have acW:=hilt id gh g hi hblk;have hd:=QO rfl gh g hi hblk;refine⟨hagg,gh,g,vs,e,hext _ _ hi,hgv,hblk,(hp.frame g acW hd).trans hh,hsz,fun j v c hv hc=>⟨(hcell j v c hv hc).1,mono _ _ (hcell j v c hv hc).2⟩,⟨fun hf o hr=>?_,fun hf o ho=>hp.mono _ _ (iF.2 hf o ho)⟩,hge⟩;rcases hp.fresh g o hr with h | h | ⟨id',o',bE,hu,QS,hk'⟩
  ·exact iF.1 hf o h
  ·omega
  ·exact hd id' o' bE hu QS hk'
 | X6 =>obtain⟨gh,g,hi,hblk,hh⟩:=h;exact⟨gh,g,hext _ _ hi,hblk,(hp.frame g (hilt id gh g hi hblk) (QO rfl gh g hi hblk)).trans hh⟩
 | lp st pend n tm ps assign body =>
  obtain⟨gh,g,rec,hi,hblk,hh,hrec,NA⟩:=h;exact⟨gh,g,rec,hext _ _ hi,hblk,(hp.frame g (hilt id gh g hi hblk) (QO rfl gh g hi hblk)).trans hh,hrec,fun t x hl=>by obtain⟨v,q1,q2⟩:=NA t x hl;exact⟨v,q1,mono _ _ q2⟩⟩
 | mp K V l =>
  obtain⟨gh,g,es,hi,hgv,hblk,hh,hsz,hent⟩:=h;exact⟨gh,g,es,hext _ _ hi,hgv,hblk,(hp.frame g (hilt id gh g hi hblk) (QO rfl gh g hi hblk)).trans hh,hsz,fun j e x he hx=>by obtain⟨k1,k2,k3,k4⟩:=hent j e x he hx;exact⟨k1,k2,k3,fun i v c hv hc=>⟨(k4 i v c hv hc).1,mono _ _ (k4 i v c hv hc).2⟩⟩⟩
 | row t l =>
  obtain⟨gh,xs,hi,hn,hge,hgs,hown,hrow,iF⟩:=h;have hd:=fun k hk=>QO rfl gh k hi hk
  refine⟨gh,xs,hext _ _ hi,hn,hge,hgs,hown.frame fun g hg=>hp.frame g (hilt id gh g hi hg) (hd g hg),hrow.mono hp.mono hp.cell,fun g hg o hr=>?_⟩;rcases hp.fresh g o hr with h | h | ⟨id',o',bE,hu,QS,hk'⟩
  ·exact iF g hg o h
  ·have:=hilt id gh g hi hg;omega
  ·exact hd g hg id' o' bE hu QS hk'
theorem Ux{objs:List (Nat×aU E)}{dY:Nat}{T:TypeId}{s x:AV E}{r:gK E}(h:Eu objs dY T s x=some r){id:Nat}{ob:aU E}(hu:r.upd=some (id,ob)):∃o',look objs id=some o'/\o'.live=true:=by
 unfold Eu at h;split at h
 ·split at h
  ·split at h
   ·split at h
    ·cases h;cases hu
    ·split at h
     ·rename_i hc eD;cases h;cases hu;exact⟨_,eD,rfl⟩
     ·cases h
    ·split at h
     ·rename_i t' l1 eD;split at h
      ·cases h;cases hu;exact⟨_,eD,rfl⟩
      ·cases h
     ·cases h
    ·cases h
   ·cases h
  ·cases h
 ·cases h
theorem au6{O:aR E}{S:aI E}{asm:List (Nat×Bool)}{o:Op}{r:gK E}(h:kQ O S asm o=some r){id:Nat}{ob:aU E}(hu:r.upd=some (id,ob)):∃o',look S.objs id=some o'/\o'.live=true:=by
 cases o with
 | store T x y =>
  simp only[kQ]at h;split at h
  ·rename_i u hu';cases h;cases hu;unfold Ib at hu';split at hu'
   ·rename_i id' off hx;split at hu'
    ·rename_i cs eD;split at hu'
     ·split at hu'
      ·cases hu';exact⟨_,eD,rfl⟩
      ·cases hu'
     ·cases hu'
    ·cases hu'
   ·split at hu'
    ·rename_i t l eD;split at hu'
     ·split at hu'
      ·split at hu'
       ·split at hu'
        ·cases hu';exact⟨_,eD,rfl⟩
        ·cases hu'
       ·cases hu'
      ·cases hu'
     ·cases hu'
    ·cases hu'
   ·cases hu'
  ·split at h
   ·rename_i ok u hu';cases h;cases hu;unfold QD at hu';split at hu'
    ·split at hu'
     ·rename_i eD;split at hu'
      ·split at hu'
       ·split at hu'
        ·cases hu';exact⟨_,eD,rfl⟩
        ·cases hu'
       ·cases hu'
      ·cases hu'
     ·cases hu'
    ·cases hu'
   ·cases h
 | lookup T x i ok =>
  simp only[kQ]at h;split at h
  ·cases h;cases hu
  ·obtain⟨q,hq,rfl⟩:=fZ h;cases hu
 | mapUpdate T m i x =>
  simp only[kQ]at h;split at h
  ·rename_i u hu';cases h;cases hu;unfold QJ at hu';cases hu'
  ·cases h
 | makeMap T n =>
  cases n with
  | none =>simp only[kQ]at h;unfold Nu at h;cases h
  | some _=>cases h
 | makeSlice T n c =>simp only[kQ]at h;unfold aaM at h;cases h
 | call cl =>
  obtain⟨callee,as,ts⟩:=cl;simp only[kQ]at h;split at h
  ·split at h
   ·obtain⟨q,hq,rfl⟩:=fZ h;cases hu
   ·cases h
  ·split at h
   ·split at h
    ·exact Ux h hu
    ·unfold Nt at h;split at h
     ·split at h
      ·split at h
       ·split at h
        ·exact Ux h hu
        ·cases h
       ·cases h
      ·cases h
     ·cases h
   ·cases h
  ·split at h
   ·cases h;cases hu
   ·cases h;cases hu
   ·cases h
  ·split at h
   ·unfold aaK at h;cases h
   ·cases h;cases hu
   ·cases h
  ·split at h
   ·cases h;cases hu
   ·cases h
  ·split at h
   ·cases h;cases hu
   ·cases h
  ·split at h
   ·cases h;cases hu
   ·cases h
  ·split at h
   ·split at h
    ·unfold aaN at h;cases h
    ·cases h
   ·cases h
  ·split at h
   ·obtain⟨q,hq,rfl⟩:=fZ h;cases hu
   ·cases h
  ·split at h
   ·obtain⟨q,hq,rfl⟩:=fZ h;cases hu
   ·cases h
  ·split at h
   ·rename_i f hf;split at h
    ·rename_i q hq;cases h;rw[(aeM hq).1]at hu;cases hu
    split at h
    ·rename_i q hq;cases h;unfold WU at hq;split at hq
     ·cases hq
     ·split at hq
      ·split at hq
       ·rename_i eD;split at hq
        ·split at hq
         ·split at hq
          ·cases hq;cases hu;exact⟨_,eD,rfl⟩
          ·cases hq
         ·cases hq
        ·cases hq
       ·cases hq
      ·cases hq
    split at h
    ·rename_i q hq;cases h;unfold WS at hq;cases hq
    split at h
    ·rename_i q hq;cases h;unfold W9 at hq;split at hq
     ·cases hq;cases hu
     ·cases hq
    split at h
    ·rename_i q hq;cases h;unfold Xa at hq;split at hq
     ·split at hq
      ·rename_i t l eD;split at hq
       ·split at hq
        ·cases hq;cases hu;exact⟨_,eD,rfl⟩
        ·cases hq;cases hu;exact⟨_,eD,rfl⟩
        ·cases hq
       ·cases hq
      ·cases hq
     ·split at hq
      ·split at hq
       ·split at hq
        ·split at hq
         ·cases hq;cases hu
         ·cases hq
        ·cases hq
       ·cases hq
      ·cases hq
     ·cases hq
    split at h
    ·rename_i q hq;cases h;unfold WX at hq;split at hq
     ·split at hq
      ·split at hq
       ·split at hq
        ·cases hq;cases hu
        ·cases hq
       ·cases hq
      ·cases hq
     ·cases hq
    ·split at h
     ·rename_i q hq;cases h;unfold WV at hq;cases hq
     split at h
     ·rename_i q hq;cases h;unfold WY at hq;split at hq
      ·split at hq
       ·split at hq
        ·cases hq;cases hu
        ·cases hq
       ·cases hq
      ·cases hq
     split at h
     ·rename_i q hq;cases h;unfold WZ at hq;cases hq
     ·unfold aaL at h;split at h
      ·rename_i xs hxs;cases hfr:O.Le f with
       | true =>
        rw[hfr]at h;simp only[cond_true]at h;split at h
        ·cases h;cases hu
        ·cases h
       | false =>
        rw[hfr]at h;simp only[cond_false]at h;split at h
        ·cases h;cases hu
        ·cases h
      ·cases h
   ·split at h
    ·rw[(aeM h).1]at hu;cases hu
    ·cases h
  ·cases h
 | alloc T =>
  simp only[kQ]at h;split at h
  ·split at h
   ·cases h;cases hu
   ·cases h
  ·cases h
 | box T x =>
  simp only[kQ]at h;split at h
  ·cases h;cases hu
  ·cases h
 | nilCheck x =>
  simp only[kQ]at h;split at h
  ·cases h;cases hu
  ·cases h;cases hu
  ·cases h;cases hu
  ·cases h;cases hu
  ·cases h
 | makeFunc f x y =>
  simp only[kQ]at h;split at h
  ·cases h;cases hu
  ·cases h
 | move x=>cases h;cases hu
 | assign x=>cases h;cases hu
 | pick x y z=>obtain⟨q,hq,rfl⟩:=fZ h;cases hu
 | build T ps=>obtain⟨q,hq,rfl⟩:=fZ h;cases hu
 | buildSlice T n ps =>
  simp only[kQ]at h;split at h
  ·rename_i q hq;cases h;unfold FX at hq;split at hq
   ·split at hq
    ·split at hq
     ·cases hq;cases hu
     ·cases hq
    ·cases hq
   ·cases hq
  ·split at h
   ·cases h;cases hu
   ·unfold KS at h;cases h
 | load T x =>
  simp only[kQ]at h;split at h
  ·cases h;cases hu
  ·obtain⟨q,hq,rfl⟩:=fZ h;cases hu
 | binOp op T x y T' =>
  simp only[kQ]at h;split at h
  ·cases h;cases hu
  ·split at h
   ·cases h;cases hu
   ·obtain⟨q,hq,rfl⟩:=fZ h;cases hu
 | unOp op T x=>obtain⟨q,hq,rfl⟩:=fZ h;cases hu
 | convert s d x=>obtain⟨q,hq,rfl⟩:=fZ h;cases hu
 | fieldAddr s x f=>obtain⟨q,hq,rfl⟩:=fZ h;cases hu
 | field s x f=>obtain⟨q,hq,rfl⟩:=fZ h;cases hu
 | indexAddr T x i =>
  simp only[kQ]at h;split at h
  ·cases h;cases hu
  ·split at h
   ·cases h;cases hu
   ·obtain⟨q,hq,rfl⟩:=fZ h;cases hu
 | index T x i =>
  simp only[kQ]at h;split at h
  ·cases h;cases hu
  ·obtain⟨q,hq,rfl⟩:=fZ h;cases hu
 | slice T x l hh m =>
  simp only[kQ]at h;split at h
  ·cases h;cases hu
  ·split at h
   ·cases h;cases hu
   ·obtain⟨q,hq,rfl⟩:=fZ h;cases hu
 | extract x i=>obtain⟨q,hq,rfl⟩:=fZ h;cases hu
 | _=>cases h
theorem Xh{O:aR E}{ops:Array Oper}{S:aI E}{o:Oper}{r:gK E}(h:evG O ops S o=some r){id:Nat}{ob:aU E}(hu:r.upd=some (id,ob)):∃o',look S.objs id=some o'/\o'.live=true:=by
 unfold evG at h;split at h
 ·exact au6 (Uw h).1 hu
 grind
theorem Base.step{w0:Start}{aP:Nat->Nat->Prop}(hb:Base w0 aP a w ι ro){dY:Nat}{r:gK E}{val:Value}(hp:gy E w w' ι ι' ro ro' dY r val)(hfresh:ι dY=none)(d:Option Nat):Base w0 aP (a.put d val) w' ι' ro' where
 below:=⟨hp.os.trans hb.below.os,hp.tape.trans hb.below.tape,hp.output.trans hb.below.output,Nat.le_trans hb.below.size hp.size,fun k hk hne=>(hp.frame k (afg hk hb.below.size) (fun id o gh _ hi hblk=>by
  rcases(hb.uZ id gh k hi hblk).1 with h | h
  ·have h:w0.w.heap.size<=k:=h;omega
  ·exact hne h.symm)).trans (hb.below.block k hk hne)⟩
 aZ:=hp.aZ
 rU:=fun k o h=>by
  rcases hp.fresh k o h with h | h | ⟨id,o',gh,_,hi,hblk⟩
  ·exact hb.rU k o h
  ·exact .inr (.inl (Nat.le_trans hb.below.size h))
  ·exact .inr (hb.uZ id gh k hi hblk).1
 uZ:=fun id gh k hi hblk=>by
  by_cases hid:id=dY
  ·subst hid;obtain⟨h1,h2⟩:=hp.sZ gh k hi hblk;refine⟨?_,h1⟩;rcases h2 with h | ⟨id',o',bE,_,_,hi',hblk'⟩
   ·exact .inl (Nat.le_trans hb.below.size h)
   ·exact(hb.uZ id' bE k hi' hblk').1
  ·rw[hp.ni id hid]at hi;obtain⟨h1,h2⟩:=hb.uZ id gh k hi hblk;exact⟨h1,afg h2 hp.size⟩
 defers:=by have:=hb.defers;cases d<;>exact this
 keep:=fun q hq=>by obtain⟨h1,h2⟩:=hb.keep q hq;refine⟨fun k o h=>⟨hp.mono k o (h1 k o h).1,(hp.cell k o (h1 k o h).1).trans (h1 k o h).2⟩,fun id gh h=>?_⟩;have h3:=h2 id gh h;rw[hp.ni id (fun e=>by subst e;rw[hfresh]at h3;cases h3)];exact h3
 held:=fun k o h=>by
  obtain⟨h1,h2⟩:=hb.held k o h;refine⟨(hp.frame k (Array.getElem?_eq_some_iff.1 h1).1 fun id o gh _ hi=>h2 id gh hi).trans h1,fun id gh hi hblk=>?_⟩;by_cases hid:id=dY
  ·subst hid;rcases(hp.sZ gh k hi hblk).2 with h | ⟨id',o',bE,_,_,hi',hblk'⟩
   ·grind
   ·exact h2 id' bE hi' hblk'
  ·rw[hp.ni id hid]at hi;exact h2 id gh hi hblk
theorem F5:∀(loc:List (Nat×AV E)) (d:Nat),Ey d loc=true->∀t gs want u,(t,Et.cond gs want u)∈loc->gs≠d
 | [],_,_,t,gs,want,u,h=>by cases h
 | (t0,x)::r,d,hc,t,gs,want,u,h=>by
  cases h with
  | head =>simp only[Ey,abK]at hc;intro e;subst e;simp at hc
  | tail _ h =>refine F5 r d ?_ t gs want u h;cases x<;>simp only[Ey,abK]at hc<;>first | exact hc | exact hc.2
theorem EW{a:Act}{d:Option Nat}{val:Value}{t:Nat}(h:d≠some t):(a.put d val).tmps[t]? = a.tmps[t]? := by
 cases d with
 | none=>rfl
 | some d =>
  have:d≠t:=fun e=>h (by rw[e])
  simp[Act.put,Array.getElem?_setIfInBounds_ne this]
theorem QT{a:Act}{d:Option Nat}{val:Value}:(a.put d val).tmps.size=a.tmps.size:=by cases d<;>simp[Act.put]
theorem CQ.tm{tm tm':Array Value}{v:Value}{x:AV E}(h:CQ E w ro ι tm v x)(he:∀gs want u,x = .cond gs want u->tm'[gs]? = tm[gs]?):CQ E w ro ι tm' v x:=by
 cases x with
 | cond gs want u =>have e:=he gs want u rfl;exact⟨fun hc=>h.1 (by rw[<- e];exact hc),fun hc=>h.2 (by rw[<- e];exact hc)⟩
 | _=>exact h
theorem yE.step{n:Nat}{loc glob:List (Nat×AV E)}(hsz:a.tmps.size=n)(NA:yE E w ro ι a (loc++glob))(hnc:aS glob){d:Option Nat}{x:AV E}{val:Value}(hd:QN n d ((0,x)::loc)=true)
  (hr:∀k o,ro k o->ro' k o) (hc:∀k o,ro k o->w'.cell? ⟨k,o,none⟩=w.cell? ⟨k,o,none⟩) (hi:∀id gh,ι id=some gh->ι' id=some gh) (QU:ah8 E w' ro' ι' a val x):yE E w' ro' ι' (a.put d val) (Kg d x loc++glob):=by
 have old:∀t y,d≠some t->look (loc++glob) t=some y->∃v,(a.put d val).tmps[t]? = some v/\CQ E w' ro' ι' (a.put d val).tmps v y:=by
  intro t y hne hl;obtain⟨v,hv,hs⟩:=NA t y hl;refine⟨v,(EW hne).trans hv,(hs.mono hr hc hi).tm fun gs want u e=>?_⟩;subst e;cases d with
  | none=>rfl
  | some d =>
   refine EW fun e=>?_
   cases e;have hmem:=j5 _ _ _ hl;rcases List.mem_append.1 hmem with h | h
   ·unfold QN at hd;simp only[abK]at hd;exact F5 _ _ hd.2 t gs want u (abD _ h) rfl
   ·have:=hnc _ h;simp[eF]at this
 intro t y hl;cases d with
 | none=>exact old t y (fun e=>by cases e) hl
 | some d =>
  simp only[Kg,aft,bf]at hl;split at hl
  ·rename_i hdt;have hdt:=abe hdt;subst hdt;cases hl;unfold QN at hd;simp only[abK]at hd;have hlt:d<a.tmps.size:=by rw[hsz];simpa using hd.1
   refine⟨val,by simp[Act.put,hlt],QU _ fun gs want u e=>?_⟩;subst e;exact EW fun e=>by cases e;exact F5 _ _ hd.2 0 d want u abI rfl
  ·rename_i hdt;exact old t y (fun e=>by cases e;simp at hdt) hl
theorem Oe:∀(loc:List (Nat×AV E)) (t:Nat) (y:AV E),look (tC loc) t=some y->∃x,look loc t=some x/\(y = .any\/(y=x/\eF x=false))
 | [],t,y,h=>by cases h
 | (t0,x)::r,t,y,h=>by
  unfold tC at h;cases hx:eF x with
  | true =>
   rw[hx]at h;simp only[cond_true,bf]at h ⊢;split at h
   ·grind
   ·rename_i hb;rw[if_neg hb];exact Oe r t y h
  | false =>
   rw[hx]at h;simp only[cond_false,bf]at h ⊢;split at h
   ·grind
   ·rename_i hb;rw[if_neg hb];exact Oe r t y h
theorem D8:∀(loc:List (Nat×AV E)),aS (tC loc)
 | []=>fun p h=>by cases h
 | (t,x)::r=>fun p h=>by
  unfold tC at h;cases hx:eF x with
  | true =>
   rw[hx]at h;cases h with
   | head=>rfl
   | tail _ h=>exact D8 r p h
  | false =>
   rw[hx]at h;cases h with
   | head=>exact hx
   | tail _ h=>exact D8 r p h
theorem yE.clean{loc glob:List (Nat×AV E)}(NA:yE E w ro ι a (loc++glob)):yE E w ro ι a (tC loc++glob):=by
 intro t y hl;rw[nJ]at hl;cases hu:look (tC loc) t with
 | none =>
  rw[hu]at hl;have hnone:look loc t=none:=by
   cases hlo:look loc t with
   | none=>rfl
   | some x =>
    exfalso;have:∀(loc:List (Nat×AV E)),look loc t=some x->∀h:look (tC loc) t=none,False:=by
     intro loc
     induction loc with
     | nil=>intro h;cases h
     | cons p r ih =>
      obtain⟨t0,y0⟩:=p;intro h1 h2;unfold tC at h2;simp only[bf]at h1;split at h1
      ·rename_i hb;cases hx:eF y0<;>rw[hx]at h2<;>simp[bf,hb]at h2
      ·rename_i hb;cases hx:eF y0<;>rw[hx]at h2<;>simp only[cond_true,cond_false,bf,if_neg hb]at h2<;>exact ih h1 h2
    exact this loc hlo hu
  exact NA t y (by rw[nJ,hnone];exact hl)
 | some z =>
  rw[hu]at hl;cases hl;obtain⟨x,hx,h⟩:=Oe loc t y hu;obtain⟨v,hv,hs⟩:=NA t x (by rw[nJ,hx]);refine⟨v,hv,?_⟩;rcases h with rfl | ⟨rfl,hc⟩
  ·exact .any _
  ·exact hs
theorem JH{objs:List (Nat×aU E)}{dY:Nat}{r:gK E}{id:Nat}{o:aU E}(h:look (Od objs dY r) id=some o) :
  (r.new=some o/\id=dY)\/(r.upd=some (id,o)/\(id≠dY\/r.new=none))\/(look objs id=some o/\(id≠dY\/r.new=none)/\∀o',r.upd≠some (id,o')):=by
 unfold Od at h;have tail:∀(_:look ((match r.upd with | some u=>[u] | none=>[])++objs) id=some o),r.upd=some (id,o)\/(look objs id=some o/\∀o',r.upd≠some (id,o')):=by
  clear h;intro h;cases hu:r.upd with
  | none=>grind
  | some u =>
   obtain⟨i,ob⟩:=u;rw[hu]at h;simp only[aft,afn,bf]at h;by_cases hb:Nat.beq i id=true
   ·rw[if_pos hb]at h;have:=abe hb;subst this;cases h;exact .inl rfl
   ·rw[if_neg hb]at h;refine .inr ⟨h,fun o' e=>?_⟩;cases e;simp at hb
 cases hn:r.new with
 | none =>grind
 | some ob =>
  rw[hn]at h;simp only[aft,afn,bf]at h;split at h
  ·rename_i hb;have:=abe hb;grind
  ·rename_i hb;have hne:id≠dY:=fun e=>by subst e;simp at hb
   grind
end
section
variable {P:Program} {E:Env P} {w w':World} {ro ro':Nat->Nat->Prop} {ι ι':Nat->Option Gh} {a:Act}
theorem ah9{objs:List (Nat×aU E)}{dY:Nat}{r:gK E}{val:Value}(hp:gy E w w' ι ι' ro ro' dY r val)(hinj:Inj E objs ι)(wT:∀id o,r.upd=some (id,o)->∃o',look objs id=some o'/\o'.live=true)
  (hilt:∀id gh k,ι id=some gh->gh.blk=some k->k<w.heap.size) (lu:∀id o,look objs id=some o->o.live=true->id≠dY) (nH:List (Nat×aU E))
  (hl:∀id o,look nH id=some o->(r.new=some o/\id=dY)\/r.upd=some (id,o)\/(look objs id=some o/\∀o',r.upd≠some (id,o'))):Inj E nH ι':=by
 have key:∀id id' o o' gh bE k,(r.new=some o/\id=dY)->o.live=true->o'.live=true->(r.upd=some (id',o')\/(look objs id'=some o'/\∀o',r.upd≠some (id',o'))) ->
   ι' id=some gh->ι' id'=some bE->gh.blk=some k->bE.blk=some k->False:=by
  intro id id' o o' gh bE k ⟨hnew,hid⟩ hlive aia hother hi hi' hk hk';subst hid;obtain⟨q,hq,hql⟩:∃q,look objs id'=some q/\q.live=true:=by
   rcases hother with h | ⟨h,_⟩
   ·exact wT id' o' h
   ·exact⟨o',h,aia⟩
  have hne:=lu id' q hq hql;rw[hp.ni id' hne]at hi';have aGi:=hilt id' bE k hi' hk';obtain⟨_,h⟩:=hp.sZ gh k hi hk;rcases h with h | ⟨i0,ob,zi,hu,aCc,hi0,hk0⟩
  ·omega
  ·obtain⟨q0,hq0,aEp⟩:=wT i0 ob hu;have e:=hinj id' i0 q q0 bE zi k hq hq0 hql aEp hi' hi0 hk' hk0;subst e;rcases hother with h | ⟨_,h⟩
   ·rw[hu]at h;cases h;rw[aCc]at aia;cases aia
   ·exact h ob hu
 intro id id' o o' gh bE k h1 h2 l1 l2 i1 i2 b1 b2;have c1:=hl id o h1;have c2:=hl id' o' h2;rcases c1 with n1 | c1
 ·grind
 ·rcases c2 with n2 | c2
  ·exact(key id' id o' o bE gh k n2 l2 l1 c1 i2 i1 b2 b1).elim
  ·obtain⟨q1,hq1,hl1⟩:∃q,look objs id=some q/\q.live=true:=by
    rcases c1 with h | ⟨h,_⟩
    ·exact wT id o h
    ·exact⟨o,h,l1⟩
   obtain⟨q2,hq2,hl2⟩:∃q,look objs id'=some q/\q.live=true:=by
    rcases c2 with h | ⟨h,_⟩
    ·exact wT id' o' h
    ·exact⟨o',h,l2⟩
   rw[hp.ni id (lu id q1 hq1 hl1)]at i1;rw[hp.ni id' (lu id' q2 hq2 hl2)]at i2;exact hinj id id' q1 q2 gh bE k hq1 hq2 hl1 hl2 i1 i2 b1 b2
variable {w0:Start} {aP:Nat->Nat->Prop} {n next:Nat} {loc glob:List (Nat×AV E)} {objs:List (Nat×aU E)}
theorem gy.ext{dY:Nat}{r:gK E}{val:Value}(hp:gy E w w' ι ι' ro ro' dY r val)(hfresh:ι dY=none):∀id gh,ι id=some gh->ι' id=some gh:=by intro i gh hi;rw[hp.ni i (fun e=>by subst e;rw[hfresh]at hi;cases hi)];exact hi
theorem au7(hg:bO E w0 aP ⟨n,loc++glob,objs,next⟩ a w ι ro)(hnc:aS glob){d:Option Nat}{r:gK E}{val:Value}(hd:QN n d ((0,r.v)::loc)=true)
  (wT:∀id o,r.upd=some (id,o)->∃o',look objs id=some o'/\o'.live=true) (hp:gy E w w' ι ι' ro ro' next { r with v:=.any } val) (QU:ah8 E w' ro' ι' a val r.v) :
  bO E w0 aP ⟨n,Kg d r.v loc++glob,Od objs next r,next+1⟩ (a.put d val) w' ι' ro':=by
 have hfresh:=hg.fresh next (ab8 _);have hilt:∀id gh k,ι id=some gh->gh.blk=some k->k<w.heap.size:=fun id gh k h1 h2=>(hg.base.uZ id gh k h1 h2).2
 have lu:∀id o,look objs id=some o->id<next:=hg.ids;exact {
  base:=hg.base.step hp hfresh d
  size:=QT.trans hg.size
  tmps:=yE.step hg.size hg.tmps hnc hd hp.mono hp.cell (hp.ext hfresh) QU
  objs:=fun id o hl=>by
   rcases JH hl with⟨h1,h2⟩ | ⟨h1,_⟩ | ⟨h1,_,h3⟩
   ·subst h2;exact hp.new o h1
   ·exact hp.upd id o h1
   ·exact kE.step hp hfresh hg.inj wT hilt h1 (fun e=>by have:=lu id o h1;omega) h3 (hg.objs id o h1)
  inj:=ah9 hp hg.inj wT hilt (fun id o h _ e=>by have:=lu id o h;omega) _ (fun id o hl=>by
   rcases JH hl with h | ⟨h1,_⟩ | ⟨h1,_,h3⟩
   ·exact .inl h
   ·exact .inr (.inl h1)
   ·exact .inr (.inr ⟨h1,h3⟩))
  fresh:=fun id h=>by have h:next+1<=id:=h;rw[hp.ni id (by omega)];exact hg.fresh id (by show next<=id;omega)
  ids:=fun id o hl=>by
   show id<next+1;rcases JH hl with⟨_,h2⟩ | ⟨h1,_⟩ | ⟨h1,_,_⟩
   ·omega
   ·grind
   ·have:=lu id o h1;omega }
theorem ar2{I:Inl E}{S:aI E}{ro:Nat->Nat->Prop}{ι:Nat->Option Gh}(c:Ctx E S [] a w ι ro){o:Oper}{f:FuncId}{args:List (AV E)}(h:apt I S o=some (f,args)) :
  o.guard=none/\∃lJ as ts vs us p q,o.op = .call { callee:=.value lJ,args:=as,argTypes:=ts }/\a.eval lJ = .func (.func f) vs us/\args=p++(bW S.tmps [] as++q) /\
   vs.size=p.length/\us.size=q.length/\(∀(j:Nat) v c,vs[j]? = some v->p[j]? = some c->aO E w ro ι v c)/\(∀(j:Nat) v c,us[j]? = some v->q[j]? = some c->aO E w ro ι v c):=by
 unfold apt at h;split at h
 ·rename_i cc hg hop;obtain⟨callee,as,ts⟩:=cc;split at h
  ·rename_i x hx;have hx:callee = .value x:=hx;subst hx;split at h
   ·rename_i f' hf;have hfo:a.eval x = .func (.func f') #[] #[]:=by
     unfold Xb at hf;split at hf
     ·cases hf;rfl
     ·unfold funcOf at hf;split at hf
      ·rename_i heq;cases hf;have hx:=c.get x;rw[heq]at hx;exact hx.jT
      ·cases hf
    cases hh:I.has f' with
    | false=>rw[hh]at h;cases h
    | true =>rw[hh]at h;cases h;exact⟨hg,x,as,ts, #[], #[],[],[],hop,hfo,by simp,rfl,rfl,fun j v c hv=>by simp at hv,fun j v c hv=>by simp at hv⟩
   ·split at h
    ·rename_i f' p q heq;cases hh:I.has f' with
     | false=>rw[hh]at h;cases h
     | true =>
      rw[hh]at h;cases h;have hx:=c.get x;rw[heq]at hx;generalize iy:a.eval x=vx at hx;cases hx with
      | fn _ vs us _ _ h1 h2 h3 h4=>grind
    ·cases h
  ·cases h
 ·cases h
theorem az1(hg:bO E w0 aP ⟨n,loc++glob,objs,next⟩ a w ι ro)(hnc:aS glob){d:Option Nat}{x:AV E}{val:Value}(hd:QN n d ((0,x)::loc)=true)(hx:eF x=false)(hv:aO E w' ro' ι' val x)
  {nH:List (Nat×aU E)} {next':Nat} (hb:Base w0 aP a w' ι' ro') (ho:∀(id:Nat) o,look nH id=some o->kE E w' ro' ι' id o) (hi:Inj E nH ι') (hf:∀id,next'<=id->ι' id=none) (lu:∀id o,look nH id=some o->id<next')
  (hkeep:∀k o,ro k o->ro' k o/\w'.cell? ⟨k,o,none⟩=w.cell? ⟨k,o,none⟩) (hext:∀id gh,ι id=some gh->ι' id=some gh) :
  bO E w0 aP ⟨n,Kg d x loc++glob,nH,next'⟩ (a.put d val) w' ι' ro' where
 base:=⟨hb.below,hb.aZ,hb.rU,hb.uZ,(by have:=hb.defers;cases d<;>exact this),hb.keep,hb.held⟩
 size:=QT.trans hg.size
 tmps:=yE.step hg.size hg.tmps hnc hd (fun k o h=>(hkeep k o h).1) (fun k o h=>(hkeep k o h).2) hext fun tm _=>by cases x<;>first | exact hv | cases hx
 objs:=ho
 inj:=hi
 fresh:=hf
 ids:=lu
theorem IX{R:Type}{O:aR E}(hO:aJ E O){ops:Array Oper}(hnc:aS glob){k:aI E->Option R}{rr:R}{Q:Exit->Act->World->Prop}
  (hk:∀S' a' w' ι' ro',aS S'.tmps->bO E w0 aP S' a' w' ι' ro'->S'.n=n->k S'=some rr->Q .normal a' w') :
  ∀(l:List Oper) (loc:List (Nat×AV E)) (objs:List (Nat×aU E)) (next:Nat) (a:Act) (w:World) (ι:Nat->Option Gh) (ro:Nat->Nat->Prop),bO E w0 aP ⟨n,loc++glob,objs,next⟩ a w ι ro->nI O ops n glob l loc objs next k=some rr ->
   wpList P ops Q l a w
 | [],loc,objs,next,a,w,ι,ro,hg,h=>by
  unfold nI at h;refine wpList_nil (hk ⟨n,tC loc++glob,objs,next⟩ a w ι ro (fun p hp=>?_) ⟨hg.base,hg.size,hg.tmps.clean,hg.objs,hg.inj,hg.fresh,hg.ids⟩ rfl h);rcases List.mem_append.1 hp with hp | hp
  ·exact D8 loc p hp
  ·exact hnc p hp
 | o::rest,loc,objs,next,a,w,ι,ro,hg,h=>by
  unfold nI at h;split at h
  ·rename_i f args hin;have c:Ctx E ⟨n,loc++glob,objs,next⟩ [] a w ι ro:=⟨hg.tmps,fun j b hb=>by simp[uY]at hb,hg.base.aZ,hg.objs,hg.fresh _ (ab8 _)⟩
   obtain⟨hg0,lJ,as,ts,vs,us,p,q,hop,hfo,rfl,hp1,hq1,hp2,hq2⟩:=ar2 c hin;obtain⟨hfn,lQ⟩:=hO.2.2.2.2.1 _ _ _ _ _ _ h;refine wpList_step fun K hK=>?_
   rw[if_pos (show Region.wanted o (yielded ops a.tmps)=true by simp[Region.wanted,hg0])];unfold Oper.wp;rw[ah2 hop hfo hfn];refine(lQ w0 aP a w ι ro _ hg.base hg.objs hg.inj hg.fresh hg.ids (by simp[bW,hp1,hq1]) fun i v x hv hx=>?_).mono fun e w' he=>?_
   ·refine Xf (by simpa using hp1) (fun j v c h1 h2=>hp2 j v c (by simpa using h1) h2) (Xf (by simp[bW]) (fun j v x h1 h2=>Ut c as j v x (by simpa using h1) h2) fun j v c h1 h2=>hq2 j v c (by simpa using h1) h2) i v x hv hx
   ·obtain⟨v,x,nH,next',ι',ro',rfl,hk',hv,hb,ho,hi,hf,lu,hkeep,hext⟩:=he;split at hk'
    ·rename_i hd;simp only[abK,ah3]at hd;exact hK _ _ (IX hO hnc hk rest _ _ _ _ _ _ _ (az1 hg hnc hd.1 hd.2 hv hb ho hi hf lu hkeep hext) hk')
    ·cases hk'
  split at h
  ·rename_i r hr;split at h
   ·rename_i hd;cases hok:r.ok with
    | false=>rw[hok]at h;cases h
    | true =>
     rw[hok]at h;simp only[cond_true]at h;refine wpList_step fun K hK=>?_
     refine aeN (S:=⟨n,loc++glob,objs,next⟩) hg.base.aZ hg.tmps hg.objs (hg.fresh _ (ab8 _)) hO hr hok fun val w' ι' ro' hp QU=>?_
     refine hK _ _ (IX hO hnc hk rest _ _ _ _ _ _ _ (au7 hg hnc hd (fun id o hu=>Xh hr hu) hp QU) h)
   ·cases h
  ·cases h
end
section
variable {P:Program} (E:Env P)
structure gT where
 i:Nat
 pr:Nat
 dst:Option Nat
 x:AV E
 pV:List (Nat×aU E)
 cls:Nat
end
section
variable {P:Program} {E:Env P}
def aaZ(O:aR E):Op->Nat
 | .makeSlice _ _ _=>1
 | .makeMap _ _=>1
 | .buildSlice _ n _=>(match n with | 0=>1 | _=>0)
 | .alloc _=>1
 | .box _ _=>1
 | .load _ _=>1
 | .store _ _ _=>2
 | .mapUpdate _ _ _ _=>2
 | .call c=>match c.callee with
  | .builtin .append=>2
  | .builtin .copy=>2
  | .builtin .unsafeString=>2
  | .value (.func f)=>bif O.awV f||(O.auR f).isSome||(match O.cc with | some (f',_)=>Nat.beq f' f | none=>false)then 2 else bif O.Le f||(O.grow f).isSome||O.inl.has f then 1 else 0
  | _=>0
 | _=>0
def acX:List (gT E)->Nat->Option Nat
 | [],_=>none
 | e::r,j=>if Nat.beq e.i j then some e.pr else acX r j
def Ig(ents:List (gT E)):List Edge->Option Nat
 | []=>some 0
 | e::r=>match Ig ents r with
  | none=>none
  | some m=>match Region.binds .any e with
   | false=>some m
   | true=>match acX ents e.on with
    | some p=>some (m ||| (p ||| 2 ^ e.on))
    | none=>none
def AA(D:Nat->Bool):List (gT E)->List (Nat×AV E)
 | []=>[]
 | e::r=>bif D e.i then Kg e.dst e.x (AA D r)else AA D r
def jr(D:Nat->Bool)(objs:List (Nat×aU E)):List (gT E)->List (Nat×aU E)
 | []=>objs
 | e::r=>bif D e.i then e.pV++jr D objs r else jr D objs r
def KV(dY:Nat)(r:gK E):List (Nat×aU E):=Od [] dY r
def aa0(c pr:Nat):List (gT E)->Bool
 | []=>true
 | e::r=>(match c,e.cls with
  | 0,_=>true
  | _,0=>true
  | 1,_=>true
  | _,_=>Nat.testBit pr e.i)&&aa0 c pr r
def Xi(c:Nat)(r:gK E):Bool:=match c,r.upd,r.new with
 | 0,none,none=>true
 | 0,_,_=>false
 | 1,none,_=>true
 | 1,_,_=>false
 | _,_,_=>true
def aa1(n:Nat)(d:Option Nat)(x:AV E)(ents:List (gT E)):Bool:=match d with
 | none=>true
 | some d=>Nat.blt d n&&Ey d [(0,x)]&&ents.all fun e=>match e.dst with | some d'=>!Nat.beq d' d | none=>true
def Lx:Nat->Bool:=fun _=>true
def Pq(acc:List (Nat×Nat)):List Edge->Nat
 | []=>0
 | e::r=>match Region.binds .any e with
  | false=>Pq acc r
  | true=>match look acc e.on with
   | some p=>Pq acc r ||| (p ||| 2 ^ e.on)
   | none=>Pq acc r
def QV:List Oper->Nat->List (Nat×Nat)->List (Nat×Nat)
 | [],_,acc=>acc
 | o::r,i,acc=>QV r (i+1) ((i,Pq acc o.after.toList)::acc)
def QW(ops:Array Oper):List (Nat×Nat):=QV ops.toList 0 []
def QX(l:List Oper)(j:Nat):Bool:=l.any fun o=>match o.guard with | some (g,_)=>Nat.beq g j | none=>false
def aib(tab:List (Nat×Nat))(i j:Nat):Bool:=match look tab j with
 | some p=>Nat.testBit p i
 | none=>false
def D9(tab:List (Nat×Nat))(all:List Oper)(i:Nat):List Oper->Nat->List (Nat×AV E)
 | [],_=>[]
 | o::r,j=>match aib tab i j&&!(QX all j)with
  | true=>D9 tab all i r (j+1)
  | false=>Kg o.dst .any (D9 tab all i r (j+1))
def aic:List (gT E)->Bool
 | []=>false
 | e::r=>(match e.cls with | 0=>false | 1=>false | _=>true)||aic r
def aa2:List (gT E)->List Nat
 | []=>[]
 | e::r=>e.pV.map (·.1)++aa2 r
def mem1:List Nat->Nat->Bool
 | [],_=>false
 | i::r,j=>Nat.beq i j||mem1 r j
def aa3(ids:List Nat):List (Nat×aU E)->List (Nat×aU E)
 | []=>[]
 | (i,o)::r=>match mem1 ids i with
  | true=>aa3 ids r
  | false=>(i,o)::aa3 ids r
def JI(c pr:Nat)(objs:List (Nat×aU E))(ents:List (gT E)):List (Nat×aU E):=match c with
 | 0=>[]
 | 1=>(match aic ents with
  | true=>aa3 (aa2 ents) objs
  | false=>jr (Nat.testBit pr) objs ents)
 | _=>jr (Nat.testBit pr) objs ents
def KW(O:aR E)(ops:Array Oper)(n:Nat)(glob:List (Nat×AV E))(next i:Nat)(o:Oper)(pr:Nat)(ents:List (gT E)):Nat:=match o.op with
 | .load _ _=>(match evG O ops ⟨n,AA (Nat.testBit pr) ents++(D9 (QW ops) ops.toList i ops.toList 0++glob),[],next+i⟩ o with
  | some r=>(match Xi 0 r with | true=>0 | false=>1)
  | none=>1)
 | op=>aaZ O op
theorem au8(O:aR E)(o:Op):aaZ O o=0\/aaZ O o=1\/aaZ O o=2:=by unfold aaZ;grind
theorem au9{O:aR E}{ops:Array Oper}{n:Nat}{glob:List (Nat×AV E)}{next i:Nat}{o:Oper}{pr:Nat}{ents:List (gT E)}:KW O ops n glob next i o pr ents=0\/KW O ops n glob next i o pr ents=1\/KW O ops n glob next i o pr ents=2:=by
 unfold KW;split
 ·split
  ·split<;>simp
  ·simp
 ·exact au8 _ _
def LA{R:Type}(O:aR E)(ops:Array Oper)(n:Nat)(glob:List (Nat×AV E))(objs:List (Nat×aU E))(next:Nat):List Oper->List (gT E)->Nat->(aI E->Option R)->Option R
 | [],ents,i,k=>k ⟨n,tC (AA Lx ents)++glob,jr Lx objs ents,next+i⟩
 | o::rest,ents,i,k=>match Ig ents o.after.toList with
  | none=>none
  | some pr=>match aa0 (KW O ops n glob next i o pr ents) pr ents with
   | false=>none
   | true=>match evG O ops ⟨n,AA (Nat.testBit pr) ents++(D9 (QW ops) ops.toList i ops.toList 0++glob),(JI (KW O ops n glob next i o pr ents) pr objs ents),next+i⟩ o with
    | none=>none
    | some r=>match Xi (KW O ops n glob next i o pr ents) r&&aa1 n o.dst r.v ents with
     | false=>none
     | true=>bif r.ok then LA O ops n glob objs next rest (⟨i,pr,o.dst,r.v,KV (next+i) r,KW O ops n glob next i o pr ents⟩::ents) (i+1) k else none
def zK(n:Nat)(ops:Array Oper)(glob:List (Nat×AV E))(objs:List (Nat×aU E))(c pr dY i:Nat)(ents:List (gT E)):aI E :=
 ⟨n,AA (Nat.testBit pr) ents++(D9 (QW ops) ops.toList i ops.toList 0++glob),(JI c pr objs ents),dY⟩
def Ea(O:aR E)(ops:Array Oper)(n:Nat)(glob:List (Nat×AV E))(objs:List (Nat×aU E))(next:Nat)(e:gT E)(r:List (gT E)):Prop :=
 e.i=r.length/\∃o res,ops[e.i]? = some o/\Ig r o.after.toList=some e.pr/\aa0 e.cls e.pr r=true/\evG O ops (zK n ops glob objs e.cls e.pr (next+e.i) e.i r) o=some res /\
  Xi e.cls res=true/\aa1 n o.dst res.v r=true/\res.ok=true/\e.dst=o.dst/\e.x=res.v/\e.pV=KV (next+e.i) res/\(e.cls=0\/e.cls=1\/e.cls=2)
def gN(O:aR E)(ops:Array Oper)(n:Nat)(glob:List (Nat×AV E))(objs:List (Nat×aU E))(next:Nat):List (gT E)->Prop
 | []=>True
 | e::r=>gN O ops n glob objs next r/\Ea O ops n glob objs next e r
section
variable {O:aR E} {ops:Array Oper} {n next:Nat} {glob:List (Nat×AV E)} {objs:List (Nat×aU E)}
theorem Ya{R:Type}{k:aI E->Option R}{rr:R}:∀(rest pre:List Oper) (ents:List (gT E)) (i:Nat),ops.toList=pre++rest->pre.length=i->ents.length=i->gN O ops n glob objs next ents ->
  LA O ops n glob objs next rest ents i k=some rr->∃L,gN O ops n glob objs next L/\L.length=ops.size/\k ⟨n,tC (AA Lx L)++glob,jr Lx objs L,next+ops.size⟩=some rr
 | [],pre,ents,i,hl,hi,he,hok,h=>by unfold LA at h;grind
 | o::rest,pre,ents,i,hl,hi,he,hok,h=>by
  unfold LA at h;split at h
  ·cases h
  ·rename_i pr hpr;split at h
   ·cases h
   ·rename_i hcls;split at h
    ·cases h
    ·rename_i r hr;split at h
     ·cases h
     ·rename_i hres;simp only[abK]at hres;cases hk:r.ok with
      | false=>rw[hk]at h;cases h
      | true =>
       rw[hk]at h;simp only[cond_true]at h;have ho:ops[i]? = some o:=by rw[<- Array.getElem?_toList,hl,aeF (by omega),hi,Nat.sub_self];rfl
       exact Ya rest (pre++[o]) (⟨i,pr,o.dst,r.v,KV (next+i) r,KW O ops n glob next i o pr ents⟩::ents) (i+1) (by rw[hl];simp) (by simp[hi]) (by simp[he])
        ⟨hok,he.symm,o,r,ho,hpr,hcls,hr,hres.1,hres.2,hk,rfl,rfl,rfl,au9⟩ h
theorem gN.split{pre r:List (gT E)}{e:gT E}(h:gN O ops n glob objs next (pre++e::r)):gN O ops n glob objs next (e::r):=by
 induction pre with
 | nil=>exact h
 | cons p pre ih=>exact ih h.1
theorem gN.lt{L:List (gT E)}(h:gN O ops n glob objs next L):∀e∈L,e.i<L.length:=by
 induction L with
 | nil=>intro e he;cases he
 | cons p r ih =>
  intro e he;simp only[List.length_cons];cases he with
  | head=>have:=h.2.1;omega
  | tail _ he=>have:=ih h.1 e he;omega
theorem gN.uniq{L:List (gT E)}(h:gN O ops n glob objs next L):∀e∈L, ∀e'∈L,e.i=e'.i->e=e':=by
 induction L with
 | nil=>intro e he;cases he
 | cons p r ih =>
  intro e he e' he' hi;cases he with
  | head =>
   cases he' with
   | head=>rfl
   | tail _ he'=>have:=h.1.lt e' he';have:=h.2.1;omega
  | tail _ he =>
   cases he' with
   | head=>have:=h.1.lt e he;have:=h.2.1;omega
   | tail _ he'=>exact ih h.1 e he e' he' hi
theorem gN.has{L:List (gT E)}(h:gN O ops n glob objs next L):∀j,j<L.length->∃e∈L,e.i=j:=by
 induction L with
 | nil=>intro j hj;simp at hj
 | cons p r ih =>
  intro j hj;simp only[List.length_cons]at hj;by_cases hjr:j<r.length
  ·obtain⟨e,he,hi⟩:=ih h.1 j hjr;exact⟨e,abD _ he,hi⟩
  ·exact⟨p,abI,by have:=h.2.1;omega⟩
theorem aie:∀{r:List (gT E)} {j p:Nat},acX r j=some p->∃e∈r,e.i=j/\e.pr=p
 | [],_,_,h=>by cases h
 | e::r,j,p,h=>by
  unfold acX at h;split at h
  ·rename_i hb;cases h;exact⟨e,abI,abe hb,rfl⟩
  ·obtain⟨e',he',h1,h2⟩:=aie h;grind
theorem Og:∀{r:List (gT E)} {es:List Edge} {m:Nat},Ig r es=some m ->
  (∀j,Nat.testBit m j=true->∃ed∈es,Region.binds .any ed=true/\∃e∈r,e.i=ed.on/\(j=ed.on\/Nat.testBit e.pr j=true))/\(∀ed∈es,Region.binds .any ed=true->Nat.testBit m ed.on=true/\∃e∈r,e.i=ed.on)
 | r,[],m,h=>by cases h;grind
 | r,ed::es,m,h=>by
  unfold Ig at h;split at h
  ·cases h
  ·rename_i m' hm;obtain⟨h1,h2⟩:=Og hm;split at h
   ·grind
   ·rename_i hb;split at h
    ·rename_i p hp;cases h;obtain⟨e,he,hei,hep⟩:=aie hp;grind
    ·cases h
theorem QY{d:Nat}{x:AV E}{ents:List (gT E)}(h:aa1 n (some d) x ents=true):d<n/\(∀gs want u,x = .cond gs want u->gs≠d)/\∀e∈ents,e.dst≠some d:=by
 unfold aa1 at h;simp only[abK,afE]at h;obtain⟨⟨h1,h2⟩,h3⟩:=h;refine⟨by simpa using h1,fun gs want u e=>?_,fun e he hd=>?_⟩
 ·subst e;exact F5 _ _ h2 0 gs want u abI
 ·have:=h3 e he;rw[hd]at this;simp at this
theorem gN.aif{L:List (gT E)}(h:gN O ops n glob objs next L):∀e∈L, ∀e'∈L, ∀d,e.dst=some d->e'.dst=some d->e=e':=by
 induction L with
 | nil=>intro e he;cases he
 | cons p r ih =>
  have key:∀e'∈r, ∀d,p.dst=some d->e'.dst=some d->False:=by intro e' he' d hd hd';obtain⟨hi,o,res,ho,hpr,_,_,_,hdn,_,hdst,_⟩:=h.2;rw[hdst]at hd;rw[hd]at hdn;exact(QY hdn).2.2 e' he' hd'
  intro e he e' he' d hd hd';cases he with
  | head =>grind
  | tail _ he =>
   cases he' with
   | head=>exact(key e he d hd' hd).elim
   | tail _ he'=>exact ih h.1 e he e' he' d hd hd'
theorem aeO{d:Option Nat}{x y:AV E}{loc:List (Nat×AV E)}{t:Nat}(h:look (Kg d x loc) t=some y):(d=some t/\y=x)\/(d≠some t/\look loc t=some y):=by
 cases d with
 | none=>exact .inr ⟨(fun e=>by cases e),h⟩
 | some d =>
  simp only[Kg,bf]at h;split at h
  ·rename_i hb;have:=abe hb;grind
  ·rename_i hb;exact .inr ⟨(fun e=>by cases e;simp at hb),h⟩
theorem JJ{D:Nat->Bool}:∀{L:List (gT E)} {t:Nat} {x:AV E},look (AA D L) t=some x->∃e∈L,D e.i=true/\e.dst=some t/\x=e.x
 | [],_,_,h=>by cases h
 | e::r,t,x,h=>by
  unfold AA at h;cases hd:D e.i with
  | false =>rw[hd]at h;obtain⟨e',he',rest⟩:=JJ h;grind
  | true =>
   rw[hd]at h;rcases aeO h with⟨h1,h2⟩ | ⟨_,h⟩
   ·grind
   ·obtain⟨e',he',rest⟩:=JJ h;grind
theorem Ih{D:Nat->Bool}:∀{L:List (gT E)} {t:Nat},look (AA D L) t=none->∀e∈L,D e.i=true->e.dst≠some t
 | [],_,_,e,he,_=>by cases he
 | p::r,t,h,e,he,hD=>by
  unfold AA at h;cases hd:D p.i with
  | false =>
   rw[hd]at h;cases he with
   | head=>rw[hd]at hD;cases hD
   | tail _ he=>exact Ih h e he hD
  | true =>
   rw[hd]at h;simp only[cond_true]at h;have h2:p.dst≠some t/\look (AA D r) t=none:=by
    cases hp:p.dst with
    | none=>rw[hp]at h;exact⟨(fun e=>by cases e),h⟩
    | some d =>
     rw[hp]at h;simp only[Kg,bf]at h;split at h
     ·cases h
     ·rename_i hb;exact⟨(fun e=>by cases e;simp at hb),h⟩
   cases he with
   | head=>exact h2.1
   | tail _ he=>exact Ih h2.2 e he hD
theorem KX{tab:List (Nat×Nat)}{all:List Oper}{i:Nat}:∀{l:List Oper} {j t:Nat} {x:AV E},look (D9 tab all i l j) t=some x->x = .any/\∃o∈l,o.dst=some t
 | [],_,_,_,h=>by cases h
 | o::r,j,t,x,h=>by
  unfold D9 at h;split at h
  ·obtain⟨h1,o',ho',h2⟩:=KX h;grind
  ·rcases aeO h with⟨h1,h2⟩ | ⟨_,h⟩
   ·exact⟨h2,o,abI,h1⟩
   ·obtain⟨h1,o',ho',h2⟩:=KX h;grind
theorem Ah{tab:List (Nat×Nat)}{all:List Oper}{i:Nat}:∀{l:List Oper} {j t:Nat},look (D9 (E:=E) tab all i l j) t=none->∀(m:Nat) o,l[m]? = some o->o.dst=some t->aib tab i (j+m)=true/\QX all (j+m)=false
 | [],_,_,_,m,o,hm,_=>by simp at hm
 | p::r,j,t,h,m,o,hm,hd=>by
  unfold D9 at h;split at h
  ·rename_i hb;simp only[abK,ah3]at hb;cases m with
   | zero=>exact hb
   | succ m =>have:=Ah h m o (by simpa using hm) hd;grind
  ·have h2:p.dst≠some t/\look (D9 (E:=E) tab all i r (j+1)) t=none:=by
    cases hp:p.dst with
    | none=>rw[hp]at h;exact⟨(fun e=>by cases e),h⟩
    | some d =>
     rw[hp]at h;simp only[Kg,bf]at h;split at h
     ·cases h
     ·rename_i hb;exact⟨(fun e=>by cases e;simp at hb),h⟩
   cases m with
   | zero=>simp at hm;subst hm;exact absurd hd h2.1
   | succ m =>have:=Ah h2.2 m o (by simpa using hm) hd;grind
theorem aii:∀(a b:List Oper) (i:Nat) (acc:List (Nat×Nat)),QV (a++b) i acc=QV b (i+a.length) (QV a i acc)
 | [],b,i,acc=>by simp[QV]
 | o::a,b,i,acc=>by simp only[aft,QV,List.length_cons];rw[aii a b];congr 1;omega
def Pt(L:List (gT E)):List (Nat×Nat):=L.map fun e=>(e.i,e.pr)
theorem aij:∀(L:List (gT E)) (j:Nat),acX L j=look (Pt L) j
 | [],_=>rfl
 | e::r,j=>by
  simp only[acX,Pt,afu,bf];split
  ·rfl
  ·exact aij r j
theorem Yb(L:List (gT E)):∀(es:List Edge) (p:Nat),Ig L es=some p->Pq (Pt L) es=p
 | [],p,h=>by cases h;rfl
 | e::r,p,h=>by
  unfold Ig at h;unfold Pq;split at h
  ·cases h
  ·rename_i m hm;have ih:=Yb L r m hm;split at h
   ·cases h;exact ih
   ·rename_i hb;split at h
    ·rename_i q hq;cases h;rw[aij]at hq;rw[hq];simp only[ih]
    ·cases h
theorem aik:∀(L:List (gT E)),gN O ops n glob objs next L->L.length<=ops.size->QV (ops.toList.take L.length) 0 []=Pt L
 | [],_,_=>rfl
 | e::r,h,hl=>by
  obtain⟨h1,hi,o,res,ho,hpr,_⟩:=h;have hl':r.length<ops.size:=by rw[List.length_cons]at hl;omega
  have ih:=aik r h1 (by omega);rw[hi]at ho;have ho':ops.toList[r.length]? = some o:=by simpa using ho
  have hlt:r.length<ops.toList.length:=by simpa using hl'
  rw[List.length_cons,afJ hlt,aii,ih];have hog:ops.toList[r.length]=o:=by rw[aaO hlt]at ho';exact Option.some.inj ho'
  rw[hog];simp only[QV,acu,afr];rw[Nat.min_eq_left (by omega),Yb r _ _ hpr,<- hi];rfl
theorem gN.tab{L:List (gT E)}(h:gN O ops n glob objs next L)(hlen:L.length=ops.size):∀e∈L,look (QW ops) e.i=some e.pr:=by
 have ht:=aik L h (by omega);rw[hlen,aeV (by simp)]at ht;unfold QW;rw[ht];have key:∀(M:List (gT E)),gN O ops n glob objs next M->∀e∈M,look (Pt M) e.i=some e.pr:=by
  intro M
  induction M with
  | nil=>intro _ e he;cases he
  | cons p r ih =>
   intro hM e he;simp only[Pt,afu,bf];rcases am8.1 he with rfl | he
   ·rw[if_pos (by simp)]
   ·have h1:=hM.1.lt e he;have h2:=hM.2.1;rw[if_neg (by simp;omega)];exact ih hM.1 e he
 exact key L h
end
end
section
variable {P:Program} {E:Env P} {O:aR E} {ops:Array Oper} {n next:Nat} {glob:List (Nat×AV E)} {objs:List (Nat×aU E)}
theorem QZ{e:gT E}{r:List (gT E)}(h:Ea O ops n glob objs next e r)(hc:e.cls=0):e.pV=[]:=by
 obtain⟨hi,o,res,ho,hpr,_,_,hres,hdn,_,hdst,_,heff,hcls⟩:=h;rw[hc]at hres;rw[heff];cases hu:res.upd with
 | some u=>simp[Xi,hu]at hres
 | none =>
  cases hn:res.new with
  | some o=>simp[Xi,hu,hn]at hres
  | none=>simp[KV,Od,hu,hn]
theorem ail{e:gT E}{r:List (gT E)}(h:Ea O ops n glob objs next e r)(hc:e.cls=1):e.pV=[]\/∃o,e.pV=[(next+e.i,o)]:=by
 obtain⟨hi,o,res,ho,hpr,_,_,hres,hdn,_,hdst,_,heff,hcls⟩:=h;rw[hc]at hres;rw[heff];cases hu:res.upd with
 | some u=>simp[Xi,hu]at hres
 | none =>
  cases hn:res.new with
  | none=>left;simp[KV,Od,hu,hn]
  | some o=>right;exact⟨o,by simp[KV,Od,hu,hn]⟩
theorem ayv{e:gT E}{r:List (gT E)}(h:Ea O ops n glob objs next e r):e.cls=0\/e.cls=1\/e.cls=2:=by obtain⟨hi,o,res,ho,hpr,_,_,hres,hdn,_,hdst,_,heff,hcls⟩:=h;exact hcls
theorem NC:∀{c pr:Nat} {r:List (gT E)},aa0 c pr r=true->∀e∈r,c=2->e.cls≠0->Nat.testBit pr e.i=true
 | _,_,[],_,e,he=>by cases he
 | c,pr,p::r,h,e,he=>by
  unfold aa0 at h;simp only[abK]at h;cases he with
  | tail _ he=>exact NC h.2 e he
  | head =>grind
theorem ain:∀{r:List (gT E)},aic r=false->∀e∈r,e.cls=0\/e.cls=1
 | [],_,e,he=>by cases he
 | p::r,h,e,he=>by
  unfold aic at h;simp only[Bool.or_eq_false_iff]at h;cases he with
  | tail _ he=>exact ain h.2 e he
  | head =>grind
theorem ar3{l:List Nat}{i:Nat}(h:i∈l):mem1 l i=true:=by
 induction l with
 | nil=>cases h
 | cons a t ih =>
  unfold mem1;cases h with
  | head=>simp
  | tail _ h=>rw[ih h,afZ]
theorem BN{ids:List Nat}:∀{l:List (Nat×aU E)} {id:Nat} {o:aU E},look (aa3 ids l) id=some o->look l id=some o/\mem1 ids id=false
 | [],_,_,h=>by cases h
 | (i,x)::r,id,o,h=>by
  unfold aa3 at h;cases hm:mem1 ids i with
  | true =>
   rw[hm]at h;obtain⟨h1,h2⟩:=BN h;refine⟨?_,h2⟩;rw[bf];have hne:Nat.beq i id=false:=by
    cases hb:Nat.beq i id with
    | false=>rfl
    | true=>have:=abe hb;subst this;rw[hm]at h2;cases h2
   rw[hne];exact h1
  | false =>
   rw[hm]at h;rw[bf]at h ⊢;split at h
   ·rename_i hb;have:=abe hb;grind
   ·rename_i hb;rw[if_neg hb];exact BN h
theorem LB:∀{l:List (Nat×aU E)} {id:Nat},id∉l.map (·.1)->look l id=none
 | [],_,_=>rfl
 | (i,x)::r,id,h=>by rw[bf];rw[if_neg (fun hb=>h (by have:=abe hb;subst this;exact abI))];exact LB (fun hm=>h (abD _ hm))
theorem apv{r:List (gT E)}{x:gT E}(hx:x∈r){id:Nat}(h:id∈x.pV.map (·.1)):id∈aa2 r:=by
 induction r with
 | nil=>cases hx
 | cons p r ih =>unfold aa2;grind
theorem Ii{D:Nat->Bool}{id:Nat}{r:List (gT E)}:∀{pre:List (gT E)},(∀x∈pre,D x.i=true->look x.pV id=none)->look (jr D objs (pre++r)) id=look (jr D objs r) id
 | [],_=>rfl
 | p::pre,h=>by
  have ih:=Ii (r:=r) (pre:=pre) (fun x hx=>h x (abD _ hx));simp only[aft,jr];cases hd:D p.i with
  | false=>exact ih
  | true =>simp only[cond_true];rw[nJ,h p abI hd];exact ih
theorem gN.at_{pre r:List (gT E)}{e:gT E}(h:gN O ops n glob objs next (pre++e::r)):Ea O ops n glob objs next e r:=h.split.2
theorem gN.IY{L:List (gT E)}(h:gN O ops n glob objs next L){e:gT E}(he:e∈L):∃pre r,L=pre++e::r/\Ea O ops n glob objs next e r:=by obtain⟨pre,r,rfl⟩:=anh he;exact⟨pre,r,rfl,h.at_⟩
theorem aio{D:Nat->Bool}:∀{pre l:List (gT E)},(∀e∈pre,D e.i=true->e.pV=[])->jr D objs (pre++l)=jr D objs l
 | [],l,_=>rfl
 | p::pre,l,h=>by simp only[aft,jr];rw[aio (pre:=pre) (fun e he=>h e (abD _ he))];grind
theorem KY{D D':Nat->Bool}:∀{r:List (gT E)},(∀e∈r,e.pV≠[]->D e.i=D' e.i)->jr D objs r=jr D' objs r
 | [],_=>rfl
 | p::r,h=>by simp only[jr];rw[KY (r:=r) (fun e he=>h e (abD _ he))];grind
theorem Yc{D D':Nat->Bool}{e:gT E}{r:List (gT E)}:∀{pre:List (gT E)} (_:∀x∈pre,D' x.i=D x.i) (_:∀x∈r,D' x.i=D x.i) (_:D e.i=false) (_:D' e.i=true)
  (_:∀x∈pre,D x.i=true->∀p∈x.pV, ∀q∈e.pV,p.1≠q.1) (id:Nat),look (jr D' objs (pre++e::r)) id=(match look e.pV id with | some o=>some o | none=>look (jr D objs (pre++e::r)) id)
 | [],_,hr,he,he',_,id=>by simp only[afn,jr,he,he',cond_true,cond_false];rw[KY (D:=D') (D':=D) (fun x hx _=>hr x hx),nJ];cases look e.pV id<;>rfl
 | p::pre,hp,hr,he,he',hd,id=>by
  have ih:=Yc (D:=D) (D':=D') (e:=e) (r:=r) (pre:=pre) (fun x hx=>hp x (abD _ hx)) hr he he' (fun x hx=>hd x (abD _ hx)) id;simp only[aft,jr];rw[hp p abI];cases hD:D p.i with
  | false=>simpa using ih
  | true =>
   simp only[cond_true];rw[nJ,nJ,ih];cases hpe:look p.pV id with
   | none=>rfl
   | some o =>
    have hm:=j5 _ _ _ hpe;cases hq:look e.pV id with
    | none=>rfl
    | some q =>have hm':=j5 _ _ _ hq;grind
theorem Uy{D:Nat->Bool}:∀{L:List (gT E)},(∀e∈L,D e.i=true->e.pV=[]\/∃o,e.pV=[(next+e.i,o)])->∀{id:Nat} {o:aU E},look (jr D objs L) id=some o ->
  (∃e∈L,D e.i=true/\e.pV=[(id,o)])\/look objs id=some o
 | [],_,id,o,h=>.inr h
 | p::r,hs,id,o,h=>by
  have ih:=Uy (D:=D) (L:=r) (fun e he=>hs e (abD _ he)) (id:=id) (o:=o);have lift:((∃e∈r,D e.i=true/\e.pV=[(id,o)])\/look objs id=some o)->(∃e∈p::r,D e.i=true/\e.pV=[(id,o)])\/look objs id=some o:=by grind
  simp only[jr]at h;cases hd:D p.i with
  | false=>rw[hd]at h;exact lift (ih h)
  | true =>
   rw[hd]at h;simp only[cond_true]at h;rcases hs p abI hd with he | ⟨ob,he⟩
   ·rw[he]at h;exact lift (ih h)
   ·rw[he]at h;simp only[aft,afn,bf]at h;split at h
    ·rename_i hb;have:=abe hb;grind
    ·exact lift (ih h)
theorem gN.pairwise{L:List (gT E)}(h:gN O ops n glob objs next L):L.Pairwise fun e e'=>e.i≠e'.i:=by
 induction L with
 | nil=>exact .nil
 | cons p r ih=>exact .cons (fun e he=>by have:=h.1.lt e he;have:=h.2.1;omega) (ih h.1)
theorem Uz{D:Nat->Bool}:∀{L:List (gT E)},(∀e∈L,D e.i=true->e.pV=[]\/∃o,e.pV=[(next+e.i,o)])->L.Pairwise (fun e e'=>e.i≠e'.i)->(∀id o,look objs id=some o->id<next) ->
  ∀{id:Nat} {o:aU E},((∃e∈L,D e.i=true/\e.pV=[(id,o)])\/look objs id=some o)->look (jr D objs L) id=some o
 | [],_,_,_,id,o,h=>by
  rcases h with⟨e,he,_⟩ | h
  ·cases he
  ·exact h
 | p::r,hs,hu,lu,id,o,h=>by
  cases hu with
  | cons hu1 hu2 =>
   have ih:=Uz (D:=D) (L:=r) (fun e he=>hs e (abD _ he)) hu2 lu (id:=id) (o:=o);simp only[jr];have hrest:(p.pV=[(id,o)]/\D p.i=true)\/(((∃e∈r,D e.i=true/\e.pV=[(id,o)])\/look objs id=some o)):=by grind
   cases hd:D p.i with
   | false =>grind
   | true =>
    simp only[cond_true];rcases hrest with⟨h,_⟩ | h
    ·rw[h];simp[bf]
    ·rcases hs p abI hd with he | ⟨ob,he⟩
     ·rw[he];exact ih h
     ·rw[he];simp only[aft,afn,bf];rw[if_neg]
      ·exact ih h
      ·intro hb;have hid:=abe hb;grind
theorem LC{L:List (gT E)}(hL:gN O ops n glob objs next L)(lu:∀id o,look objs id=some o->id<next)(D:Nat->Bool):∀id o,look (jr D objs L) id=some o->id<next+L.length:=by
 induction L generalizing D with
 | nil=>intro id o h;have:=lu id o h;simp;omega
 | cons p r ih =>
  intro id o h;simp only[jr]at h;simp only[List.length_cons];cases hd:D p.i with
  | false=>rw[hd]at h;have:=ih hL.1 D id o h;omega
  | true =>
   rw[hd]at h;simp only[cond_true]at h;rw[nJ]at h;cases hp:look p.pV id with
   | none=>rw[hp]at h;have:=ih hL.1 D id o h;omega
   | some q =>
    obtain⟨hi,op,res,_,_,_,hev,_,_,_,_,_,heff,_⟩:=hL.2;rw[heff]at hp;rcases JH hp with⟨_,h2⟩ | ⟨h1,_⟩ | ⟨h1,_⟩
    ·omega
    ·obtain⟨o',h2,_⟩:=Xh hev h1;simp only[zK,JI]at h2;split at h2
     ·cases h2
     ·split at h2
      ·have:=lu id o' (BN h2).1;omega
      ·have:=ih hL.1 _ id o' h2;omega
     ·have:=ih hL.1 _ id o' h2;omega
    ·cases h1
theorem ar4{r:List (gT E)}(hLr:gN O ops n glob objs next r)(lu:∀id o,look objs id=some o->id<next){c pr id:Nat}{o:aU E}(h:look (JI c pr objs r) id=some o):id<next+r.length:=by
 unfold JI at h;split at h
 ·cases h
 ·split at h
  ·have:=lu id o (BN h).1;omega
  ·exact LC hLr lu _ id o h
 ·exact LC hLr lu _ id o h
theorem ar5{dY:Nat}{r:gK E}{q:Nat×aU E}(h:q∈KV dY r):q.1=dY\/∃o,r.upd=some (q.1,o):=by unfold KV Od at h;grind
theorem apw{L:List (gT E)}(hL:gN O ops n glob objs next L){pre r:List (gT E)}{e:gT E}(hsplit:L=pre++e::r)(he:Ea O ops n glob objs next e r){D:Nat->Bool}(hD:D e.i=false)(lu:∀id o,look objs id=some o->id<next)
  (hclosed:∀x∈L,D x.i=true->∀j,Nat.testBit x.pr j=true->D j=true) (hpr:∀j,Nat.testBit e.pr j=true->D j=true) {id:Nat} {o:aU E} (h:look (JI e.cls e.pr objs r) id=some o) :
  look (jr D objs L) id=some o:=by
 have he0:=he;obtain⟨hi,op,res,ho,aGj,hck,_,_,_,_,_,_,_,hcl⟩:=he;have hck:=NC hck;have hLr:gN O ops n glob objs next r:=by rw[hsplit]at hL;exact hL.split.1
 have hcls:e.cls≠0:=fun h0=>by rw[h0]at h;cases h
 have hid:id<next+e.i:=by
  rw[hi];unfold JI at h;split at h
  ·cases h
  ·split at h
   ·have:=lu id o (BN h).1;omega
   ·exact LC hLr lu _ id o h
  ·exact LC hLr lu _ id o h
 have hsub:∀x∈r,x∈L:=fun x hx=>by rw[hsplit];exact List.mem_append_right _ (abD _ hx)
 have aip:∀x∈L,x.cls=0\/x.cls=1->x.pV=[]\/∃o,x.pV=[(next+x.i,o)]:=by
  intro x hx hc;obtain⟨p1,p2,_,hx'⟩:=hL.IY hx;rcases hc with hc | hc
  ·exact .inl (QZ hx' hc)
  ·exact ail hx' hc
 have hpre:∀x∈pre,D x.i=true->look x.pV id=none:=by
  intro x hx HY;have hxL:x∈L:=by rw[hsplit];exact List.mem_append_left _ hx
  obtain⟨p1,p2,rfl⟩:=anh hx;have hx':Ea O ops n glob objs next x (p2++e::r):=by refine gN.at_ (pre:=p1) ?_;rw[hsplit]at hL;simpa using hL
  have hxi:=hx'.1;simp only[List.length_append,List.length_cons]at hxi;obtain⟨_,op',res',_,_,az2,_,_,_,_,_,_,_,hcl'⟩:=hx';have az2:=NC az2 e (by simp);obtain⟨_,_,_,hx''⟩:=hL.IY hxL;have aFh:x.cls=0\/x.cls=1->look x.pV id=none:=by
   intro hc;rcases aip x hxL hc with h | ⟨o',h⟩
   ·rw[h];rfl
   ·rw[h];exact LB (by simp;omega)
  grind
 rw[hsplit,Ii hpre];simp only[jr,hD,cond_false];by_cases h2:e.cls=2
 ·
  rw[h2]at h;have h:look (jr (Nat.testBit e.pr) objs r) id=some o:=h;rw[KY (D:=D) (D':=Nat.testBit e.pr) (fun x hx hne=>?_)]
  ·exact h
  ·have hb:=hck x hx h2 (fun hc=>hne (by
    obtain⟨p1,p2,_,hx'⟩:=hL.IY (hsub x hx);exact QZ hx' hc))
   rw[hb,hpr _ hb]
 ·have h1:e.cls=1:=by
   grind
  rw[h1]at h;simp only[JI]at h;cases h2:aic r with
  | false =>
   rw[h2]at h;have hr1:=ain h2;have hpw:r.Pairwise (fun e e'=>e.i≠e'.i):=hLr.pairwise;refine Uz (D:=D) (L:=r) (fun x hx _=>aip x (hsub x hx) (hr1 x hx)) hpw lu ?_;rcases Uy (D:=Nat.testBit e.pr) (L:=r) (fun x hx _=>aip x (hsub x hx) (hr1 x hx)) h with⟨x,hx,hb,heff⟩ | h
   ·exact .inl ⟨x,hx,hpr _ hb,heff⟩
   ·exact .inr h
  | true =>
   rw[h2]at h;obtain⟨h3,h4⟩:=BN h;have:=Ii (D:=D) (objs:=objs) (id:=id) (r:=[]) (pre:=r) (fun x hx _=>LB (fun hm=>by rw[ar3 (apv hx hm)]at h4;cases h4))
   rw[acg]at this;rw[this];exact h3
end
section
variable {P:Program} {E:Env P} {O:aR E} {ops:Array Oper} {n next:Nat} {glob:List (Nat×AV E)} {objs:List (Nat×aU E)} {w0:Start} {aP:Nat->Nat->Prop}
structure Inv (E:Env P) (w0:Start) (aP:Nat->Nat->Prop) (ops:Array Oper) (n next:Nat) (glob:List (Nat×AV E)) (objs:List (Nat×aU E)) (L:List (gT E)) (D:Nat->Bool) (a:Act) (w:World) (ι:Nat->Option Gh) (ro:Nat->Nat->Prop):Prop where
 base:Base w0 aP a w ι ro
 size:a.tmps.size=n
 slots:∀e∈L,D e.i=true->∀t,e.dst=some t->∃v,a.tmps[t]? = some v/\CQ E w ro ι a.tmps v e.x
 gl:∀t x,look glob t=some x->(∀e∈L,e.dst=some t->D e.i=false)->∃v,a.tmps[t]? = some v/\CQ E w ro ι a.tmps v x
 ob:∀id o,look (jr D objs L) id=some o->kE E w ro ι id o
 inj:Inj E (jr D objs L) ι
 fresh:∀id,next<=id->ι id≠none->∃e∈L,D e.i=true/\id=next+e.i
 closed:∀e∈L,D e.i=true->∀j,Nat.testBit e.pr j=true->D j=true
theorem kE.ayw{w:World}{ro:Nat->Nat->Prop}{ι:Nat->Option Gh}{id:Nat}{o:aU E}(h:o.live=false):kE E w ro ι id o:=by
 cases o with
 | dead=>trivial
 | tail l=>intro hl;simp only[aU.live]at h;rw[h]at hl;cases hl
 | _=>cases h
theorem kE.ghost{w:World}{ro:Nat->Nat->Prop}{ι:Nat->Option Gh}{id:Nat}{o:aU E}(h:kE E w ro ι id o)(hl:o.live=true):ι id≠none:=by
 cases o with
 | dead=>cases hl
 | box cs=>obtain⟨gh,_,_,_,hi,_⟩:=h;rw[hi];simp
 | tail l=>obtain⟨gh,_,hi,_⟩:=h hl;rw[hi];simp
 | row t l=>obtain⟨gh,_,hi,_⟩:=h;rw[hi];simp
 | X6=>obtain⟨gh,_,hi,_⟩:=h;rw[hi];simp
 | arr _ _ _=>obtain⟨_,gh,_,_,_,hi,_⟩:=h;rw[hi];simp
 | _=>obtain⟨gh,_,_,hi,_⟩:=h;rw[hi];simp
theorem apx{e:gT E}{r:List (gT E)}(he:Ea O ops n glob objs next e r){gs:Nat}{want:Bool}{u:AV E}(hx:e.x = .cond gs want u):∃g∈r,Nat.testBit e.pr g.i=true/\g.dst=some gs:=by
 obtain⟨hi,o,res,ho,hpr,_,hev,_,_,_,_,hex,_⟩:=he;rw[hex]at hx;unfold evG at hev;split at hev
 ·
  have h2:=(Uw hev).2;rw[hx]at h2;cases h2
 ·rename_i j want' hg;split at hev
  ·cases hev
  ·rename_i gs' hgs;split at hev
   ·cases hev
   ·rename_i b asm hguard;split at hev
    ·cases hev;cases hx;have hl:∃y,look (zK n ops glob objs e.cls e.pr (next+e.i) e.i r).tmps gs=some y/\y ≠ .any:=by
      unfold guardOf at hguard;grind
     obtain⟨y,hy,hne⟩:=hl;simp only[zK]at hy;rw[nJ]at hy;cases hs:look (AA (Nat.testBit e.pr) r) gs with
     | some z =>obtain⟨g,hg1,hg2,hg3,_⟩:=JJ hs;exact⟨g,hg1,hg2,hg3⟩
     | none =>
      rw[hs,nJ]at hy;simp only at hy;cases hh:look (D9 (E:=E) (QW ops) ops.toList e.i ops.toList 0) gs with
      | some z =>rw[hh]at hy;cases hy;exact absurd (KX hh).1 hne
      | none =>
       exfalso;unfold ag9 at hgs;cases hj:ops[j]? with
       | none=>rw[hj]at hgs;cases hgs
       | some oj =>
        rw[hj]at hgs;have h1:=(Ah hh j oj (by simpa using hj) (by simpa using hgs)).2;rw[afr]at h1;have h2:QX ops.toList j=true:=by unfold QX;rw[List.any_eq_true];exact⟨o,Array.mem_toList_iff.2 (Array.mem_of_getElem? ho),by rw[hg];simp⟩
        rw[h2]at h1;cases h1
    ·cases hev
theorem ayx{L:List (gT E)}(hL:gN O ops n glob objs next L)(hlen:L.length=ops.size):∀o∈ops.toList, ∃e∈L,e.dst=o.dst/\∀t,o.dst=some t->t<n:=by
 intro o ho;obtain⟨j,hj⟩:=List.getElem?_of_mem ho;have hj':ops[j]? = some o:=by simpa using hj
 have hlt:j<ops.size:=(Array.getElem?_eq_some_iff.1 hj').1;obtain⟨e,he,hei⟩:=hL.has j (by omega);obtain⟨pre,r,_,hi,op,res,hop,_,_,_,_,hdn,_,hdst,_⟩:=hL.IY he;rw[hei,hj']at hop;cases hop;refine⟨e,he,hdst,fun t ht=>?_⟩;rw[ht]at hdn;exact(QY hdn).1
theorem ava(hO:aJ E O){L:List (gT E)}(hL:gN O ops n glob objs next L)(hlen:L.length=ops.size)(hnc:aS glob)(lu:∀id o,look objs id=some o->id<next){D D':Nat->Bool}{a:Act}{w:World}{ι:Nat->Option Gh}{ro:Nat->Nat->Prop}
  (hinv:Inv E w0 aP ops n next glob objs L D a w ι ro) {e:gT E} (heL:e∈L) (hDe:D e.i=false) {o:Oper} (ho:ops[e.i]? = some o) (aiq:∀ed∈o.after.toList,Region.binds .any ed=true->D ed.on=true)
  (hD':∀j,D' j=true↔(D j=true\/j=e.i)) {K:Act->World->Prop} {Q:Exit->Act->World->Prop} (hK:∀a' w' ι' ro',Inv E w0 aP ops n next glob objs L D' a' w' ι' ro'->K a' w') :
  if Region.wanted o (yielded ops a.tmps)=true then o.wp P a w K Q else K (a.put o.dst undef) w:=by
 obtain⟨pre,r,hsplit,hent⟩:=hL.IY heL;have apy:=hent;obtain⟨hi,o',res,ho',hpr,hck,hev,hres,hdn,hok,hdst,hex,heff,hcls⟩:=hent;rw[ho]at ho';cases ho';have hrL:∀x∈r,x∈L:=fun x hx=>by rw[hsplit];exact List.mem_append_right _ (abD _ hx)
 have avb:∀j,Nat.testBit e.pr j=true->D j=true:=by
  intro j hj;obtain⟨ed,hed,hb,x,hx,hxi,hj'⟩:=(Og hpr).1 j hj;have HY:D ed.on=true:=aiq ed hed hb;rcases hj' with rfl | hj'
  ·exact HY
  ·exact hinv.closed x (hrL x hx) (by rw[hxi];exact HY) j hj'
 have hfresh:ι (next+e.i)=none:=by
  cases hgh:ι (next+e.i)with
  | none=>rfl
  | some gh =>exfalso;obtain⟨x,hx,HY,hid⟩:=hinv.fresh (next+e.i) (by omega) (by rw[hgh];simp);have:=hL.uniq e heL x hx (by omega);subst this;rw[hDe]at HY;cases HY
 have Ny:∀id ob,look (zK n ops glob objs e.cls e.pr (next+e.i) e.i r).objs id=some ob->look (jr D objs L) id=some ob:=by intro id ob hl;simp only[zK]at hl;exact apw hL hsplit apy hDe lu hinv.closed avb hl
 have NA:yE E w ro ι a (zK n ops glob objs e.cls e.pr (next+e.i) e.i r).tmps:=by
  intro t x hl;simp only[zK]at hl;rw[nJ]at hl;cases hs:look (AA (Nat.testBit e.pr) r) t with
  | some z =>rw[hs]at hl;cases hl;obtain⟨g,hg1,hg2,hg3,hg4⟩:=JJ hs;rw[hg4];exact hinv.slots g (hrL g hg1) (avb _ hg2) t hg3
  | none =>
   rw[hs,nJ]at hl;simp only at hl;cases hh:look (D9 (E:=E) (QW ops) ops.toList e.i ops.toList 0) t with
   | some z =>
    rw[hh]at hl;cases hl;obtain⟨hz,op,hop,aEq⟩:=KX hh;subst hz;obtain⟨_,_,_,hlt⟩:=ayx hL hlen op hop;have hlt:=hlt t aEq;have hsz:t<a.tmps.size:=by rw[hinv.size];exact hlt
    exact⟨a.tmps[t],afm hsz,.any _⟩
   | none =>
    rw[hh]at hl;refine hinv.gl t x hl fun x' hx' hd'=>?_
    obtain⟨p1,p2,aGk,hx2⟩:=hL.IY hx';obtain⟨_,op,_,hop,_,_,_,_,_,_,hdd,_⟩:=hx2;have h1:=(Ah hh x'.i op (by simpa using hop) (by rw[<- hdd];exact hd')).1;rw[afr]at h1;unfold aib at h1;rw[hL.tab hlen x' hx']at h1;cases HY:D x'.i with
    | false=>rfl
    | true =>have:=hinv.closed x' hx' HY e.i h1;rw[hDe]at this;cases this
 refine aeN (S:=zK n ops glob objs e.cls e.pr (next+e.i) e.i r) hinv.base.aZ NA (fun id ob hl=>hinv.ob id ob (Ny id ob hl)) hfresh hO hev hok fun val w' ι' ro' hp QU=>?_
 have wT:∀id ob,res.upd=some (id,ob)->∃o',look (jr D objs L) id=some o'/\o'.live=true:=by intro id ob hu;obtain⟨o',h1,h2⟩:=Xh hev hu;exact⟨o',Ny id o' h1,h2⟩
 have hilt:∀id gh k,ι id=some gh->gh.blk=some k->k<w.heap.size:=fun id gh k h1 h2=>(hinv.base.uZ id gh k h1 h2).2
 have hext:=hp.ext hfresh;have ar6:∀x∈L,x.i≠e.i->D' x.i=D x.i:=by
  intro x _ hne;cases hd:D x.i with
  | true=>exact(hD' x.i).2 (.inl hd)
  | false =>
   cases hd':D' x.i with
   | false=>rfl
   | true =>
    rcases(hD' x.i).1 hd' with h | h
    ·rw[hd]at h;cases h
    ·exact absurd h hne
 have hlive:∀id ob,look (jr D objs L) id=some ob->ob.live=true->id≠next+e.i:=by intro id ob hl hlv he;subst he;exact(hinv.ob _ ob hl).ghost hlv hfresh
 have az4:∀x∈L,x≠e->x.i≠e.i:=fun x hx hne hi=>hne (hL.uniq x hx e heL hi)
 have apz:∀x∈pre,x.i≠e.i:=by intro x hx;have hp':=hL.pairwise;rw[hsplit,List.pairwise_append]at hp';exact hp'.2.2 x hx e abI
 have hrI:∀x∈r,x.i≠e.i:=by
  intro x hx;have hp':=hL.pairwise;rw[hsplit,List.pairwise_append]at hp';cases hp'.2.1 with
  | cons h1 _=>exact fun h=>h1 x hx h.symm
 have awY:∀id ob,look (jr D' objs L) id=some ob->look e.pV id=some ob\/(look e.pV id=none/\look (jr D objs L) id=some ob):=by
  intro id ob hl;rw[hsplit]at hl;rw[Yc (D:=D) (D':=D') (e:=e) (r:=r) (pre:=pre) (fun x hx=>ar6 x (by rw[hsplit];exact List.mem_append_left _ hx) (apz x hx)) (fun x hx=>ar6 x (hrL x hx) (hrI x hx)) hDe ((hD' e.i).2 (.inr rfl)) ?_ id]at hl
  ·rw[<- hsplit]at hl;cases hq:look e.pV id with
   | none=>rw[hq]at hl;exact .inr ⟨rfl,hl⟩
   | some q=>rw[hq]at hl;cases hl;exact .inl rfl
  ·
   intro x hx HY p hp q hq heq;have hxL:x∈L:=by rw[hsplit];exact List.mem_append_left _ hx
   obtain⟨p1,p2,hsp,hx'⟩:=hL.IY hxL;have hcl0:e.cls≠0:=by intro h0;rw[QZ apy h0]at hq;cases hq
   have az5:e∈p2:=by
    have h1:e∈p1++x::p2:=by rw[<- hsp];exact heL
    have hxe:x.i > e.i:=by
     obtain⟨q1,q2,rfl⟩:=anh hx;have hxx:Ea O ops n glob objs next x (q2++e::r):=by refine gN.at_ (pre:=q1) ?_;rw[hsplit]at hL;simpa using hL
     have:=hxx.1;simp only[List.length_append,List.length_cons]at this;omega
    rcases List.mem_append.1 h1 with h | h
    ·exfalso;obtain⟨q1,q2,rfl⟩:=anh h;have hee:Ea O ops n glob objs next e (q2++x::p2):=by
      refine gN.at_ (pre:=q1) ?_;rw[hsp]at hL;simpa using hL
     have h2:=hee.1;have h3:=hx'.1;simp only[List.length_append,List.length_cons]at h2;omega
    ·cases h with
     | head=>exact absurd rfl (apz _ hx)
     | tail _ h=>exact h
   have hgt:e.i<x.i:=by
    obtain⟨q1,q2,hq⟩:=anh az5;have h1:gN O ops n glob objs next p2:=by rw[hsp]at hL;exact hL.split.1
    rw[hq]at h1;have h2:=h1.at_.1;have h3:=hx'.1;rw[hq]at h3;simp only[List.length_append,List.length_cons]at h3;omega
   obtain⟨_,opx,_,_,_,avc,_,_,_,_,_,_,_,aGl⟩:=hx';have avc:=NC avc e az5;obtain⟨_,_,_,hx''⟩:=hL.IY hxL;rcases ayv hx'' with h | h | h
   ·rw[QZ hx'' h]at hp;cases hp
   ·rcases ail hx'' h with h1 | ⟨o1,h1⟩
    ·rw[h1]at hp;cases hp
    ·rw[h1]at hp;simp only[List.mem_singleton]at hp;have hxe2:=apz x hx;have hpq:p.1=next+x.i:=by rw[hp]
     rw[heff]at hq;rcases ar5 hq with hq1 | ⟨o1,hq1⟩
     ·omega
     ·obtain⟨o2,hq2,_⟩:=Xh hev hq1;simp only[zK]at hq2;have:=ar4 (by rw[hsplit]at hL;exact hL.split.1) lu hq2;have:=apy.1;omega
   ·have:=hinv.closed x hxL HY e.i (avc h hcl0);rw[hDe]at this;cases this
 have awZ:∀id ob,look e.pV id=some ob->(res.new=some ob/\id=next+e.i)\/res.upd=some (id,ob):=by
  intro id ob hl;rw[heff]at hl;rcases JH hl with h | ⟨h,_⟩ | ⟨h,_⟩
  ·exact .inl h
  ·exact .inr h
  ·cases h
 have aw0:∀id,look e.pV id=none->(∀ob,res.upd≠some (id,ob))/\(id=next+e.i->res.new=none):=by
  intro id hl;rw[heff]at hl;unfold KV Od at hl;refine⟨fun ob hu=>?_,fun hid=>?_⟩
  ·rw[hu]at hl;cases hn:res.new<;>rw[hn]at hl<;>simp[bf]at hl<;>(split at hl<;>cases hl)
  ·cases hn:res.new with
   | none=>rfl
   | some q=>rw[hn,hid]at hl;simp[bf]at hl
 refine hK _ w' ι' ro' {
  base:=hinv.base.step hp hfresh o.dst
  size:=QT.trans hinv.size
  slots:=fun x hx HY t ht=>?_
  gl:=fun t x hl hno=>?_
  ob:=fun id ob hl=>?_
  inj:=?_
  fresh:=fun id hid hgh=>?_
  closed:=fun x hx HY j hj=>?_ }
 ·
  by_cases hxe:x=e
  ·subst hxe;rw[hdst]at ht;rw[ht]at hdn;obtain⟨hlt,hgs,hnew⟩:=QY hdn;have hsz:t<a.tmps.size:=by rw[hinv.size];exact hlt
   refine⟨val,by rw[ht];simp[Act.put,hsz],?_⟩;rw[hex];refine QU _ fun gs want u hc=>?_
   rw[ht];exact EW (fun h=>by cases h;exact hgs _ _ _ hc rfl)
  ·have apA:D x.i=true:=by
    rcases(hD' x.i).1 HY with h | h
    ·exact h
    ·exact absurd h (az4 x hx hxe)
   obtain⟨v,hv,hs⟩:=hinv.slots x hx apA t ht;have avd:o.dst≠some t:=fun h=>hxe (hL.aif x hx e heL t ht (by rw[hdst];exact h))
   refine⟨v,(EW avd).trans hv,(hs.mono hp.mono hp.cell hext).tm fun gs want u hc=>?_⟩;obtain⟨p1,p2,hsp,hx'⟩:=hL.IY hx;obtain⟨g,hg,hgb,hgd⟩:=apx hx' hc;refine EW fun h=>?_
   have hgL:g∈L:=by rw[hsp];exact List.mem_append_right _ (abD _ hg)
   have hge:=hL.aif g hgL e heL gs hgd (by rw[hdst];exact h);subst hge;have:=hinv.closed x hx apA g.i hgb;rw[hDe]at this;cases this
 ·
  obtain⟨v,hv,hs⟩:=hinv.gl t x hl fun x' hx' hd'=>by
   cases HY:D x'.i with
   | false=>rfl
   | true =>have h1:=hno x' hx' hd';rw[(hD' x'.i).2 (.inl HY)]at h1;cases h1
  have avd:o.dst≠some t:=fun hd=>by have h1:=hno e heL (by rw[hdst];exact hd);rw[(hD' e.i).2 (.inr rfl)]at h1;cases h1
  refine⟨v,(EW avd).trans hv,(hs.mono hp.mono hp.cell hext).tm fun gs want u hc=>?_⟩;have:=hnc _ (j5 _ _ _ hl);rw[hc]at this;cases this
 ·
  rcases awY id ob hl with h | ⟨h,h'⟩
  ·rcases awZ id ob h with⟨h1,h2⟩ | h
   ·subst h2;exact hp.new ob h1
   ·exact hp.upd id ob h
  ·cases hlv:ob.live with
   | false=>exact .ayw hlv
   | true=>exact kE.step hp hfresh hinv.inj wT hilt h' (hlive id ob h' hlv) (aw0 id h).1 (hinv.ob id ob h')
 ·refine ah9 hp hinv.inj wT hilt hlive _ fun id ob hl=>?_
  rcases awY id ob hl with h | ⟨h,h'⟩
  ·rcases awZ id ob h with h | h
   ·exact .inl h
   ·exact .inr (.inl h)
  ·exact .inr (.inr ⟨h',(aw0 id h).1⟩)
 ·by_cases hne:id=next+e.i
  ·exact⟨e,heL,(hD' e.i).2 (.inr rfl),hne⟩
  ·rw[hp.ni id hne]at hgh;obtain⟨x,hx,HY,h⟩:=hinv.fresh id hid hgh;exact⟨x,hx,(hD' x.i).2 (.inl HY),h⟩
 ·by_cases hxe:x=e
  ·subst hxe;exact(hD' j).2 (.inl (avb j hj))
  ·have apA:D x.i=true:=by
    rcases(hD' x.i).1 HY with h | h
    ·exact h
    ·exact absurd h (az4 x hx hxe)
   exact(hD' j).2 (.inl (hinv.closed x hx apA j hj))
theorem UA(listed:Array Bool)(i:Nat):i∈Region.ready .any ops listed↔i<ops.size/\listed.getD i true=false/\∃o,ops[i]? = some o/\∀ed∈o.after.toList,Region.binds .any ed=true->listed.getD ed.on false=true:=by
 unfold Region.ready;simp only[List.mem_filter,List.mem_range,abK,ah3];constructor
 ·rintro⟨h1,h2,h3⟩;refine⟨h1,h2,?_⟩;rw[afm h1]at h3 ⊢;refine⟨_,rfl,fun ed hed hb=>?_⟩;simp only[ahT,akp,Array.all_eq_true_iff_forall_mem]at h3;grind
 grind
theorem ave(listed:Array Bool){i j:Nat}(hi:i<listed.size):(listed.setIfInBounds i true).getD j false=true↔(listed.getD j false=true\/j=i):=by simp only[ahQ,Array.getElem?_setIfInBounds];grind
theorem apB{R:Type}(hO:aJ E O){a:Act}{w:World}{ι:Nat->Option Gh}{ro:Nat->Nat->Prop}(hnc:aS glob)(hg:bO E w0 aP ⟨n,glob,objs,next⟩ a w ι ro){k:aI E->Option R}{rr:R}{Q:Exit->Act->World->Prop}
  (hk:∀S' a' w' ι' ro',aS S'.tmps->bO E w0 aP S' a' w' ι' ro'->S'.n=n->k S'=some rr->Q .normal a' w') (h:LA O ops n glob objs next ops.toList [] 0 k=some rr):wpAny P .any ops Q ops.size (Array.replicate ops.size false) a { w with drawn:=w.drawn+1 }:=by
 obtain⟨L,hL,hlen,hkL⟩:=Ya (ops:=ops) ops.toList [] [] 0 (by simp) rfl rfl trivial h;have lu:∀id o,look objs id=some o->id<next:=hg.ids;have done:∀(listed:Array Bool) (a:Act) (w:World) (ι:Nat->Option Gh) (ro:Nat->Nat->Prop),listed.size=ops.size->Inv E w0 aP ops n next glob objs L (fun j=>listed.getD j false) a w ι ro->Region.ready .any ops listed=[]->Q .normal a w:=by
  intro listed a w ι ro hsz hinv aiq;have hall:∀j,j<ops.size->listed.getD j false=true:=by
   intro j
   induction j using Nat.strongRecOn with
   | ind j ih =>
    intro hj;cases hd:listed.getD j false with
    | true=>rfl
    | false =>
     exfalso;obtain⟨e,he,hei⟩:=hL.has j (by omega);obtain⟨pre,r,hsp,hent⟩:=hL.IY he;obtain⟨hi,o,res,ho,hpr,_⟩:=hent;rw[hei]at ho;have hmem:j∈Region.ready .any ops listed:=(UA listed j).2 ⟨hj,by
      simp only[ahQ]at hd ⊢;rw[afm (by omega)]at hd ⊢;simpa using hd,o,ho,fun ed hed hb=>by
       have hlt:ed.on<j:=by
        obtain⟨x,hx,hxi⟩:=((Og hpr).2 ed hed hb).2;obtain⟨q1,q2,rfl⟩:=anh hx;have hx':Ea O ops n glob objs next x q2:=by refine gN.at_ (pre:=pre++e::q1) ?_;rw[hsp]at hL;simpa using hL
        have h1:=hx'.1;simp only[List.length_append,List.length_cons]at hi;omega
       exact ih ed.on hlt (by omega)⟩
     rw[aiq]at hmem;cases hmem
  have aw1:∀e∈L,(fun j=>listed.getD j false) e.i=Lx e.i:=fun e he=>hall e.i (by have:=hL.lt e he;omega)
  have aha:jr (fun j=>listed.getD j false) objs L=jr Lx objs L:=KY (fun e he _=>aw1 e he);have az6:=hinv.ob;have hinj:=hinv.inj;rw[aha]at az6 hinj;refine hk ⟨n,tC (AA Lx L)++glob,jr Lx objs L,next+ops.size⟩ a w ι ro (fun p hp=>?_) ⟨hinv.base,hinv.size,yE.clean (loc:=AA Lx L) (glob:=glob) fun t x hl=>?_,az6,hinj,fun id hid=>?_,fun id o hl=>?_⟩ rfl hkL
  ·rcases List.mem_append.1 hp with hp | hp
   ·exact D8 _ p hp
   ·exact hnc p hp
  ·rw[nJ]at hl;cases hs:look (AA Lx L) t with
   | some z =>rw[hs]at hl;cases hl;obtain⟨g,hg1,_,hg3,hg4⟩:=JJ hs;rw[hg4];exact hinv.slots g hg1 (aw1 g hg1) t hg3
   | none =>rw[hs]at hl;exact hinv.gl t x hl fun e he hd=>absurd hd (Ih hs e he rfl)
  ·cases hgh:ι id with
   | none=>rfl
   | some gh =>exfalso;have aGm:next+ops.size<=id:=hid;obtain⟨e,he,_,h⟩:=hinv.fresh id (by omega) (by rw[hgh];simp);have:=hL.lt e he;omega
  ·have:=LC hL lu Lx id o hl;show id<next+ops.size;omega
 have key:∀(fuel:Nat) (listed:Array Bool) (a:Act) (w:World) (ι:Nat->Option Gh) (ro:Nat->Nat->Prop),listed.size=ops.size->(listed.toList.count false<=fuel)->Inv E w0 aP ops n next glob objs L (fun j=>listed.getD j false) a w ι ro->wpAny P .any ops Q fuel listed a w:=by
  intro fuel
  induction fuel with
  | zero =>
   intro listed a w ι ro hsz hcount hinv;have hr:Region.ready .any ops listed=[]:=by
    rw[List.eq_nil_iff_forall_not_mem];intro i hi;obtain⟨h1,h2,_⟩:=(UA listed i).1 hi;have hmem:false∈listed.toList:=by simp only[ahQ]at h2;rw[afm (by omega)]at h2;simp at h2;rw[<- h2];exact Array.mem_toList_iff.2 (Array.getElem_mem _)
    have:=List.count_pos_iff.2 hmem;omega
   exact⟨hr,done listed a w ι ro hsz hinv hr⟩
  | succ fuel ih =>
   intro listed a w ι ro hsz hcount hinv;refine⟨fun hr=>done listed a w ι ro hsz hinv hr,fun i hi=>?_⟩;obtain⟨h1,h2,o,ho,h3⟩:=(UA listed i).1 hi;obtain⟨e,he,hei⟩:=hL.has i (by omega);subst hei;have hDe:listed.getD e.i false=false:=by simp only[ahQ]at h2 ⊢;rw[afm (by omega)]at h2 ⊢;simpa using h2
   have hst:=ava (K:=fun a' w'=>wpAny P .any ops Q fuel (listed.setIfInBounds e.i true) a' w') (Q:=Q) hO hL hlen hnc lu hinv he hDe ho h3 (D':=fun j=>(listed.setIfInBounds e.i true).getD j false) (fun j=>ave listed (by omega))
    (fun a' w' ι' ro' aCd=>ih _ a' w' ι' ro' (by simp[hsz]) ?_ aCd)
   ·unfold wpOp;rw[ho];show if Region.wanted o (yielded ops a.tmps)=true then _ else _
    split
    ·rename_i hw;rw[if_pos hw]at hst;exact .inl hst
    ·rename_i hw;rw[if_neg hw]at hst;exact hst
   ·have hlt:e.i<listed.toList.length:=by rw[afP,hsz];exact h1
    have hget:listed.toList[e.i]=false:=by simp only[ahQ]at hDe;rw[afm (by omega)]at hDe;simpa using hDe
    grind
 refine key ops.size _ a _ ι ro (by simp) ?_ ?_
 ·simp
 ·have hfalse:∀j,(Array.replicate ops.size false).getD j false=false:=by
   intro j;simp only[ahQ,Array.getElem?_replicate];split<;>rfl
  have aha:jr (fun j=>(Array.replicate ops.size false).getD j false) objs L=objs:=by have:jr (fun j=>(Array.replicate ops.size false).getD j false) objs (L++[])=jr (fun j=>(Array.replicate ops.size false).getD j false) objs []:=aio (fun e _ hD=>by simp only[hfalse]at hD;cases hD);rw[acg]at this;exact this
  have drew:∀(v:Value) (x:AV E),CQ E w ro ι a.tmps v x->CQ E { w with drawn:=w.drawn+1 } ro ι a.tmps v x:=fun v x h=>CQ.mono (w:=w) (ι:=ι) (ro:=ro) (fun _ _ h=>h) (fun _ _ _=>rfl) (fun _ _ h=>h) h
  refine {
   base:=⟨⟨hg.base.below.os,hg.base.below.tape,hg.base.below.output,hg.base.below.size,hg.base.below.block⟩,hg.base.aZ,hg.base.rU,hg.base.uZ,hg.base.defers,hg.base.keep,hg.base.held⟩
   size:=hg.size
   slots:=fun e _ hD=>by simp only[hfalse]at hD;cases hD
   gl:=fun t x hl _=>by obtain⟨v,hv,hs⟩:=hg.tmps t x hl;exact⟨v,hv,drew v x hs⟩
   ob:=fun id o hl=>?_
   inj:=by rw[aha];exact hg.inj
   fresh:=fun id hid hgh=>absurd (hg.fresh id hid) hgh
   closed:=fun e _ hD=>by simp only[hfalse]at hD;cases hD }
  rw[aha]at hl;have:=hg.objs id o hl;cases o with
  | dead=>trivial
  | box cs =>obtain⟨gh,g,vs,ty,h1,h2,hb,h3,h4,h5,h6⟩:=this;exact⟨gh,g,vs,ty,h1,h2,hb,h3,h4,fun j v c hv hc=>⟨(h5 j v c hv hc).1,aO.mono (w:=w) (ι:=ι) (ro:=ro) (fun _ _ h=>h) (fun _ _ _=>rfl) (fun _ _ h=>h) (h5 j v c hv hc).2⟩,h6⟩
  | arr t l fz =>obtain⟨h0,gh,g,vs,ty,h1,h2,hb,h3,h4,h5,h6⟩:=this;exact⟨h0,gh,g,vs,ty,h1,h2,hb,h3,h4,fun j v c hv hc=>⟨(h5 j v c hv hc).1,aO.mono (w:=w) (ι:=ι) (ro:=ro) (fun _ _ h=>h) (fun _ _ _=>rfl) (fun _ _ h=>h) (h5 j v c hv hc).2⟩,h6⟩
  | lp st pend n tm ps assign body =>
   obtain⟨gh,g,rec,h1,h2,h3,h4,h5⟩:=this;exact⟨gh,g,rec,h1,h2,h3,h4,fun t x hl=>by obtain⟨v,q1,q2⟩:=h5 t x hl;exact⟨v,q1,aO.mono (w:=w) (ι:=ι) (ro:=ro) (fun _ _ h=>h) (fun _ _ _=>rfl) (fun _ _ h=>h) q2⟩⟩
  | mp K V l =>
   obtain⟨gh,g,es,h1,h2,h3,h4,h5,h6⟩:=this;exact⟨gh,g,es,h1,h2,h3,h4,h5,fun j e x he hx=>by obtain⟨k1,k2,k3,k4⟩:=h6 j e x he hx;exact⟨k1,k2,k3,fun i v c hv hc=>⟨(k4 i v c hv hc).1,aO.mono (w:=w) (ι:=ι) (ro:=ro) (fun _ _ h=>h) (fun _ _ _=>rfl) (fun _ _ h=>h) (k4 i v c hv hc).2⟩⟩⟩
  | row t l =>obtain⟨gh,xs,h1,h2,h3,h4,h5,h6,h7⟩:=this;exact⟨gh,xs,h1,h2,h3,h4,sW.frame (w:=w) h5 fun _ _=>rfl,ng.mono (w:=w) (w':={ w with drawn:=w.drawn+1 }) (ro:=ro) (fun _ _ h=>h) (fun _ _ _=>rfl) h6,h7⟩
  | _=>exact this
theorem air{R:Type}(hO:aJ E O)(dB:P.follows .mixedOrders=true){a:Act}{w:World}{ι:Nat->Option Gh}{ro:Nat->Nat->Prop}(hnc:aS glob)(hg:bO E w0 aP ⟨n,glob,objs,next⟩ a w ι ro){k:aI E->Option R}{rr:R}{Q:Exit->Act->World->Prop}
  (hk:∀S' a' w' ι' ro',aS S'.tmps->bO E w0 aP S' a' w' ι' ro'->S'.n=n->k S'=some rr->Q .normal a' w') (h:LA O ops n glob objs next ops.toList [] 0 k=some rr) {id:Nat}:(Code.region id ops true).wp P Q a w :=
 wp_region_any dB (apB hO hnc hg hk h)
end
def ais{P:Program}{E:Env P}{R:Type}(_:aR E)(_:Array Oper)(_:aI E)(_:aI E->Option R):Option R:=none
section
variable {P:Program} {Q:Exit->Act->World->Prop}
end
section
variable {P:Program} {E:Env P} {O:aR E} {ops:Array Oper} {w0:Start} {aP:Nat->Nat->Prop}
theorem ait{R:Type}(_:aJ E O)(_:P.follows .mixedOrders=true){S:aI E}{a:Act}{w:World}{ι:Nat->Option Gh}{ro:Nat->Nat->Prop}(_:aS S.tmps)(_:bO E w0 aP S a w ι ro){k:aI E->Option R}{rr:R}{Q:Exit->Act->World->Prop}
  (_:∀S' a' w' ι' ro',aS S'.tmps->bO E w0 aP S' a' w' ι' ro'->S'.n=S.n->k S'=some rr->Q .normal a' w') (h:ais O ops S k=some rr) {id:Nat}:(Code.region id ops true).wp P Q a w:=by
 unfold ais at h;cases h
end
end Go.Proofs.YtibpdjmikfmmaaaGreatDoor.bB
