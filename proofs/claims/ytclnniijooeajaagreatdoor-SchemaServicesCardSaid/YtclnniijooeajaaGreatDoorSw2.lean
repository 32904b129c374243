/- Part 2 of a proof: the texts MirI MirJ MirK MirL MirM MirN, one behind the other. -/
import Derived.Test.YtclnniijooeajaaGreatDoorSw1
import Derived.Lib.UnsafeStr
import Derived.MapKept
noncomputable section
namespace Go.Proofs.YtclnniijooeajaaGreatDoor.bg
open Go Go.RowKit
section
section
variable {P:Program} {E:Env P}
def fQ(E:Env P)(w:World)(ro:Nat->Nat->Prop):List Value->List (TV E)->Prop
 | [],[]=>True
 | v::vs,⟨t,x⟩::r=>uF E w ro v t x/\fQ E w ro vs r
 | _,_=>False
def pQ(E:Env P)(w:World)(ro:Nat->Nat->Prop)(v:Value):List (TV E)->Prop
 | [⟨t,x⟩]=>uF E w ro v t x
 | rs=>∃vs:List Value,v = .tuple vs.toArray/\fQ E w ro vs rs
def DW(E:Env P)(f:FuncId)(args res:List (TV E)):Prop :=
 ∀(w:World) (ro:Nat->Nat->Prop) (vals:List Value),fQ E w ro vals args->(∀k o,ro k o->k<w.heap.size) ->
  Calls P f vals.toArray w fun e w'=>∃v,e = .returned v/\Below w.heap.size w w'/\pQ E w' (fun k o=>ro k o\/(w.heap.size<=k/\k<w'.heap.size)) v res
def bG(E:Env P)(f:FuncId)(F:List (TV E)->Option (Bool×List (TV E))):Prop :=
 (∃fn,P.funcs[f]? = some fn/\(fn.name == "runtime.NumGoroutine")=false/\fn.body.isNone=false)/\∀args res,F args=some (true,res)->DW E f args res
def ZF(E:Env P)(f:FuncId)(args:List (TV E))(t:E.Ty)(l:List (E.Den t)):Prop :=
 ∀(w:World) (ro:Nat->Nat->Prop) (vals:List Value),fQ E w ro vals args->(∀k o,ro k o->k<w.heap.size) ->
  Calls P f vals.toArray w fun e w'=>∃(gh:Gh) (xs:List Value),e = .returned gh.v/\Below w.heap.size w w'/\gh.n=l.length/\gh.e=E.tid t/\gh.sz=E.size t/\sJ w' gh xs/\mH E w' ro t xs l/\∀g,gh.blk=some g->w.heap.size<=g
def agJ(E:Env P)(f:FuncId)(t:E.Ty)(l:List (E.Den t))(rest:List (TV E))(back:Bool)(l':List (E.Den t)):Prop :=
 ∀(w:World) (ro:Nat->Nat->Prop) (gh:Gh) (xs:List Value) (vals:List Value),gh.n=l.length->gh.e=E.tid t->gh.sz=E.size t->sJ w gh xs->mH E w ro t xs l->(∀g,gh.blk=some g->∀o,¬ ro g o)->fQ E w ro vals rest->(∀k o,ro k o->k<w.heap.size) ->
  Calls P f (gh.v::vals).toArray w fun e w'=>∃(val:Value) (bq:Gh) (xs':List Value),e = .returned val/\w.grownBy w' gh.blk/\bq.n=l'.length/\bq.e=E.tid t/\bq.sz=E.size t/\sJ w' bq xs'/\mH E w' (fun k o=>ro k o\/(bq.blk≠some k/\(gh.blk=some k\/w.heap.size<=k/\k<w'.heap.size))) t xs' l' /\
   (∀g,bq.blk=some g->gh.blk=some g\/w.heap.size<=g)/\(back=true->val=bq.v)/\(back=false->bq=gh)
def adt(E:Env P)(f:FuncId)(t:E.Ty):Prop :=
 ∀(w:World) (n:Int),0<=n->n*(E.bytes t:Int)<=140737488355328 ->
  Calls P f #[.slice none 0 0,.int .i64 n] w fun e w'=>∃(gh:Gh),e = .returned gh.v/\Below w.heap.size w w'/\gh.n=0/\gh.e=E.tid t/\gh.sz=E.size t/\sJ w' gh []/\∀g,gh.blk=some g->w.heap.size<=g
def X3(E:Env P)(f:FuncId)(t:E.Ty)(x:E.Den t)(rest:List (TV E))(y:E.Den t)(res:List (TV E)):Prop :=
 ∀(w:World) (ro:Nat->Nat->Prop) (g:Nat) (e:TypeId) (vs:Array Value) (vals:List Value),w.heap[g]? = some (.cells vs e (0,0))->oq E w ro vs (E.cells t x)->(∀o,¬ ro g o)->fQ E w ro vals rest->(∀k o,ro k o->k<w.heap.size) ->
  Calls P f (.pointer (some ⟨g,0,none⟩)::vals).toArray w fun ed w'=>∃(v:Value) (vs':Array Value),ed = .returned v/\w.grownBy w' (some g)/\w'.heap[g]? = some (.cells vs' e (0,0)) /\
   oq E w' (fun k o=>ro k o\/(w.heap.size<=k/\k<w'.heap.size)) vs' (E.cells t y)/\pQ E w' (fun k o=>ro k o\/(w.heap.size<=k/\k<w'.heap.size)) v res
def aoj(E:Env P)(w:World)(ro:Nat->Nat->Prop)(v:Value):Arg E->Prop
 | .v x=>uF E w ro v x.1 x.2
 | .c f p q=>∃vs us:Array Value,v = .func (.func f) vs us/\fQ E w ro vs.toList p/\fQ E w ro us.toList q
def ZG(E:Env P)(f:FuncId)(args:List (Arg E))(res:List (TV E)):Prop :=
 ∀(w:World) (ro:Nat->Nat->Prop) (vals:List Value),vals.length=args.length->(∀(i:Nat) v y,vals[i]? = some v->args[i]? = some y->aoj E w ro v y)->(∀k o,ro k o->k<w.heap.size) ->
  Calls P f vals.toArray w fun e w'=>∃v,e = .returned v/\Below w.heap.size w w'/\pQ E w' (fun k o=>ro k o\/(w.heap.size<=k/\k<w'.heap.size)) v res
def awe(E:Env P)(I:Inl E):Prop:=∀{R:Type} (f:FuncId) (args:List (AV E)) (objs:List (Nat×aS E)) (next:Nat) (k:AV E->List (Nat×aS E)->Nat->Option R) (rr:R),I.run f args objs next k=some rr ->
 (∃fn,P.funcs[f]? = some fn/\(fn.name == "runtime.NumGoroutine")=false/\fn.body.isNone=false) /\
 ∀(w0:Start) (aP:Nat->Nat->Prop) (a:Act) (w:World) (ι:Nat->Option Gh) (ro:Nat->Nat->Prop) (vals:List Value),Base w0 aP a w ι ro->(∀(id:Nat) o,look objs id=some o->j5 E w ro ι id o)->Zy E objs ι->(∀id,next<=id->ι id=none) ->
  (∀id o,look objs id=some o->id<next)->vals.length=args.length->(∀(i:Nat) v x,vals[i]? = some v->args[i]? = some x->aO E w ro ι v x) ->
  Calls P f vals.toArray w fun e w'=>∃(v:Value) (x:AV E) (mI:List (Nat×aS E)) (next':Nat) (ι':Nat->Option Gh) (ro':Nat->Nat->Prop),e = .returned v/\k x mI next'=some rr/\aO E w' ro' ι' v x/\Base w0 aP a w' ι' ro' /\
   (∀(id:Nat) o,look mI id=some o->j5 E w' ro' ι' id o)/\Zy E mI ι'/\(∀id,next'<=id->ι' id=none)/\(∀id o,look mI id=some o->id<next') /\
   (∀k o,ro k o->ro' k o/\w'.cell? ⟨k,o,none⟩=w.cell? ⟨k,o,none⟩)/\∀id gh,ι id=some gh->ι' id=some gh
def azL(P:Program)(f:FuncId)(T:TypeId):Prop :=
 (∀(w:World) (b:Nat),w.cell? ⟨b,0,none⟩=some (.pointer none)->w.shape? b=some (T,2)->w.frozen? ⟨b,0,none⟩=false->Calls P f #[.pointer (some ⟨b,0,none⟩)] w fun e w'=>e = .returned (.tuple #[])/\w'=w.setCell ⟨b,0,none⟩ (.pointer (some ⟨b,0,none⟩))) /\
 ∀(w:World) (b:Nat),w.cell? ⟨b,0,none⟩=some (.pointer (some ⟨b,0,none⟩))->Calls P f #[.pointer (some ⟨b,0,none⟩)] w fun e w'=>e = .returned (.tuple #[])/\w'=w
def axI(E:Env P)(f:FuncId)(args:List (AV E))(x:AV E):Prop :=
 ∀(w:World) (ro:Nat->Nat->Prop) (vals:List Value),vals.length=args.length->(∀(i:Nat) v y,vals[i]? = some v->args[i]? = some y->aO E w ro (fun _=>none) v y)->(∀k o,ro k o->k<w.heap.size) ->
  Calls P f vals.toArray w fun e w'=>∃v,e = .returned v/\Below w.heap.size w w'/\aO E w' (fun k o=>ro k o\/(w.heap.size<=k/\k<w'.heap.size)) (fun _=>none) v x
def aK(E:Env P)(O:aI E):Prop :=
 (∀f args res,O.call f args=some (true,res)->(∃fn,P.funcs[f]? = some fn/\(fn.name == "runtime.NumGoroutine")=false/\fn.body.isNone=false)/\DW E f args res) /\
 (∀f args t l,O.fresh f args=some (true,⟨t,l⟩)->(∃fn,P.funcs[f]? = some fn/\(fn.name == "runtime.NumGoroutine")=false/\fn.body.isNone=false)/\ZF E f args t l) /\
 (∀f t l rest back l',O.an5 f t l rest=some (true,back,l')->(∃fn,P.funcs[f]? = some fn/\(fn.name == "runtime.NumGoroutine")=false/\fn.body.isNone=false)/\agJ E f t l rest back l') /\
 (∀f t,O.grow f=some t->(∃fn,P.funcs[f]? = some fn/\(fn.name == "runtime.NumGoroutine")=false/\fn.body.isNone=false)/\adt E f t)/\awe E O.inl /\
 (∀f T,O.cc=some (f,T)->(∃fn,P.funcs[f]? = some fn/\(fn.name == "runtime.NumGoroutine")=false/\fn.body.isNone=false)/\azL P f T) /\
 (∀f args x,O.cl f args=some x->(∃fn,P.funcs[f]? = some fn/\(fn.name == "runtime.NumGoroutine")=false/\fn.body.isNone=false)/\axI E f args x) /\
 (∀f t x args y res,O.aud f t x args=some (true,y,res)->(∃fn,P.funcs[f]? = some fn/\(fn.name == "runtime.NumGoroutine")=false/\fn.body.isNone=false)/\X3 E f t x args y res) /\
 ∀f p xs res,p∈O.cla f->p.2 xs=some (true,res)->(∃fn,P.funcs[f]? = some fn/\(fn.name == "runtime.NumGoroutine")=false/\fn.body.isNone=false)/\ZG E f xs res
end
section
variable {P:Program} {E:Env P} {w:World} {ro:Nat->Nat->Prop} {ι:Nat->Option Gh} {S:au E} {asm:List (Nat×Bool)} {a:Act}
theorem agK{t t':E.Ty}{l:List (E.Den t)}{l':List (E.Den t')}(h:GR t t' l=some l'):∃e:t=t',l'=e▸l:=by
 unfold GR at h;cases hd:E.dec t t' with
 | isFalse hn=>rw[hd]at h;cases h
 | isTrue he=>rw[hd]at h;cases h;exact⟨he,rfl⟩
theorem Mg(c:Ctx E S asm a w ι ro){o:Oper}{T T':TypeId}{s x:Operand}(ho:o.op = .call { callee:=.builtin .append,args:=#[s,x],argTypes:=#[T,T'] }){r:gu E}{Y:AV E}
  (hsrc:∀t l2,P.underlying T=some (.slice (E.tid t))->Ii (E.tid t) Y=some ⟨t,l2⟩->∃news,Src P (E.size t) T' (a.eval x) l2.length news w/\mH E w ro t news l2)
  (h:Dp S.objs S.next T (bF S.tmps asm s) Y=some r) (hok:r.ok=true):bL E o a w ι ro S.next r:=by
 have hs:=c.get s;generalize hvs:a.eval s=vs at hs;generalize gW:a.eval x=vx at hsrc;generalize bF S.tmps asm s=X at *;have fin:∀{v':Value} {w':World},(Builtin.append_ #[T,T'] o.type #[vs,vx]).run P w = .ok v' w'->(execOp a.eval o).run P w = .ok (.value v') w':=by intro v' w' hr;simp only[execOp,ho,resolve,invoke,builtin,Sem.run_bind,Sem.run_pure,Result.andThen_ok,am5,aeH,aib,hvs,gW,hr]
 unfold Dp at h;split at h
 ·rename_i e he;have hu:=pO he;split at h
  ·rename_i t l2 hsl;split at h
   ·rename_i ht;have ht:=aaF ht;subst ht;obtain⟨news,hs2,hnd⟩:=hsrc t l2 hu hsl;split at h
    ·
     cases h;have e1:=hs.jY;subst e1;have hok':l2.length*E.bytes t<=aB:=of_decide_eq_true hok;obtain⟨v',w',ι',ro',hrun,hp⟩:=WI c t T T' o.type hu (.slice none 0 0) [] l2 [] vx news none none (.inl ⟨World.ownsRow_nil w 0 (E.tid t) (E.size t),rfl⟩) (fun i x j c h=>by simp at h) (fun g hg=>by cases hg) hs2 hnd (by rw[List.length_nil,aeC];exact hok') (.inl ⟨rfl,rfl⟩);simp only[hok',decide_true];exact .inl ⟨v',w',ι',ro',fin hrun,hp⟩
    ·
     rename_i t' l1 id;cases hc:GR t t' l2 with
     | none=>rw[hc]at h;cases h
     | some WH =>
      cases bW:look S.objs id with
      | none=>rw[hc,bW]at h;cases h
      | some ob =>
       rw[hc,bW]at h;cases ob with
       | dead=>cases h
       | box cs=>cases h
       | row _ _=>cases h
       | mp _ _ _=>cases h
       | lp _ _ _ _ _ _ _=>cases h
       | Ih=>cases h
       | arr _ _ _=>cases h
       | tail live =>
        cases live with
        | false=>cases h
        | true =>
         cases h;obtain⟨ee,hl⟩:=agK hc;subst ee;obtain rfl:l2=WH:=hl.symm;have hok':(l1.length+l2.length)*E.bytes t<=aB:=of_decide_eq_true hok;cases hs with
         | grow gh _ _ _ hi hn hge hgs hd1 =>obtain⟨bq,xs,hi',hown,iw⟩:=c.objs id _ bW rfl;rw[hi]at hi';cases hi';unfold sJ at hown;rw[hn,hge,hgs]at hown;rw[hn,hgs]at iw;obtain⟨v',w',ι',ro',hrun,hp⟩:=WI c t T T' o.type hu gh.v l1 l2 xs vx news (some (id,.dead)) gh.blk hown (aeW hown hd1) (fun g hg=>iw g hg) hs2 hnd hok' (.inr ⟨id,gh,rfl,hi,rfl⟩);simp only[hok',decide_true];exact .inl ⟨v',w',ι',ro',fin hrun,hp⟩
    ·
     rename_i t0 n0 id;split at h
     ·rename_i t' l1 bW;cases hc:GR t t' l2 with
      | none=>rw[hc]at h;cases h
      | some WH =>
       rw[hc]at h;cases h;obtain⟨ee,hl⟩:=agK hc;subst ee;obtain rfl:l2=WH:=hl.symm;have hok':(l1.length+l2.length)*E.bytes t<=aB:=of_decide_eq_true hok;cases hs with
       | row gh _ _ ad cap hi aFP hgs0 hgv had =>obtain⟨bq,xs,hi',hn,hge,hgs,hown,hrow,iw⟩:=c.objs id _ bW;rw[hi]at hi';cases hi';unfold sJ at hown;rw[hn,hge,hgs]at hown;obtain⟨v',w',ι',hrun,hp⟩:=ZE c t T T' o.type hu gh.v l1 l2 xs vx news (some (id,.dead)) gh.blk hown hrow (fun g hg o=>iw g hg o) hs2 hnd hok' (.inr ⟨id,gh,rfl,hi,rfl⟩);simp only[hok',decide_true];exact .inl ⟨v',w',ι',ro,fin hrun,hp⟩
     ·cases h
    ·cases h
   ·cases h
  ·cases h
 ·cases h
theorem akp(c:Ctx E S asm a w ι ro){o:Oper}{T:TypeId}{s x:Operand}(ho:o.op = .call { callee:=.builtin .append,args:=#[s,x],argTypes:=#[T,T] }){r:gu E}
  (h:Dp S.objs S.next T (bF S.tmps asm s) (bF S.tmps asm x)=some r) (hok:r.ok=true):bL E o a w ι ro S.next r :=
 Mg c ho (fun _ _ hT hsl=>(EI (c.get x) hsl).src hT) h hok
theorem agL(c:Ctx E S asm a w ι ro){o:Oper}{T T':TypeId}{s x:Operand}(ho:o.op = .call { callee:=.builtin .append,args:=#[s,x],argTypes:=#[T,T'] }){r:gu E}
  (h:L9 S.objs S.next T T' (bF S.tmps asm s) (bF S.tmps asm x)=some r) (hok:r.ok=true):bL E o a w ι ro S.next r:=by
 have hx:=c.get x;unfold L9 at h;split at h
 ·rename_i e hT' he;split at h
  ·rename_i l hY;split at h
   ·rename_i t ht;split at h
    ·rename_i g hg;rw[hY]at hx;refine Mg c ho (fun t' l2 hT hsl=>?_) h hok;cases hsl;have hv:a.eval x = .string ⟨l.toArray⟩:=by
      generalize a.eval x=vx at hx;cases hx with
      | d _ _ hd=>cases hd;rfl
     rw[hv];exact axH g (E.Pw _ g hg) (Au hT') l
    ·cases h
   ·cases h
  ·cases h
 ·cases h
theorem vI:∀(Ts:List TypeId) (vs:List Value) (as:List (AV E)) (xs:List (TV E)),vs.length=as.length->(∀(i:Nat) v x,vs[i]? = some v->as[i]? = some x->aO E w ro ι v x)->foldArgs Ts as=some xs->fQ E w ro vs xs
 | [],[],[],xs,_,_,h=>by cases h;trivial
 | T::Ts,v::vs,x::as,xs,hl,hr,h=>by
  unfold foldArgs at h;split at h
  ·rename_i t ht;split at h
   ·rename_i y hy;split at h
    ·rename_i r hr';cases h;exact⟨zD (hr 0 v x rfl rfl) hy,vI Ts vs as r (by simpa using hl) (fun i v x hv hx=>hr (i+1) v x (by simpa using hv) (by simpa using hx)) hr'⟩
    ·cases h
   ·cases h
  ·cases h
 | [],v::vs,x::as,xs,_,_,h=>by cases h
 | T::Ts,[],[],xs,_,_,h=>by cases h
 | [],[],_::_,_,hl,_,_=>by simp at hl
 | [],_::_,[],_,hl,_,_=>by simp at hl
 | _::_,[],_::_,_,hl,_,_=>by simp at hl
 | _::_,_::_,[],_,hl,_,_=>by simp at hl
theorem fQ.at_:∀(vs:List Value) (rs:List (TV E)),fQ E w ro vs rs->vs.length=rs.length/\∀(i:Nat) v x,vs[i]? = some v->rs[i]? = some x->uF E w ro v x.1 x.2
 | [],[],_=>⟨rfl,fun i v x h=>by simp at h⟩
 | v::vs,r::rs,h=>by obtain⟨t,y⟩:=r;obtain⟨h1,h2⟩:=h;obtain⟨g1,g2⟩:=fQ.at_ vs rs h2;grind
 | [],_::_,h=>h.elim
 | _::_,[],h=>h.elim
theorem PL{v:Value}{res:List (TV E)}(h:pQ E w ro v res):aO E w ro ι v (PE res):=by
 unfold pQ at h;split at h
 ·exact qR h
 ·rename_i hne;obtain⟨vs,rfl,h⟩:=h;obtain⟨h1,h2⟩:=fQ.at_ vs res h;have e:PE res = .tL (res.map fun r=>gV r.1 r.2):=by
   unfold PE;grind
  rw[e];refine .tL _ _ (by simp[h1]) (fun j u x hu hx=>?_);rw[adT]at hx;cases hr:res[j]? with
  | none=>rw[hr]at hx;cases hx
  | some r =>rw[hr]at hx;cases hx;exact qR (h2 j u r (by simpa using hu) hr)
theorem sJ.lt{gh:Gh}{xs:List Value}(h:sJ w gh xs){g:Nat}(hg:gh.blk=some g):g<w.heap.size:=by
 rcases h with⟨h,hb⟩ | ⟨_,_,hb,_⟩
 ·exact(h.lt g (hb▸hg)).2
 ·rw[hb]at hg;cases hg
theorem Ga{o:Oper}{f:FuncId}{kS:Operand}{as:Array Operand}{ts:Array TypeId}(ho:o.op = .call { callee:=.value kS,args:=as,argTypes:=ts })(hfo:a.eval kS = .func (.func f) #[] #[])
  (h:∃fn,P.funcs[f]? = some fn/\(fn.name == "runtime.NumGoroutine")=false/\fn.body.isNone=false):(execOp a.eval o).run P w = .ok (.enter f (as.toList.map a.eval).toArray) w:=by
 obtain⟨fn,hfn,hname,hbody⟩:=h;have e1:(as.map a.eval)=(as.toList.map a.eval).toArray:=by apply Array.ext';simp
 simp only[execOp,ho,resolve,hfo,Deferred.ofValue,Sem.run_bind,Sem.run_pure,Result.andThen_ok,invoke,callFunc,e1]
 have hn:¬ fn.name = "runtime.NumGoroutine" := by intro e;rw[e]at hname;simp at hname
 have hb:¬ fn.body=none:=by intro e;rw[e]at hbody;simp at hbody
 simp[hfn,hn,hb,program,Sem.run]
theorem agM{o:Oper}{f:FuncId}{kS:Operand}{as:Array Operand}{ts:Array TypeId}{vs us:Array Value}(ho:o.op = .call { callee:=.value kS,args:=as,argTypes:=ts })(hfo:a.eval kS = .func (.func f) vs us)
  (h:∃fn,P.funcs[f]? = some fn/\(fn.name == "runtime.NumGoroutine")=false/\fn.body.isNone=false):(execOp a.eval o).run P w = .ok (.enter f (vs.toList++(as.toList.map a.eval++us.toList)).toArray) w:=by
 obtain⟨fn,hfn,hname,hbody⟩:=h;have e1:(vs++(as.map a.eval))++us=(vs.toList++(as.toList.map a.eval++us.toList)).toArray:=by apply Array.ext';simp
 have hn:¬ fn.name = "runtime.NumGoroutine" := by intro e;rw[e]at hname;simp at hname
 have hb:¬ fn.body=none:=by intro e;rw[e]at hbody;simp at hbody
 simp only[execOp,ho,resolve,hfo,Deferred.ofValue,Sem.run_bind,Sem.run_pure,Result.andThen_ok,invoke,callFunc,e1];simp[hfn,hn,hb,program,Sem.run]
theorem aq2(c:Ctx E S asm a w ι ro){O:aI E}(hO:aK E O){o:Oper}{f:FuncId}{kS:Operand}{as:Array Operand}{ts:Array TypeId}(ho:o.op = .call { callee:=.value kS,args:=as,argTypes:=ts })(hfo:a.eval kS = .func (.func f) #[] #[])
  {r:gu E} (h:Zv O S.next f ts.toList (bY S.tmps asm as)=some r) (hok:r.ok=true):bL E o a w ι ro S.next r:=by
 have args:∀xs,foldArgs ts.toList (bY S.tmps asm as)=some xs->fQ E w ro (as.toList.map a.eval) xs:=fun xs hxs =>
  vI (ι:=ι) ts.toList _ _ xs (by simp[bY]) (fun i v x hv hx=>by
    unfold bY at hx;rw[adT]at hv hx;cases hi:as.toList[i]? with
    | none=>rw[hi]at hv;cases hv
    | some y =>rw[hi]at hv hx;cases hv;cases hx;exact c.get y) hxs
 have enter:=Ga (a:=a) (w:=w) (P:=P) ho hfo;unfold Zv at h;split at h
 ·rename_i xs hxs;cases hfr:O.J9 f with
  | true =>
   rw[hfr]at h;simp only[cond_true]at h;split at h
   ·rename_i ok t l hres;cases h;have hok:ok=true:=hok;subst hok;obtain⟨hfn,mJ⟩:=hO.2.1 f xs t l hres;refine .inr (.inr ⟨f,_,enter hfn,(mJ w ro _ (args xs hxs) c.aT).mono fun e w' he=>?_⟩);obtain⟨gh,ys,rfl,hb,hn,hge,hgs,hown,hrow,hblk⟩:=he;have hcell:∀k o,ro k o->w'.cell? ⟨k,o,none⟩=w.cell? ⟨k,o,none⟩:=fun k o h=>hb.cell (p:=⟨k,o,none⟩) (c.aT k o h)
    obtain⟨ad,cap,hgv,had⟩:=hown.shape;exact⟨gh.v,nY ι S.next gh,ro,rfl, {
     os:=hb.os
     tape:=hb.tape
     output:=hb.output
     size:=hb.size
     frame:=fun k hk _=>hb.block k hk
     cell:=hcell
     mono:=fun _ _ h=>h
     aT:=fun k o h=>aeh (c.aT k o h) hb.size
     fresh:=fun k o h=>.inl h
     kX:=fun id h=>if_neg h
     qD:=fun bq k h hk=>by simp[nY]at h;subst h;exact⟨hown.lt hk,.inl (hblk k hk)⟩
     nX:=fun h=>by cases h
     upd:=fun id o h=>by cases h
     new:=fun o h=>by cases h;exact⟨gh,ys,if_pos rfl,hn,hge,hgs,hown,hrow,fun g hg o hr=>by have:=c.aT g o hr;have:=hblk g hg;omega⟩
     val:=by rw[<- hn];exact .row gh t S.next ad cap (if_pos rfl) hge hgs hgv had }⟩
   ·cases h
  | false =>
   rw[hfr]at h;simp only[cond_false]at h;split at h
   ·rename_i ok res hres;cases h;have hok:ok=true:=hok;subst hok;obtain⟨hfn,mJ⟩:=hO.1 f xs res hres;refine .inr (.inr ⟨f,_,enter hfn,(mJ w ro _ (args xs hxs) c.aT).mono fun e w' he=>?_⟩);obtain⟨v,rfl,hb,hr⟩:=he;have hcell:∀k o,ro k o->w'.cell? ⟨k,o,none⟩=w.cell? ⟨k,o,none⟩:=fun k o h=>hb.cell (p:=⟨k,o,none⟩) (c.aT k o h)
    refine⟨v,ι,_,rfl, {
     os:=hb.os
     tape:=hb.tape
     output:=hb.output
     size:=hb.size
     frame:=fun k hk _=>hb.block k hk
     cell:=hcell
     mono:=fun _ _ h=>.inl h
     aT:=fun k o h=>by
      rcases h with h | ⟨_,h⟩
      ·exact aeh (c.aT k o h) hb.size
      ·exact h
     fresh:=fun k o h=>by grind
     kX:=fun _ _=>rfl
     qD:=fun gh k h=>by rw[c.fresh]at h;cases h
     nX:=fun _=>rfl
     upd:=fun id o h=>by cases h
     new:=fun o h=>by cases h
     val:=PL hr }⟩
   ·cases h
 ·cases h
theorem aol(_:Ctx E S asm a w ι ro){O:aI E}(_:aK E O){o:Oper}{f:FuncId}{kS:Operand}{as:Array Operand}{ts:Array TypeId}(_:o.op = .call { callee:=.value kS,args:=as,argTypes:=ts })(_:a.eval kS = .func (.func f) #[] #[])
  {r:gu E} (h:Vz O f (bY S.tmps asm as)=some r) (_:r.ok=true):bL E o a w ι ro S.next r:=by
 unfold Vz at h;cases h
theorem aom(_:Ctx E S asm a w ι ro){O:aI E}(_:aK E O){o:Oper}{f:FuncId}{kS:Operand}{as:Array Operand}{ts:Array TypeId}(_:o.op = .call { callee:=.value kS,args:=as,argTypes:=ts })(_:a.eval kS = .func (.func f) #[] #[])
  {r:gu E} (h:Vv O S.objs f ts.toList (bY S.tmps asm as)=some r) (_:r.ok=true):bL E o a w ι ro S.next r:=by
 unfold Vv at h;cases h
theorem SL{w':World}{ro':Nat->Nat->Prop}{v:Value}{c:bC E.Den}(h:afL c=true)(hr:dO E w ro v c):dO E w' ro' v c:=by cases hr<;>first | exact .bool _ | exact .int _ _ | exact .str _ | cases h
theorem adu{w':World}{ro':Nat->Nat->Prop}{v:Value}{t:E.Ty}{x:E.Den t}(h:(E.cells t x).all afL=true)(hr:uF E w ro v t x):uF E w' ro' v t x:=by
 rw[ahn]at h;rcases hr with⟨ha,vs,hv,hrow⟩ | ⟨ha,c,hc,hd⟩
 ·exact .inl ⟨ha,vs,hv,hrow.1,fun j u c hu hc=>SL (h c (agC hc)) (hrow.2 j u c hu hc)⟩
 ·exact .inr ⟨ha,c,hc,SL (h c (by rw[hc];exact abd)) hd⟩
theorem adv{w':World}{ro':Nat->Nat->Prop}:∀{vs:List Value} {rs:List (TV E)},Vw rs=true->fQ E w ro vs rs->fQ E w' ro' vs rs
 | [],[],_,_=>trivial
 | v::vs,⟨t,x⟩::r,h,hr=>by simp only[Vw,abj]at h;exact⟨adu h.1 hr.1,adv h.2 hr.2⟩
 | [],_::_,_,h=>h.elim
 | _::_,[],_,h=>h.elim
theorem aum{w':World}{ro':Nat->Nat->Prop}{v:Value}{rs:List (TV E)}(h:Vw rs=true)(hr:pQ E w ro v rs):pQ E w' ro' v rs:=by
 unfold pQ at hr ⊢;split at hr
 ·simp only[Vw,abj]at h;exact adu h.1 hr
 ·obtain⟨vs,hv,ha⟩:=hr;exact⟨vs,hv,adv h ha⟩
def VG(E:Env P)(objs:List (Nat×aS E))(ι:Nat->Option Gh)(ro:Nat->Nat->Prop):Nat->Nat->Prop:=fun k o=>ro k o\/∃id t l gh,look objs id=some (.row t l)/\ι id=some gh/\gh.blk=some k
theorem adw(c:Ctx E S asm a w ι ro){v:Value}{x:AV E}(h:aO E w ro ι v x):aO E w (VG E S.objs ι ro) ι v (an6 S.objs x):=by
 have hro:∀k o,ro k o->VG E S.objs ι ro k o:=fun _ _ h=>.inl h
 have hm:=h.mono (ro':=VG E S.objs ι ro) hro (fun _ _ _=>rfl) (fun _ _ h=>h);cases h with
 | row gh t id ad cap hi h2 h3 h4 h5 =>
  show aO E w _ ι gh.v (match look S.objs id with | some (.row t' l)=>.d (.slice t' l) | _=>.row t gh.n id);split
  ·rename_i t' l bW;obtain⟨bq,ys,hi',hn,hge,hgs,hown,hrow,iw⟩:=c.objs id _ bW;rw[hi]at hi';cases hi';refine .d _ _ (I6 (xs:=ys) (b:=gh.blk) ?_ (fun g o hg _=>.inr ⟨id,t',l,gh,bW,hi,hg⟩) (hrow.mono hro (fun _ _ _=>rfl)));rcases hown with⟨h,hb⟩ | ⟨h0,h1,h2,h3⟩
   ·grind
   grind
  ·exact hm
 | _=>exact hm
theorem aon(c:Ctx E S asm a w ι ro){v:Value}{x:AV E}(h:aO E w ro ι v x):aO E w (VG E S.objs ι ro) ι v (aqQ S.objs x):=by
 have h1:=adw c h;cases h with
 | agg vs cs hs hi =>
  refine .agg vs _ (by simp[hs]) fun j v y hv hy=>?_
  rw[adT]at hy;cases hx:cs[j]? with
  | none=>rw[hx]at hy;cases hy
  | some z=>rw[hx]at hy;cases hy;exact adw c (hi j v z hv hx)
 | _=>exact h1
theorem aoo(c:Ctx E S asm a w ι ro){O:aI E}(hO:aK E O){o:Oper}{f:FuncId}{kS:Operand}{as:Array Operand}{ts:Array TypeId}(ho:o.op = .call { callee:=.value kS,args:=as,argTypes:=ts })(hfo:a.eval kS = .func (.func f) #[] #[])
  {r:gu E} (h:Vx O S.objs f ts.toList (bY S.tmps asm as)=some r) (hok:r.ok=true):bL E o a w ι ro S.next r:=by
 unfold Vx at h;split at h
 ·split at h
  ·rename_i xs hxs;split at h
   ·rename_i ok res hres;split at h
    ·rename_i hfl;cases h;have hok:ok=true:=hok;subst hok;have kH:∀k o,VG E S.objs ι ro k o->k<w.heap.size:=by
      rintro k o (h | ⟨id,t,l,gh,h1,h2,h3⟩)
      ·exact c.aT k o h
      ·obtain⟨bq,ys,hi',hn,hge,hgs,hown,hrow,iw⟩:=c.objs id _ h1;rw[h2]at hi';cases hi';exact hown.lt h3
     have args:fQ E w (VG E S.objs ι ro) (as.toList.map a.eval) xs :=
      vI (ι:=ι) ts.toList _ _ xs (by simp[bY]) (fun i v x hv hx=>by
       rw[adT]at hx;unfold bY at hx;rw[adT]at hv hx;cases hi':as.toList[i]? with
       | none=>rw[hi']at hv;cases hv
       | some y =>rw[hi']at hv hx;cases hv;cases hx;exact aon c (c.get y)) hxs
     obtain⟨hfn,mJ⟩:=hO.1 f xs res hres;have enter:=Ga (a:=a) (w:=w) (P:=P) ho hfo hfn;refine .inr (.inr ⟨f,_,enter,(mJ w _ _ args kH).mono fun e w' he=>?_⟩);obtain⟨v,rfl,hb,hr⟩:=he;refine⟨v,ι,ro,rfl, {
      os:=hb.os
      tape:=hb.tape
      output:=hb.output
      size:=hb.size
      frame:=fun k hk _=>hb.block k hk
      cell:=fun k o h=>hb.cell (p:=⟨k,o,none⟩) (c.aT k o h)
      mono:=fun _ _ h=>h
      aT:=fun k o h=>aeh (c.aT k o h) hb.size
      fresh:=fun k o h=>.inl h
      kX:=fun id h=>rfl
      qD:=fun bq k h hk=>by rw[c.fresh]at h;cases h
      nX:=fun h=>rfl
      upd:=fun id o h=>by cases h
      new:=fun o h=>by cases h
      val:=PL (aum hfl hr) }⟩
    ·cases h
   ·cases h
  ·cases h
 ·cases h
theorem abJ:∀{cs:List (AV E)} {ds:List (bC E.Den)},agB cs=some ds->cs=ds.map Dn.d
 | [],ds,h=>by cases h;rfl
 | v::r,ds,h=>by
  unfold agB at h;split at h
  ·rename_i heq;cases heq
  ·rename_i c r' heq;cases heq;split at h
   ·rename_i l hl;cases h;rw[abJ hl];rfl
   ·cases h
  ·cases h
def aop(E:Env P)(objs:List (Nat×aS E))(ι:Nat->Option Gh)(ro:Nat->Nat->Prop):Nat->Nat->Prop:=fun k o=>ro k o\/∃id cs gh,look objs id=some (.box cs)/\ι id=some gh/\gh.blk=some k
theorem Ij(c:Ctx E S asm a w ι ro):∀{args xs:List (AV E)} {vals:List Value},PG S.objs args=some xs->vals.length=args.length->(∀(i:Nat) v x,vals[i]? = some v->args[i]? = some x->aO E w ro ι v x) ->
  vals.length=xs.length/\∀(i:Nat) v x,vals[i]? = some v->xs[i]? = some x->aO E w (aop E S.objs ι ro) (fun _=>none) v x
 | [],xs,vals,h,hl,_=>by cases h;exact⟨hl,fun i v x _ hx=>by simp at hx⟩
 | y::r,xs,vals,h,hl,hr=>by
  match vals,hl with
  | u::us,hl =>
   have hu:=hr 0 u y rfl rfl;have WJ:=fun i v x (hv:us[i]? = some v) (hx:r[i]? = some x)=>hr (i+1) v x (by simpa using hv) (by simpa using hx)
   have hl':us.length=r.length:=by simpa using hl
   unfold PG at h;split at h
   ·rename_i heq;cases heq
   ·rename_i id off r' heq;cases heq;split at h
    ·rename_i cs bW;split at h
     ·rename_i ds hds;split at h
      ·rename_i l hl2;cases h;obtain⟨q1,q2⟩:=Ij c hl2 hl' WJ;refine⟨by simpa using q1,fun i v x hv hx=>?_⟩;cases i with
       | succ i=>exact q2 i v x (by simpa using hv) (by simpa using hx)
       | zero =>
        simp only[al7,Option.some.injEq]at hv hx;subst hv;subst hx;obtain⟨gh,g,vs,e,hi,hgv,hblk,hh,hsz,hcell,iw,_⟩:=c.objs id _ bW;cases hu with
        | ptr bq g' id' off' hi' EG =>
         rw[hi]at hi';cases hi';rw[hgv]at EG;cases EG;have hcs:=abJ hds;refine .ko g off (fun j=>vs.getD (off+j) undef) (ds.drop off) (fun j c' hj=>?_) (fun j c' hj=>?_)
         ·rw[aeE]at hj;have hlt:off+j<vs.size:=by rw[hsz,hcs,List.length_map];exact(List.getElem?_eq_some_iff.1 hj).1
          refine⟨.inr ⟨id,cs,gh,bW,hi,hblk⟩,?_⟩;simp[World.cell?,hh,Array.getD,hlt]
         ·rw[aeE]at hj;have hlt:off+j<vs.size:=by rw[hsz,hcs,List.length_map];exact(List.getElem?_eq_some_iff.1 hj).1
          have h1:vs[off+j]? = some (vs.getD (off+j) undef):=by simp[Array.getD,hlt]
          have h2:cs[off+j]? = some (.d c'):=by rw[hcs,adT,hj];rfl
          have:=(hcell _ _ _ h1 h2).2;generalize vs.getD (off+j) undef=vq at this ⊢;cases this with
          | d _ _ hd=>exact hd.mono (fun _ _ h=>.inl h) (fun _ _ _=>rfl)
      ·cases h
     ·cases h
    ·cases h
   ·rename_i c' r' heq;cases heq;split at h
    ·rename_i l hl2;cases h;obtain⟨q1,q2⟩:=Ij c hl2 hl' WJ;refine⟨by simpa using q1,fun i v x hv hx=>?_⟩;cases i with
     | succ i=>exact q2 i v x (by simpa using hv) (by simpa using hx)
     | zero =>
      simp only[al7,Option.some.injEq]at hv hx;subst hv;subst hx;cases hu with
      | d _ _ hd=>exact .d _ _ (hd.mono (fun _ _ h=>.inl h) (fun _ _ _=>rfl))
    ·cases h
   ·rename_i t' x' r' heq;cases heq;split at h
    ·rename_i l hl2;cases h;obtain⟨q1,q2⟩:=Ij c hl2 hl' WJ;refine⟨by simpa using q1,fun i v x hv hx=>?_⟩;cases i with
     | succ i=>exact q2 i v x (by simpa using hv) (by simpa using hx)
     | zero =>
      simp only[al7,Option.some.injEq]at hv hx;subst hv;subst hx;cases hu with
      | st vs _ _ ha hrow=>exact .st vs _ _ ha (hrow.mono (fun _ _ h=>.inl h) (fun _ _ _=>rfl))
    ·cases h
   ·rename_i cs r' heq;cases heq;split at h
    ·rename_i ds l hds hl2;cases h;obtain⟨q1,q2⟩:=Ij c hl2 hl' WJ;refine⟨by simpa using q1,fun i v x hv hx=>?_⟩;cases i with
     | succ i=>exact q2 i v x (by simpa using hv) (by simpa using hx)
     | zero =>
      simp only[al7,Option.some.injEq]at hv hx;subst hv;subst hx;cases hu with
      | agg vs _ h1 h2 =>
       refine .agg vs _ h1 fun j v c' hv hj=>?_
       have:=h2 j v c' hv hj;rw[abJ hds,adT]at hj;cases hdj:ds[j]? with
       | none=>rw[hdj]at hj;cases hj
       | some q =>
        rw[hdj]at hj;cases hj;cases this with
        | d _ _ hd=>exact .d _ _ (hd.mono (fun _ _ h=>.inl h) (fun _ _ _=>rfl))
    ·cases h
   ·cases h
theorem aoq(c:Ctx E S asm a w ι ro){O:aI E}(hO:aK E O){o:Oper}{f:FuncId}{kS:Operand}{as:Array Operand}{ts:Array TypeId}(ho:o.op = .call { callee:=.value kS,args:=as,argTypes:=ts })(hfo:a.eval kS = .func (.func f) #[] #[])
  {r:gu E} (h:Vy O S.objs f (bY S.tmps asm as)=some r) (hok:r.ok=true):bL E o a w ι ro S.next r:=by
 unfold Vy at h;split at h
 ·split at h
  ·rename_i xs hxs
   replace h:O.inl.run f xs [] 0 afM=some r:=by grind
   have kH:∀k o,aop E S.objs ι ro k o->k<w.heap.size:=by
    rintro k o (h | ⟨id,cs,gh,h1,h2,h3⟩)
    ·exact c.aT k o h
    ·obtain⟨bq,g,vs,e,hi',_,hblk,hh,_⟩:=c.objs id _ h1;grind
   obtain⟨hl,hargs⟩:=Ij c (vals:=as.toList.map a.eval) hxs (by simp[bY]) (fun i v x hv hx=>by
    unfold bY at hx;rw[adT]at hv hx;cases hi':as.toList[i]? with
    | none=>rw[hi']at hv;cases hv
    | some y =>rw[hi']at hv hx;cases hv;cases hx;exact c.get y)
   obtain⟨hfn,mJ⟩:=hO.2.2.2.2.1 f xs [] 0 afM r h;have enter:=Ga (a:=a) (w:=w) (P:=P) ho hfo hfn;have hb0:Base ⟨w,none,none,[],fun _=>none⟩ (aop E S.objs ι ro) { tmps:=#[],defers:=[] } w (fun _=>none) (aop E S.objs ι ro) :=
    ⟨⟨rfl,rfl,rfl,abn _,fun _ _ _=>rfl⟩,kH,(fun _ _ h=>.inl h),(fun _ _ _ h=>by cases h),rfl,(fun _ h=>by cases h),(fun _ _ h=>by cases h)⟩
   refine .inr (.inr ⟨f,_,enter,(mJ ⟨w,none,none,[],fun _=>none⟩ _ _ w (fun _=>none) _ _ hb0 (fun id o h=>by cases h) (fun id id' o o' gh bq k (h:look [] id=some o)=>by cases h) (fun _ _=>rfl) (fun id o h=>by cases h) hl hargs).mono fun e w' he=>?_⟩);obtain⟨v,x,mI,next',ι',ro',rfl,hk,hrep,hb,_,_,_,_,hcell,_⟩:=he;unfold afM at hk;split at hk
   ·rename_i d;split at hk
    ·rename_i hfl;cases hk;have hbl:=hb.below;refine⟨v,ι,ro,rfl, {
      os:=hbl.os
      tape:=hbl.tape
      output:=hbl.output
      size:=hbl.size
      frame:=fun k hk _=>hbl.block k hk (fun e=>by cases e)
      cell:=fun k o h=>(hcell k o (.inl h)).2
      mono:=fun _ _ h=>h
      aT:=fun k o h=>aeh (c.aT k o h) hbl.size
      fresh:=fun k o h=>.inl h
      kX:=fun id h=>rfl
      qD:=fun bq k h hk=>by rw[c.fresh]at h;cases h
      nX:=fun h=>rfl
      upd:=fun id o h=>by cases h
      new:=fun o h=>by cases h
      val:=by
       cases hrep with
       | d _ _ hd=>exact .d _ _ (SL hfl hd) }⟩
    ·cases hk
   ·cases hk
  ·cases h
 ·cases h
theorem VH{vs us:List Value}{p q:List (AV E)}(hl:vs.length=p.length)(h1:∀(j:Nat) v c,vs[j]? = some v->p[j]? = some c->aO E w ro ι v c)(h2:∀(j:Nat) v c,us[j]? = some v->q[j]? = some c->aO E w ro ι v c) :
  ∀(j:Nat) v c,(vs++us)[j]? = some v->(p++q)[j]? = some c->aO E w ro ι v c:=by
 grind
theorem args_at(c:Ctx E S asm a w ι ro)(as:Array Operand):∀(i:Nat) v x,(as.toList.map a.eval)[i]? = some v->(bY S.tmps asm as)[i]? = some x->aO E w ro ι v x:=fun i v x hv hx=>by
 unfold bY at hx;rw[adT]at hv hx;cases hi':as.toList[i]? with
 | none=>rw[hi']at hv;cases hv
 | some y =>rw[hi']at hv hx;cases hv;cases hx;exact c.get y
theorem PN:∀(ts:List E.Ty) (vs:List Value) (as:List (AV E)) (xs:List (TV E)),vs.length=as.length->(∀(i:Nat) v x,vs[i]? = some v->as[i]? = some x->aO E w ro ι v x)->SA ts as=some xs->fQ E w ro vs xs
 | [],[],[],xs,_,_,h=>by cases h;trivial
 | t::ts,v::vs,x::as,xs,hl,hr,h=>by
  unfold SA at h;split at h
  ·rename_i y hy;split at h
   ·rename_i r hr';cases h;exact⟨zD (hr 0 v x rfl rfl) hy,PN ts vs as r (by simpa using hl) (fun i v x hv hx=>hr (i+1) v x (by simpa using hv) (by simpa using hx)) hr'⟩
   ·cases h
  ·cases h
 | [],v::vs,x::as,xs,_,_,h=>by cases h
 | t::ts,[],[],xs,_,_,h=>by cases h
 | [],[],_::_,_,hl,_,_=>by simp at hl
 | [],_::_,[],_,hl,_,_=>by simp at hl
 | _::_,[],_::_,_,hl,_,_=>by simp at hl
 | _::_,_::_,[],_,hl,_,_=>by simp at hl
theorem aun{s:yX E}{v:Value}{x:AV E}{y:Arg E}(h:aO E w ro ι v x)(hs:aue s x=some y):aoj E w ro v y:=by
 unfold aue at hs;split at hs
 ·split at hs
  ·rename_i z hz;cases hs;exact zD h hz
  ·cases hs
 ·rename_i f ps qs f' a b;split at hs
  ·rename_i p q hf hp hq;cases hs;have hf:=aaF hf;subst hf;cases h with
   | fn _ vs us _ _ h1 h2 h3 h4=>exact⟨vs,us,rfl,PN ps vs.toList a p (by simpa using h1) (fun i v x hv hx=>h3 i v x (by simpa using hv) hx) hp,PN qs us.toList b q (by simpa using h2) (fun i v x hv hx=>h4 i v x (by simpa using hv) hx) hq⟩
  ·cases hs
 ·rename_i f f';split at hs
  ·rename_i hf;cases hs;have hf:=aaF hf;subst hf;exact⟨#[], #[],h.jY,trivial,trivial⟩
  ·cases hs
 ·cases hs
theorem adx:∀{ss:List (yX E)} {as:List (AV E)} {xs:List (Arg E)},Vt ss as=some xs->as.length=xs.length/\∀(i:Nat) v x y,as[i]? = some x->xs[i]? = some y->aO E w ro ι v x->aoj E w ro v y
 | [],[],xs,h=>by cases h;exact⟨rfl,fun i v x y hx=>by simp at hx⟩
 | s::ss,x::as,xs,h=>by
  unfold Vt at h;split at h
  ·rename_i y hy;split at h
   ·rename_i r hr;cases h;obtain⟨h1,h2⟩:=adx hr;refine⟨by simp[h1],fun i v x' y' hx hy' hrep=>?_⟩;cases i with
    | zero=>simp at hx hy';subst hx;subst hy';exact aun hrep hy
    | succ i=>grind
   ·cases h
  ·cases h
 | [],_::_,_,h=>by cases h
 | _::_,[],_,h=>by cases h
theorem X4{as:List (AV E)}{r:gu E}:∀{l:List (List (yX E)×(List (Arg E)->Option (Bool×List (TV E))))},XP as l=some r->∃p∈l, ∃xs ok res,Vt p.1 as=some xs/\p.2 xs=some (ok,res)/\r=⟨ok,PE res,none,none⟩
 | [],h=>by cases h
 | p::l,h=>by
  unfold XP at h;have next:XP as l=some r->∃p'∈p::l, ∃xs ok res,Vt p'.1 as=some xs/\p'.2 xs=some (ok,res)/\r=⟨ok,PE res,none,none⟩:=fun h=>by obtain⟨p',hp,q⟩:=X4 h;exact⟨p',abb _ hp,q⟩
  grind
theorem ady{as:List (AV E)}{r:gu E}{l:List (List (yX E)×(List (Arg E)->Option (Bool×List (TV E))))}(h:XP as l=some r):r.upd=none/\r.new=none:=by obtain⟨_,_,_,_,_,_,_,rfl⟩:=X4 h;exact⟨rfl,rfl⟩
theorem ZH(c:Ctx E S asm a w ι ro){O:aI E}(hO:aK E O){o:Oper}{f:FuncId}{vals:List Value}{avs:List (AV E)}(hl:vals.length=avs.length)(hr:∀(i:Nat) v x,vals[i]? = some v->avs[i]? = some x->aO E w ro ι v x)
  (enter:(∃fn,P.funcs[f]? = some fn/\(fn.name == "runtime.NumGoroutine")=false/\fn.body.isNone=false)->(execOp a.eval o).run P w = .ok (.enter f vals.toArray) w) {r:gu E} (h:abH O f avs=some r) (hok:r.ok=true):bL E o a w ι ro S.next r:=by
 obtain⟨p,hp,xs,ok,res,hxs,hres,rfl⟩:=X4 h;have hok:ok=true:=hok;subst hok;obtain⟨hfn,mJ⟩:=hO.2.2.2.2.2.2.2.2 f p xs res hp hres;obtain⟨q1,q2⟩:=adx (w:=w) (ro:=ro) (ι:=ι) hxs;refine .inr (.inr ⟨f,_,enter hfn,(mJ w ro vals (hl.trans q1) (fun i v y hv hy=>?_) c.aT).mono fun e w' he=>?_⟩)
 ·have hi:i<avs.length:=by rw[q1];exact(List.getElem?_eq_some_iff.1 hy).1
  exact q2 i v _ y (aaz hi) hy (hr i v _ hv (aaz hi))
 ·obtain⟨v,rfl,hb,hr⟩:=he;have hcell:∀k o,ro k o->w'.cell? ⟨k,o,none⟩=w.cell? ⟨k,o,none⟩:=fun k o h=>hb.cell (p:=⟨k,o,none⟩) (c.aT k o h)
  exact⟨v,ι,_,rfl, {
   os:=hb.os
   tape:=hb.tape
   output:=hb.output
   size:=hb.size
   frame:=fun k hk _=>hb.block k hk
   cell:=hcell
   mono:=fun _ _ h=>.inl h
   aT:=fun k o h=>by
    rcases h with h | ⟨_,h⟩
    ·exact aeh (c.aT k o h) hb.size
    ·exact h
   fresh:=fun k o h=>by grind
   kX:=fun _ _=>rfl
   qD:=fun gh k h=>by rw[c.fresh]at h;cases h
   nX:=fun _=>rfl
   upd:=fun id o h=>by cases h
   new:=fun o h=>by cases h
   val:=PL hr }⟩
theorem toDs_rep{vs:Array Value}:∀{cs:List (AV E)} {ds:List (bC E.Den)},toDs cs=some ds->cs.length=ds.length/\∀(j:Nat) c d,cs[j]? = some c->ds[j]? = some d->toD c=some d
 | [],ds,h=>by cases h;exact⟨rfl,fun j c d hc=>by simp at hc⟩
 | c::cs,ds,h=>by
  unfold toDs at h;split at h
  ·rename_i d h1;split at h
   ·rename_i ds' h2;cases h;obtain⟨hl,hat⟩:=toDs_rep (vs:=vs) h2;grind
   ·cases h
  ·cases h
theorem aor(c:Ctx E S asm a w ι ro){O:aI E}(hO:aK E O){o:Oper}{f:FuncId}{kS:Operand}{as:Array Operand}{ts:Array TypeId}(ho:o.op = .call { callee:=.value kS,args:=as,argTypes:=ts })(hfo:a.eval kS = .func (.func f) #[] #[])
  {r:gu E} (h:Vu O S.objs f ts.toList (bY S.tmps asm as)=some r) (hok:r.ok=true):bL E o a w ι ro S.next r:=by
 have hargs:∀(i:Nat) v x,(as.toList.map a.eval)[i]? = some v->(bY S.tmps asm as)[i]? = some x->aO E w ro ι v x:=fun i v x hv hx=>by
  unfold bY at hx;rw[adT]at hv hx;cases hi':as.toList[i]? with
  | none=>rw[hi']at hv;cases hv
  | some y =>rw[hi']at hv hx;cases hv;cases hx;exact c.get y
 have hlen:(as.toList.map a.eval).length=(bY S.tmps asm as).length:=by simp[bY]
 have enter:=Ga (a:=a) (w:=w) (P:=P) ho hfo;generalize as.toList.map a.eval=vals at hargs hlen enter;generalize bY S.tmps asm as=avs at h hargs hlen;unfold Vu at h;split at h
 ·cases h
 ·rename_i t hbt;split at h
  ·rename_i T Ts id rest hts;cases vals with
   | nil=>simp at hlen
   | cons v vals =>
    have hr0:=hargs 0 v _ rfl rfl;have hrest:∀(i:Nat) u x,vals[i]? = some u->rest[i]? = some x->aO E w ro ι u x:=fun i u x hu hx=>hargs (i+1) u x (by simpa using hu) (by simpa using hx)
    have hlen':vals.length=rest.length:=by simpa using hlen
    split at h
    ·rename_i cs bW;split at h
     ·rename_i x hx;split at h
      ·rename_i xs hxs;split at h
       ·rename_i ok y res hbf;cases h;have hok:ok=true:=hok;subst hok;have args:=vI (ι:=ι) Ts vals rest xs hlen' hrest hxs;obtain⟨gh,g,vs,e,hi,hgv,hblk,hh,hsz,hcell,iw,hge⟩:=c.objs id _ bW;have hv:v = .pointer (some ⟨g,0,none⟩):=by
         cases hr0 with
         | ptr bq g' _ _ h1 h2=>grind
        subst hv;have hrow:oq E w ro vs (E.cells t x):=by
         unfold afK at hx;split at hx
         ·rename_i ds hds;obtain⟨hl,hat⟩:=toDs_rep (vs:=vs) hds;refine oq.le (E.vF t ds x hx) ⟨by rw[hsz,hl],fun j u d hu hd=>?_⟩;have hj:j<cs.length:=by rw[hl];exact(List.getElem?_eq_some_iff.1 hd).1
          exact toD_rep (hcell j u _ hu (aaz hj)).2 (hat j _ d (aaz hj) hd)
         ·cases hx
        obtain⟨hfn,mJ⟩:=hO.2.2.2.2.2.2.2.1 f t x xs y res hbf;have abK:g<w.heap.size:=by grind
        refine .inr (.inr ⟨f,_,enter hfn,(mJ w ro g e vs vals hh hrow iw args c.aT).mono fun ed w' he=>?_⟩);obtain⟨v,vs',rfl,hgrow,hh',hrow',hret⟩:=he;have azM:∀k o,ro k o->w'.cell? ⟨k,o,none⟩=w.cell? ⟨k,o,none⟩:=fun k o h=>World.cell?_of_block (hgrow.block k (c.aT k o h) (fun e=>by cases e;exact iw o h))
        exact⟨v,ι,fun k o=>ro k o\/(w.heap.size<=k/\k<w'.heap.size),rfl, {
         os:=hgrow.os
         tape:=hgrow.tape
         output:=hgrow.output
         size:=hgrow.size
         frame:=fun k hk hne=>hgrow.block k hk (fun e=>by cases e;exact hne id _ gh rfl hi hblk)
         cell:=azM
         mono:=fun _ _ h=>.inl h
         aT:=fun k o h=>by
          rcases h with h | h
          ·exact aeh (c.aT k o h) hgrow.size
          ·exact h.2
         fresh:=fun k o h=>by grind
         kX:=fun _ _=>rfl
         qD:=fun auo k h _=>by rw[c.fresh]at h;cases h
         nX:=fun _=>rfl
         upd:=fun id' o h=>by
          cases h;refine⟨gh,g,vs',e,hi,hgv,hblk,hh',by rw[hrow'.1,List.length_map],fun j u q hu hq=>?_,fun o h=>?_,hge⟩
          ·rw[adT]at hq;cases hj:(E.cells t y)[j]? with
           | none=>rw[hj]at hq;cases hq
           | some d =>rw[hj]at hq;cases hq;have:=hrow'.2 j u d hu hj;exact⟨this.one,.d _ _ this⟩
          grind
         new:=fun o h=>by cases h
         val:=PL hret }⟩
       ·cases h
      ·cases h
     ·cases h
    ·cases h
  ·cases h
theorem aos(_:Ctx E S asm a w ι ro){O:aI E}(_:aK E O){o:Oper}{f:FuncId}{kS:Operand}{as:Array Operand}{ts:Array TypeId}(_:o.op = .call { callee:=.value kS,args:=as,argTypes:=ts })(_:a.eval kS = .func (.func f) #[] #[])
  {r:gu E} (h:Vs O S.objs f (bY S.tmps asm as)=some r) (_:r.ok=true):bL E o a w ι ro S.next r:=by
 unfold Vs at h;cases h
theorem aot(_:Ctx E S asm a w ι ro){O:aI E}(_:aK E O){o:Oper}{f:FuncId}{kS:Operand}{as:Array Operand}{ts:Array TypeId}(_:o.op = .call { callee:=.value kS,args:=as,argTypes:=ts })(_:a.eval kS = .func (.func f) #[] #[])
  {r:gu E} (h:VA O S.next f (bY S.tmps asm as)=some r) (_:r.ok=true):bL E o a w ι ro S.next r:=by
 unfold VA at h;cases h
theorem aou(c:Ctx E S asm a w ι ro){O:aI E}(hO:aK E O){o:Oper}{f:FuncId}{kS:Operand}{as:Array Operand}{ts:Array TypeId}(ho:o.op = .call { callee:=.value kS,args:=as,argTypes:=ts })(hfo:a.eval kS = .func (.func f) #[] #[])
  {r:gu E} (h:VB O S.objs S.next f ts.toList (bY S.tmps asm as)=some r) (hok:r.ok=true):bL E o a w ι ro S.next r:=by
 have hargs:∀(i:Nat) v x,(as.toList.map a.eval)[i]? = some v->(bY S.tmps asm as)[i]? = some x->aO E w ro ι v x:=fun i v x hv hx=>by
  unfold bY at hx;rw[adT]at hv hx;cases hi':as.toList[i]? with
  | none=>rw[hi']at hv;cases hv
  | some y =>rw[hi']at hv hx;cases hv;cases hx;exact c.get y
 have hlen:(as.toList.map a.eval).length=(bY S.tmps asm as).length:=by simp[bY]
 have enter:=Ga (a:=a) (w:=w) (P:=P) ho hfo;generalize as.toList.map a.eval=vals at hargs hlen enter;generalize bY S.tmps asm as=avs at h hargs hlen;unfold VB at h;split at h
 ·rename_i T Ts t0 n0 id rest hts;cases vals with
  | nil=>simp at hlen
  | cons v vals =>
   have hr0:=hargs 0 v _ rfl rfl;have hrest:∀(i:Nat) u x,vals[i]? = some u->rest[i]? = some x->aO E w ro ι u x:=fun i u x hu hx=>hargs (i+1) u x (by simpa using hu) (by simpa using hx)
   have hlen':vals.length=rest.length:=by simpa using hlen
   split at h
   ·rename_i t l bW;split at h
    ·rename_i xs hxs;have args:=vI (ι:=ι) Ts vals rest xs hlen' hrest hxs;obtain⟨gh,ys,hi,hn,hge,hgs,hown,hrow,iw⟩:=c.objs id _ bW;have hv:v=gh.v:=by
      cases hr0 with
      | row bq _ _ ad cap h1 h2 h3 h4 h5=>rw[h1]at hi;cases hi;rfl
     subst hv;split at h
     ·rename_i ok l' hres;cases h;have hok:ok=true:=hok;subst hok;obtain⟨hfn,mJ⟩:=hO.2.2.1 f t l xs true l' hres;refine .inr (.inr ⟨f,_,enter hfn,(mJ w ro gh ys vals hn hge hgs hown hrow iw args c.aT).mono fun e w' he=>?_⟩);obtain⟨val,bq,ys',rfl,hgrow,hn',hge',hgs',hown',hrow',hblk,hback,_⟩:=he;obtain rfl:=hback rfl;have hcell:∀k o,ro k o->w'.cell? ⟨k,o,none⟩=w.cell? ⟨k,o,none⟩:=fun k o h=>World.cell?_of_block (hgrow.block k (c.aT k o h) (fun e=>iw k e.symm o h))
      obtain⟨ad,cap,hgv,had⟩:=hown'.shape;exact⟨bq.v,nY ι S.next bq,fun k o=>ro k o\/(bq.blk≠some k/\(gh.blk=some k\/w.heap.size<=k/\k<w'.heap.size)),rfl, {
       os:=hgrow.os
       tape:=hgrow.tape
       output:=hgrow.output
       size:=hgrow.size
       frame:=fun k hk hne=>hgrow.block k hk (fun e=>hne id _ gh rfl hi e.symm)
       cell:=hcell
       mono:=fun _ _ h=>.inl h
       aT:=fun k o h=>by
        rcases h with h | ⟨_,h | h⟩
        ·exact aeh (c.aT k o h) hgrow.size
        ·exact aeh (hown.lt h) hgrow.size
        ·exact h.2
       fresh:=fun k o h=>by
        rcases h with h | ⟨_,h | h⟩
        ·exact .inl h
        ·exact .inr (.inr ⟨id,_,gh,rfl,hi,h⟩)
        ·exact .inr (.inl h.1)
       kX:=fun id h=>if_neg h
       qD:=fun auo k h hk=>by
        simp[nY]at h;subst h;refine⟨hown'.lt hk,?_⟩;rcases hblk k hk with h | h
        ·exact .inr ⟨id,_,gh,rfl,rfl,hi,h⟩
        ·exact .inl h
       nX:=fun h=>by cases h
       upd:=fun id o h=>by cases h;trivial
       new:=fun o h=>by
        cases h;refine⟨bq,ys',if_pos rfl,hn',hge',hgs',hown',hrow',fun g hg o hr=>?_⟩;rcases hr with hr | ⟨hne,_⟩
        rotate_left
        ·exact hne hg
        rcases hblk g hg with h | h
        ·exact iw g h o hr
        ·have:=c.aT g o hr;omega
       val:=by rw[<- hn'];exact .row bq t S.next ad cap (if_pos rfl) hge' hgs' hgv had }⟩
     ·rename_i ok l' hres;cases h;have hok:ok=true:=hok;subst hok;obtain⟨hfn,mJ⟩:=hO.2.2.1 f t l xs false l' hres;refine .inr (.inr ⟨f,_,enter hfn,(mJ w ro gh ys vals hn hge hgs hown hrow iw args c.aT).mono fun e w' he=>?_⟩);obtain⟨val,bq,ys',rfl,hgrow,hn',hge',hgs',hown',hrow',hblk,_,hsame⟩:=he;obtain rfl:=hsame rfl;have hcell:∀k o,ro k o->w'.cell? ⟨k,o,none⟩=w.cell? ⟨k,o,none⟩:=fun k o h=>World.cell?_of_block (hgrow.block k (c.aT k o h) (fun e=>iw k e.symm o h))
      exact⟨val,ι,fun k o=>ro k o\/(bq.blk≠some k/\(bq.blk=some k\/w.heap.size<=k/\k<w'.heap.size)),rfl, {
       os:=hgrow.os
       tape:=hgrow.tape
       output:=hgrow.output
       size:=hgrow.size
       frame:=fun k hk hne=>hgrow.block k hk (fun e=>hne id _ bq rfl hi e.symm)
       cell:=hcell
       mono:=fun _ _ h=>.inl h
       aT:=fun k o h=>by
        rcases h with h | ⟨_,h | h⟩
        ·exact aeh (c.aT k o h) hgrow.size
        ·exact aeh (hown.lt h) hgrow.size
        ·exact h.2
       fresh:=fun k o h=>by grind
       kX:=fun id h=>rfl
       qD:=fun auo k h hk=>by rw[c.fresh]at h;cases h
       nX:=fun h=>rfl
       upd:=fun id' o h=>by
        cases h;exact⟨bq,ys',hi,hn',hge',hgs',hown',hrow',fun g hg o hr=>by
         rcases hr with hr | ⟨hne,_⟩
         ·exact iw g hg o hr
         ·exact hne hg⟩
       new:=fun o h=>by cases h
       val:=.any _ }⟩
     ·cases h
    ·cases h
   ·cases h
 ·rename_i T Ts rest hts;cases vals with
  | nil=>simp at hlen
  | cons v vals =>
   have e1:=(hargs 0 v _ rfl rfl).jY;subst e1;have hrest:∀(i:Nat) u x,vals[i]? = some u->rest[i]? = some x->aO E w ro ι u x:=fun i u x hu hx=>hargs (i+1) u x (by simpa using hu) (by simpa using hx)
   have hlen':vals.length=rest.length:=by simpa using hlen
   split at h
   ·rename_i e he;split at h
    ·rename_i t ht;split at h
     ·rename_i xs hxs;have args:=vI (ι:=ι) Ts vals rest xs hlen' hrest hxs;split at h
      ·rename_i ok l' hres;cases h;have hok:ok=true:=hok;subst hok;obtain⟨hfn,mJ⟩:=hO.2.2.1 f t [] xs true l' hres;refine .inr (.inr ⟨f,_,enter hfn,(mJ w ro ⟨.slice none 0 0,0,E.tid t,E.size t,none⟩ [] vals rfl rfl rfl (.inl ⟨World.ownsRow_nil w 0 _ _,rfl⟩) (fun i x j cc h=>by simp at h) (fun g hg=>by cases hg) args c.aT).mono fun e w' he=>?_⟩);obtain⟨val,bq,ys',rfl,hgrow,hn',hge',hgs',hown',hrow',hblk,hback,_⟩:=he;obtain rfl:=hback rfl;have hcell:∀k o,ro k o->w'.cell? ⟨k,o,none⟩=w.cell? ⟨k,o,none⟩:=fun k o h=>World.cell?_of_block (hgrow.block k (c.aT k o h) (fun e=>by cases e))
       obtain⟨ad,cap,hgv,had⟩:=hown'.shape;exact⟨bq.v,nY ι S.next bq,fun k o=>ro k o\/(bq.blk≠some k/\((none:Option Nat)=some k\/w.heap.size<=k/\k<w'.heap.size)),rfl, {
        os:=hgrow.os
        tape:=hgrow.tape
        output:=hgrow.output
        size:=hgrow.size
        frame:=fun k hk _=>hgrow.block k hk (fun e=>by cases e)
        cell:=hcell
        mono:=fun _ _ h=>.inl h
        aT:=fun k o h=>by
         rcases h with h | ⟨_,h | h⟩
         ·exact aeh (c.aT k o h) hgrow.size
         ·cases h
         ·exact h.2
        fresh:=fun k o h=>by
         rcases h with h | ⟨_,h | h⟩
         ·exact .inl h
         ·cases h
         ·exact .inr (.inl h.1)
        kX:=fun id h=>if_neg h
        qD:=fun auo k h hk=>by
         simp[nY]at h;subst h;refine⟨hown'.lt hk,?_⟩;rcases hblk k hk with h | h
         ·cases h
         ·exact .inl h
        nX:=fun h=>by cases h
        upd:=fun id o h=>by cases h
        new:=fun o h=>by
         cases h;refine⟨bq,ys',if_pos rfl,hn',hge',hgs',hown',hrow',fun g hg o hr=>?_⟩;rcases hr with hr | ⟨hne,_⟩
         ·rcases hblk g hg with h | h
          ·cases h
          ·have:=c.aT g o hr;omega
         ·exact hne hg
        val:=by rw[<- hn'];exact .row bq t S.next ad cap (if_pos rfl) hge' hgs' hgv had }⟩
      ·cases h
     ·cases h
    ·cases h
   ·cases h
 ·cases h
theorem ZI(c:Ctx E S asm a w ι ro){o:Oper}{T:TypeId}{n:Nat}{ps:Array (Nat×Operand)}(ho:o.op = .buildSlice T n ps){r:gu E}(h:EF S.next T n (rA S.tmps asm ps)=some r) :
  bL E o a w ι ro S.next r:=by
 unfold EF at h;split at h
 ·rename_i hps;split at h
  ·rename_i e he;split at h
   ·rename_i t ht;cases h;have auk:=E.NW e t ht;subst auk;have hu:=pO he;have aEb:ps = #[]:=by
     have:ps.toList=[]:=by simpa[rA]using hps
     simpa using this
    subst aEb;let gh:Gh:=⟨.slice (some ⟨w.heap.size,0,none⟩) 0 0,0,E.tid t,E.size t,none⟩
    refine .inl ⟨gh.v,w.alloc (.cells #[] (E.tid t)),nY ι S.next gh,ro,?_, {
     os:=rfl
     tape:=rfl
     output:=rfl
     size:=by simp
     frame:=fun k hk _=>heap_alloc_old w _ hk
     cell:=fun k o h=>Ar w _ (c.aT k o h) o
     mono:=fun _ _ h=>h
     aT:=fun k o h=>by have:=c.aT k o h;simp;omega
     fresh:=fun k o h=>.inl h
     kX:=fun id h=>if_neg h
     qD:=fun bq k h hk=>by simp[nY]at h;subst h;cases hk
     nX:=fun h=>by cases h
     upd:=fun id o h=>by cases h
     new:=fun o h=>by cases h;exact⟨gh,[],if_pos rfl,rfl,rfl,rfl,.inr ⟨rfl,rfl,rfl,_,rfl⟩,fun i x j cc h=>by simp at h,fun g hg=>by cases hg⟩
     val:=.row gh t S.next _ 0 (if_pos rfl) rfl rfl rfl (fun h=>by cases h) }⟩
    simp only[execOp,ho,Instr.buildSlice];simp only[Sem.run_bind,run_underlying hu,Result.andThen_ok,rD,Nat.zero_mul];have e0:Array.map (fun _=>(default:Value)) (Array.range 0) = #[]:=ajb (by simp);simp[Instr.fill,newRow,gh,e0]
   ·cases h
  ·cases h
 ·cases h
theorem aq3(_:Ctx E S asm a w ι ro){o:Oper}{T:TypeId}{n m:Operand}(_:o.op = .makeSlice T n m){r:gu E}(h:Zw S.next T (bF S.tmps asm n) (bF S.tmps asm m)=some r)(_:r.ok=true):bL E o a w ι ro S.next r:=by unfold Zw at h;cases h
theorem aq4(_:Ctx E S asm a w ι ro){o:Oper}{T:TypeId}{d s:Operand}(_:o.op = .call { callee:=.builtin .copy,args:=#[d,s],argTypes:=#[T,T] }){r:gu E}
  (h:Zx S.objs T (bF S.tmps asm d) (bF S.tmps asm s)=some r):bL E o a w ι ro S.next r:=by
 unfold Zx at h;cases h
theorem agN(_:Ctx E S asm a w ι ro){o:Oper}{T T':TypeId}{big:Bool}{x y:Operand}(_:o.op = .call { callee:=.builtin (bif big then .max else .min),args:=#[x,y],argTypes:=#[T,T'] }){r:AV E}
  (h:afN big T (bF S.tmps asm x) (bF S.tmps asm y)=some r):bL E o a w ι ro S.next (.pure r):=by
 unfold afN at h;cases h
theorem agO(_:Ctx E S asm a w ι ro){o:Oper}{T:TypeId}(_:o.op = .makeMap T none){r:gu E}(h:Ma S.next T=some r):bL E o a w ι ro S.next r:=by unfold Ma at h;cases h
theorem akq(_:Ctx E S asm a w ι ro){o:Oper}{T:TypeId}{x i:Operand}{ok:Bool}(_:o.op = .lookup T x i ok){r:AV E}(h:XQ S.objs T (bF S.tmps asm x) (bF S.tmps asm i) ok=some r):bL E o a w ι ro S.next (.pure r):=by unfold XQ at h;cases h
theorem agP(_:Ctx E S asm a w ι ro){o:Oper}{T:TypeId}{x i:Operand}{ok:Bool}(_:o.op = .lookup T x i ok){r:AV E}(h:SB T (bF S.tmps asm x) (bF S.tmps asm i) ok=some r):bL E o a w ι ro S.next (.pure r):=by unfold SB at h;cases h
theorem axJ{v:Value}{t:E.Ty}{m id:Nat}(h:aO E w ro ι v (.row t m id)):∃ad cap,v = .slice ad m cap/\(0<m->∃g,ad=some ⟨g,0,none⟩):=by
 cases h with
 | row gh _ _ ad cap h1 h2 h3 h4 h5=>exact⟨ad,cap,h4,h5⟩
theorem aq5{T e:TypeId}(hu:P.underlying T=some (.slice e))(d:Nat)(ad:Option Addr)(n cp:Nat):(Op.equalIn (d+1) T (.slice ad n cp) (.slice none 0 0)).run P w = .ok ad.isNone w:=by cases ad<;>simp[Op.equalIn,run_underlying hu]
theorem X6{T:TypeId}{e1 e2:Array TypeId}{e3:Bool}(hu:P.underlying T=some (.func e1 e2 e3))(d:Nat)(v:Value)(b:Bool)(h:(v = .nilFunc/\b=true)\/(∃f x y,v = .func f x y)/\b=false):(Op.equalIn (d+1) T v .nilFunc).run P w = .ok b w:=by rcases h with⟨rfl,rfl⟩ | ⟨⟨f,x,y,rfl⟩,rfl⟩<;>simp[Op.equalIn,run_underlying hu]
theorem al4{T e1 e2:TypeId}(hu:P.underlying T=some (.map e1 e2))(d:Nat)(r:Option Nat):(Op.equalIn (d+1) T (.map r) (.map none)).run P w = .ok r.isNone w:=by cases r<;>simp[Op.equalIn,run_underlying hu]
theorem VI{T e:TypeId}(hu:P.underlying T=some (.pointer e))(d:Nat)(r:Option Addr):(Op.equalIn (d+1) T (.pointer r) (.pointer none)).run P w = .ok r.isNone w:=by cases r<;>simp[Op.equalIn,run_underlying hu]
def NZ:Value->Value->Bool
 | .slice _ _ _,.slice none _ _=>true
 | .func _ _ _,.nilFunc=>true
 | .nilFunc,.nilFunc=>true
 | .map _,.map none=>true
 | .pointer _,.pointer none=>true
 | _,_=>false
theorem akr{T:TypeId}{X Y:AV E}{ok b:Bool}(h:an3 T X Y=some (ok,b))(hok:ok=true){vx vy:Value}(hx:aO E w ro ι vx X)(hy:aO E w ro ι vy Y):(Op.equal T vx vy).run P w = .ok b w/\NZ vx vy=true:=by
 show(Op.equalIn (9999+1) T vx vy).run P w = .ok b w/\NZ vx vy=true;unfold an3 at h;split at h
 ·rename_i e hu;have hy:=hy.jY;subst hy;have go:∀(ad:Option Addr) (n cp:Nat),vx = .slice ad n cp->b=ad.isNone->(Op.equalIn (9999+1) T vx (.slice none 0 0)).run P w = .ok b w/\NZ vx (.slice none 0 0)=true:=fun ad n cp e1 e2=>by
   subst e1;subst e2;exact⟨aq5 hu 9999 ad n cp,rfl⟩
  unfold aqK at h;split at h
  ·cases h;exact go none 0 0 hx.jY rfl
  ·rename_i t l;cases h;cases hx with
   | d _ _ hd =>obtain⟨ad,cap,rfl,hs⟩:=hd.qU;grind
  ·rename_i t l id;cases h;cases hx with
   | grow gh _ _ _ h1 h2 h3 h4 hd =>obtain⟨ad,cap,hv,hs⟩:=hd.qU;grind
  ·rename_i t n id;cases h;obtain⟨ad,cap,hv,hg⟩:=axJ hx;obtain⟨g,rfl⟩:=hg (by simpa[Nat.blt_eq]using hok);exact go _ _ _ hv rfl
  ·cases h
 ·rename_i e1 e2 e3 hu;have hy:=hy.jY;subst hy;unfold aqL at h;split at h
  ·cases h;have:=hx.jY;subst this;exact⟨X6 hu 9999 _ _ (.inl ⟨rfl,rfl⟩),rfl⟩
  ·cases h;have:=hx.jY;subst this;exact⟨X6 hu 9999 _ _ (.inr ⟨⟨_,_,_,rfl⟩,rfl⟩),rfl⟩
  ·cases h;cases hx with
   | fn=>exact⟨X6 hu 9999 _ _ (.inr ⟨⟨_,_,_,rfl⟩,rfl⟩),rfl⟩
  ·cases h
 ·rename_i e1 e2 hu;have hy:=hy.jY;subst hy;unfold aqM at h;split at h
  ·cases h;have:=hx.jY;subst this;exact⟨al4 hu 9999 none,rfl⟩
  ·cases h;cases hx with
   | mp gh g=>exact⟨al4 hu 9999 (some g),rfl⟩
  ·cases h
 ·rename_i e1 hu;have hy:=hy.jY;subst hy;unfold aqN at h;split at h
  ·cases h;have:=hx.jY;subst this;exact⟨VI hu 9999 none,rfl⟩
  ·cases h;cases hx with
   | ptr=>exact⟨VI hu 9999 (some _),rfl⟩
  ·cases h;cases hx with
   | ko=>exact⟨VI hu 9999 (some _),rfl⟩
  ·cases h;cases hx with
   | elt=>exact⟨VI hu 9999 (some _),rfl⟩
  ·cases h
 ·cases h
theorem aup(c:Ctx E S asm a w ι ro){o:Oper}{op:BinOp}{T T':TypeId}{x y:Operand}(ho:o.op = .binOp op T x y T'){r:Bool×AV E}(h:an4 op T (bF S.tmps asm x) (bF S.tmps asm y)=some r)(hok:r.1=true):bL E o a w ι ro S.next (.test r.1 r.2):=by
 have hx:=c.get x;have hy:=c.get y;generalize gW:a.eval x=vx at hx;generalize EH:a.eval y=vy at hy;generalize bF S.tmps asm x=X at *;generalize bF S.tmps asm y=Y at *;unfold an4 at h;split at h
 ·rename_i ok b hm hb;have hok':ok=true:=by
   grind
  obtain⟨hr,hp⟩:=akr hb hok' hx hy;split at h
  ·cases h;refine .pure c.aT c.fresh (val:=.bool b) ?_ rfl rfl (.d _ _ (.bool _));unfold NZ at hp;split at hp<;>first | (cases hp;done) | simp[execOp,ho,gW,EH,eqGuard,binOp,hr]
  ·cases h;refine .pure c.aT c.fresh (val:=.bool !b) ?_ rfl rfl (.d _ _ (.bool _));unfold NZ at hp;split at hp<;>first | (cases hp;done) | simp[execOp,ho,gW,EH,eqGuard,binOp,hr]
  ·cases h
 ·cases h
theorem aks(_:Ctx E S asm a w ι ro){o:Oper}{T:TypeId}{m i x:Operand}(_:o.op = .mapUpdate T m i x){u:Nat×aS E}(h:PI S.objs T (bF S.tmps asm m) (bF S.tmps asm i) (bF S.tmps asm x)=some u):bL E o a w ι ro S.next ⟨true,.any,some u,none⟩:=by unfold PI at h;cases h
theorem fJ{α β:Type}{f:α->β}{x:Option α}{y:β}(h:x.map f=some y):∃z,x=some z/\f z=y:=by
 cases x with
 | none=>cases h
 | some z=>exact⟨z,rfl,by simpa using h⟩
theorem agQ{α:Type}{as:Array α}{f:α->AV E}{x:AV E}(h:as.toList.map f=[x]):∃s,as = #[s]/\f s=x:=by
 obtain⟨l⟩:=as
 match l,h with
 | [s],h=>exact⟨s,rfl,by simpa using h⟩
theorem SN{α:Type}{as:Array α}{f:α->AV E}{x y:AV E}(h:as.toList.map f=[x,y]):∃s u,as = #[s,u]/\f s=x/\f u=y:=by
 obtain⟨l⟩:=as
 match l,h with
 | [s,u],h=>grind
theorem aov(c:Ctx E S asm a w ι ro){o:Oper}{s:Operand}{ts:Array TypeId}(ho:o.op = .call { callee:=.builtin .unsafeSliceData,args:=#[s],argTypes:=ts }){t:E.Ty}{l:List (E.Den t)}{id:Nat}(hs:bF S.tmps asm s = .grow t l id)(hok:(!l.isEmpty)=true) :
  bL E o a w ι ro S.next (.test (!l.isEmpty) (.sd t l id)):=by
 have hv:=c.get s;rw[hs]at hv;generalize hvs:a.eval s=vs0 at hv;cases hv with
 | grow gh _ _ _ h1 hn he hsz hd =>
  obtain⟨ad,cap,hgv,hd'⟩:=hd.qU;rcases hd' with rfl | ⟨g,off,rfl,hcap,_⟩
  ·cases hok
  ·have hc0:cap≠0:=by
    cases l with
    | nil=>cases hok
    | cons x r=>simp at hcap;omega
   refine .pure c.aT c.fresh (val:=.pointer (some ⟨g,off,none⟩)) ?_ rfl rfl (.sd gh t l id ⟨g,off,none⟩ cap h1 hgv hn he hsz hd);rw[hgv]at hvs;have hrun:=Lib.run_unsafeSliceData_row (P:=P) w ts o.type ⟨g,off,none⟩ l.length cap hc0;simp only[execOp,ho,resolve,invoke,builtin,Sem.run_bind,Sem.run_pure,Result.andThen_ok,am5,aeH,aib,hvs,hrun]
theorem akt(c:Ctx E S asm a w ι ro){o:Oper}{s:Operand}{ts:Array TypeId}(ho:o.op = .call { callee:=.builtin .unsafeSliceData,args:=#[s],argTypes:=ts })(hs:bF S.tmps asm s = .d (.raw (.slice none 0 0))) :
  bL E o a w ι ro S.next (.pure (.d (.raw (.pointer none)))):=by
 have hv:=c.get s;rw[hs]at hv;have hvs:=hv.jY;have hrun:=Lib.run_unsafeSliceData_nil (P:=P) w ts o.type 0 0;refine c.pure (val:=.pointer none) ?_ (.d _ _ (.raw _ rfl));simp only[execOp,ho,resolve,invoke,builtin,Sem.run_bind,Sem.run_pure,Result.andThen_ok,am5,aeH,aib,hvs,hrun]
theorem aow(c:Ctx E S asm a w ι ro){o:Oper}{s u:Operand}{pt it:TypeId}(ho:o.op = .call { callee:=.builtin .unsafeString,args:=#[s,u],argTypes:=#[pt,it] }){n:Int}(hs:bF S.tmps asm s = .d (.raw (.pointer none)))(hu:bF S.tmps asm u = .d (.int .i64 n))(hok:(n==0)=true) :
  bL E o a w ι ro S.next (.test (n==0) (.d (.str []))):=by
 have hv:=c.get s;rw[hs]at hv;have hvs:=hv.jY;have hw:=c.get u;rw[hu]at hw;have hvu:=hw.sV;have hn:=eq_of_beq hok;subst hn;have hrun:=Lib.run_unsafeString_none (P:=P) w pt it o.type none;refine .pure c.aT c.fresh (val:=.string .empty) ?_ rfl rfl (.d _ _ (.str []));simp only[execOp,ho,resolve,invoke,builtin,Sem.run_bind,Sem.run_pure,Result.andThen_ok,am5,aeH,aib,hvs,hvu,hrun]
theorem aq6(_:Ctx E S asm a w ι ro){o:Oper}{s u:Operand}{pt it:TypeId}(_:o.op = .call { callee:=.builtin .unsafeString,args:=#[s,u],argTypes:=#[pt,it] }){t:E.Ty}{l:List (E.Den t)}{id:Nat}{n:Int}(_:bF S.tmps asm s = .sd t l id)(_:bF S.tmps asm u = .d (.int .i64 n))
  {r:gu E} (h:Zu S.objs pt t l id n=some r) (_:r.ok=true):bL E o a w ι ro S.next r:=by
 unfold Zu at h;cases h
theorem al5(c:Ctx E S asm a w ι ro){O:aI E}(hO:aK E O){o:Oper}{r:gu E}(h:kG O S asm o.op=some r)(hok:r.ok=true):bL E o a w ι ro S.next r:=by
 cases hop:o.op with
 | move x=>rw[hop]at h;cases h;exact adp c (.inl hop)
 | assign x=>rw[hop]at h;cases h;exact adp c (.inr hop)
 | pick x y z=>rw[hop]at h;obtain⟨q,hq,rfl⟩:=fJ h;exact aqV c hop hq
 | alloc T =>
  rw[hop]at h;simp only[kG]at h;split at h
  ·rename_i cs hcs;split at h
   ·rename_i hk;cases h;exact aoa c hop hcs hk O
   ·cases h
  ·cases h
 | box T x =>
  rw[hop]at h;simp only[kG]at h;split at h
  ·rename_i cs hcs;cases h;exact aug c hop hcs
  ·cases h
 | build T ps=>rw[hop]at h;obtain⟨q,hq,rfl⟩:=fJ h;exact aoe c hop hq
 | buildSlice T n ps =>
  rw[hop]at h;simp only[kG]at h;split at h
  ·rename_i q hq;cases h;exact ZI c hop hq
  ·split at h
   ·rename_i q hq;cases h;exact ZC c hop hq
   ·exact aeU c hop h
 | makeFunc f x y =>
  rw[hop]at h;simp only[kG]at h;split at h
  ·cases h;exact aeV c hop
  ·cases h
 | load T x =>
  rw[hop]at h;simp only[kG]at h;split at h
  ·rename_i q hq;cases h;exact aqU c hop hq
  ·obtain⟨q,hq,rfl⟩:=fJ h;exact aoc c hop hq hok
 | store T x y =>
  rw[hop]at h;simp only[kG]at h;split at h
  ·rename_i u hu;cases h;exact ZA c hop hu
  ·split at h
   ·rename_i ok u hu;cases h;exact akk c hop hu hok
   ·cases h
 | nilCheck x =>
  rw[hop]at h;simp only[kG]at h;have hx:=c.get x;generalize gW:a.eval x=vx at hx;split at h
  ·rename_i id off hg;cases h;rw[hg]at hx;cases hx with
   | ptr gh g _ _ hi hgv=>exact c.pure (val:=.pointer (some ⟨g,off,none⟩)) (by simp[execOp,hop,gW]) (.ptr gh g id off hi hgv)
  ·rename_i cs hg;cases h;rw[hg]at hx;cases hx with
   | ko g off f _ h1 h2=>exact c.pure (val:=.pointer (some ⟨g,off,none⟩)) (by simp[execOp,hop,gW]) (.ko g off f _ h1 h2)
  ·rename_i id i off hg;cases h;rw[hg]at hx;cases hx with
   | elt gh g _ _ _ cap hi hgv hlt=>exact c.pure (val:=.pointer (some ⟨g,i*gh.sz+off,none⟩)) (by simp[execOp,hop,gW]) (.elt gh g id i off cap hi hgv hlt)
  ·rename_i f p q hg;cases h;rw[hg]at hx;cases hx with
   | fn _ vs us _ _ h1 h2 h3 h4=>exact c.pure (val:=.func (.func f) vs us) (by simp[execOp,hop,gW]) (.fn f vs us p q h1 h2 h3 h4)
  ·cases h
 | makeSlice T n m=>rw[hop]at h;exact aq3 c hop h hok
 | makeMap T n =>
  rw[hop]at h;cases n with
  | none=>exact agO c hop h
  | some _=>cases h
 | mapUpdate T m i x =>
  rw[hop]at h;simp only[kG]at h;split at h
  ·rename_i u hu;cases h;exact aks c hop hu
  ·cases h
 | lookup T x i ok =>
  rw[hop]at h;simp only[kG]at h;split at h
  ·rename_i q hq;cases h;exact akq c hop hq
  ·obtain⟨q,hq,rfl⟩:=fJ h;exact agP c hop hq
 | binOp op T x y T' =>
  rw[hop]at h;simp only[kG]at h;split at h
  ·rename_i q hq;cases h;exact aui c hop hq hok
  ·split at h
   ·rename_i q hq;cases h;exact aoh c hop hq hok
   ·obtain⟨q,hq,rfl⟩:=fJ h;exact aup c hop hq hok
 | unOp op T x=>rw[hop]at h;obtain⟨q,hq,rfl⟩:=fJ h;exact axF c hop hq hok
 | convert s d x=>rw[hop]at h;obtain⟨q,hq,rfl⟩:=fJ h;exact aq0 c hop hq hok
 | fieldAddr s x f=>rw[hop]at h;obtain⟨q,hq,rfl⟩:=fJ h;exact aof c hop hq
 | field s x f=>rw[hop]at h;obtain⟨q,hq,rfl⟩:=fJ h;exact akl c hop hq
 | indexAddr T x i =>
  rw[hop]at h;simp only[kG]at h;split at h
  ·rename_i q hq;cases h;exact abI c hop hq hok
  ·split at h
   ·rename_i q hq;cases h;exact aeS c hop hq hok
   ·obtain⟨q,hq,rfl⟩:=fJ h;exact aeT c hop hq hok
 | index T x i =>
  rw[hop]at h;simp only[kG]at h;split at h
  ·rename_i q hq;cases h;exact aog c hop hq hok
  ·obtain⟨q,hq,rfl⟩:=fJ h;exact akm c hop hq hok
 | slice T x l hh m =>
  rw[hop]at h;simp only[kG]at h;split at h
  ·rename_i q hq;cases h;exact aoi c hop hq hok
  ·split at h
   ·rename_i q hq;cases h;exact akn c hop hq hok
   ·obtain⟨q,hq,rfl⟩:=fJ h;exact ako c hop hq hok
 | extract x i=>rw[hop]at h;obtain⟨q,hq,rfl⟩:=fJ h;exact agF c hop hq
 | call cl =>
  rw[hop]at h;obtain⟨callee,as,ts⟩:=cl;simp only[kG]at h;split at h
  ·rename_i Av;split at h
   ·rename_i x T hx hT;obtain⟨q,hq,rfl⟩:=fJ h;obtain⟨s,rfl,rfl⟩:=agQ hx;exact auj c hop hT hq
   ·cases h
  ·rename_i Av;split at h
   ·rename_i s x T T' hsx N7;split at h
    ·rename_i hb;have hb:=aaF hb;subst hb;obtain⟨s',x',rfl,rfl,rfl⟩:=SN hsx;obtain rfl:ts = #[T,T]:=by obtain⟨l⟩:=ts;simp at N7;simp[N7]
     exact akp c hop h hok
    ·obtain⟨s',x',rfl,rfl,rfl⟩:=SN hsx;obtain rfl:ts = #[T,T']:=by obtain⟨l⟩:=ts;simp at N7;simp[N7]
     exact agL c hop h hok
   ·cases h
  ·rename_i Av;split at h
   ·rename_i t l id hx;cases h;obtain⟨s,rfl,hs⟩:=agQ hx;exact aov c hop hs hok
   ·rename_i hx;cases h;obtain⟨s,rfl,hs⟩:=agQ hx;exact akt c hop hs
   ·cases h
  ·rename_i Av;split at h
   ·rename_i t l id n pt it hx hT;obtain⟨s,u,rfl,hs,hu⟩:=SN hx;obtain rfl:ts = #[pt,it]:=by obtain⟨l⟩:=ts;simp at hT;simp[hT]
    exact aq6 c hop hs hu h hok
   ·rename_i n pt it hx hT;cases h;obtain⟨s,u,rfl,hs,hu⟩:=SN hx;obtain rfl:ts = #[pt,it]:=by obtain⟨l⟩:=ts;simp at hT;simp[hT]
    exact aow c hop hs hu hok
   ·cases h
  ·rename_i Av;split at h
   ·rename_i m n hx;cases h;obtain⟨s,rfl,hs⟩:=agQ hx;have hv:=c.get s;rw[hs]at hv;obtain⟨x1,x2,e1,h1,h2⟩:=hv.VF;exact c.pure (val:=.float .f64 x1) (by simp only[execOp,hop,resolve,invoke,builtin,Sem.run_bind,Sem.run_pure,Result.andThen_ok,am5,aeH,aib,e1];rfl) (.d _ _ (.flt _ _ h1))
   ·cases h
  ·rename_i Av;split at h
   ·rename_i m n hx;cases h;obtain⟨s,rfl,hs⟩:=agQ hx;have hv:=c.get s;rw[hs]at hv;obtain⟨x1,x2,e1,h1,h2⟩:=hv.VF;exact c.pure (val:=.float .f64 x2) (by simp only[execOp,hop,resolve,invoke,builtin,Sem.run_bind,Sem.run_pure,Result.andThen_ok,am5,aeH,aib,e1];rfl) (.d _ _ (.flt _ _ h2))
   ·cases h
  ·rename_i Av;split at h
   ·rename_i m n hx;cases h;obtain⟨s,u,rfl,hs,hu⟩:=SN hx;have hv:=c.get s;rw[hs]at hv;have hv2:=c.get u;rw[hu]at hv2;obtain⟨x1,e1,h1⟩:=hv.Ka;obtain⟨x2,e2,h2⟩:=hv2.Ka;exact c.pure (val:=.complex .f64 x1 x2) (by simp only[execOp,hop,resolve,invoke,builtin,Sem.run_bind,Sem.run_pure,Result.andThen_ok,am5,aeH,aib,e1,e2];rfl) (.d _ _ (.Ig _ _ _ _ h1 h2))
   ·cases h
  ·rename_i Av;split at h
   ·rename_i s x T T' hsx N7;split at h
    ·rename_i hb;have hb:=aaF hb;subst hb;obtain⟨s',x',rfl,rfl,rfl⟩:=SN hsx;obtain rfl:ts = #[T,T]:=by obtain⟨l⟩:=ts;simp at N7;simp[N7]
     exact aq4 c hop h
    ·cases h
   ·cases h
  ·rename_i Av;split at h
   ·rename_i s x T T' hsx N7;obtain⟨q,hq,rfl⟩:=fJ h;obtain⟨s',x',rfl,rfl,rfl⟩:=SN hsx;obtain rfl:ts = #[T,T']:=by obtain⟨l⟩:=ts;simp at N7;simp[N7]
    exact agN (big:=false) c hop hq
   ·cases h
  ·rename_i Av;split at h
   ·rename_i s x T T' hsx N7;obtain⟨q,hq,rfl⟩:=fJ h;obtain⟨s',x',rfl,rfl,rfl⟩:=SN hsx;obtain rfl:ts = #[T,T']:=by obtain⟨l⟩:=ts;simp at N7;simp[N7]
    exact agN (big:=true) c hop hq
   ·cases h
  ·rename_i kS;split at h
   ·rename_i f hf;have hfo:a.eval kS = .func (.func f) #[] #[]:=by
     unfold VD at hf;split at hf
     ·cases hf;rfl
     ·unfold funcOf at hf;split at hf
      ·rename_i heq;cases hf;have hx:=c.get kS;rw[heq]at hx;exact hx.jY
      ·cases hf
    split at h
    ·rename_i q hq;cases h;exact ZH c hO (by simp[bY]) (args_at c as) (Ga hop hfo) hq hok
    split at h
    ·rename_i q hq;cases h;exact aor c hO hop hfo hq hok
    split at h
    ·rename_i q hq;cases h;exact aos c hO hop hfo hq hok
    split at h
    ·rename_i q hq;cases h;exact aot c hO hop hfo hq hok
    split at h
    ·rename_i q hq;cases h;exact aou c hO hop hfo hq hok
    split at h
    ·rename_i q hq;cases h;exact aoo c hO hop hfo hq hok
    ·split at h
     ·rename_i q hq;cases h;exact aom c hO hop hfo hq hok
     ·split at h
      ·rename_i q hq;cases h;exact aoq c hO hop hfo hq hok
      ·split at h
       ·rename_i q hq;cases h;exact aol c hO hop hfo hq hok
       ·exact aq2 c hO hop hfo h hok
   ·split at h
    ·rename_i f p q hg;have hx:=c.get kS;rw[hg]at hx;generalize hv:a.eval kS=vx at hx;cases hx with
     | fn _ vs us _ _ h1 h2 h3 h4 =>exact ZH c hO (by simp[bY,h1,h2]) (VH (by simpa using h1) (fun j v x hv hx=>h3 j v x (by simpa using hv) hx) (VH (by simp[bY]) (args_at c as) fun j v x hv hx=>h4 j v x (by simpa using hv) hx)) (agM hop hv) h hok
    ·cases h
  ·cases h
 | _=>rw[hop]at h;cases h
end
end
end Go.Proofs.YtclnniijooeajaaGreatDoor.bg
namespace Go.Proofs.YtclnniijooeajaaGreatDoor.bg
open Go Go.RowKit
section
section
variable {P:Program} {E:Env P}
def guardOf(tm:List (Nat×AV E)):Nat->Nat->Bool->Option (Bool×List (Nat×Bool))
 | 0,_,_=>none
 | f+1,gs,want=>match look tm gs with
  | some (.d (.bool b))=>some (bif want then b else !b,[(gs,want)])
  | some (.cond j w (.d (.bool b)))=>match guardOf tm f j w with
   | some (b',asm)=>some (b'&&(bif want then b else !b),(gs,want)::asm)
   | none=>none
  | _=>none
def afQ(ops:Array Oper)(j:Nat):Option Nat:=(ops[j]?).bind (·.dst)
def dU:AV E->Bool
 | .cond _ _ _=>true
 | _=>false
def ZJ(O:aI E)(ops:Array Oper)(S:au E)(o:Oper):Option (gu E):=match o.guard with
 | none=>match kG O S [] o.op with
  | some r=>bif dU r.v then none else some r
  | none=>none
 | some (j,want)=>match afQ ops j with
  | none=>none
  | some gs=>match guardOf S.tmps 8 gs want with
   | none=>none
   | some (b,asm)=>match kG O S asm o.op with
    | some ⟨ok,v,none,none⟩=>some ⟨ok || !b,.cond gs want v,none,none⟩
    | _=>none
def MP(objs:List (Nat×aS E))(dR:Nat)(r:gu E):List (Nat×aS E) :=
 (match r.new with | some o=>[(dR,o)] | none=>[])++((match r.upd with | some u=>[u] | none=>[])++objs)
def I7(d:Option Nat)(v:AV E)(loc:List (Nat×AV E)):List (Nat×AV E):=match d with
 | some d=>(d,v)::loc
 | none=>loc
def rE:List (Nat×AV E)->List (Nat×AV E)
 | []=>[]
 | (t,x)::r=>bif dU x then(t,.any)::rE r else(t,x)::rE r
def Dq(d:Nat):List (Nat×AV E)->Bool
 | []=>true
 | (_,.cond j _ _)::r=>(!Nat.beq j d)&&Dq d r
 | _::r=>Dq d r
def PO(n:Nat)(d:Option Nat)(loc:List (Nat×AV E)):Bool:=match d with
 | none=>true
 | some d=>Nat.blt d n&&Dq d loc
def aox(I:Inl E)(S:au E)(o:Oper):Option (FuncId×List (AV E)):=match o.guard,o.op with
 | none,.call c=>(match c.callee with
  | .value x=>(match VD (bF S.tmps []) x with
   | some f=>bif I.has f then some (f,bY S.tmps [] c.args)else none
   | none=>(match bF S.tmps [] x with
    | .fn f p q=>bif I.has f then some (f,p++(bY S.tmps [] c.args++q))else none
    | _=>none))
  | _=>none)
 | _,_=>none
def mK{R:Type}(O:aI E)(ops:Array Oper)(n:Nat)(glob:List (Nat×AV E)):List Oper->List (Nat×AV E)->List (Nat×aS E)->Nat->(au E->Option R)->Option R
 | [],loc,objs,next,k=>k ⟨n,rE loc++glob,objs,next⟩
 | o::rest,loc,objs,next,k=>match aox O.inl ⟨n,loc++glob,objs,next⟩ o with
  | some (f,args)=>O.inl.run f args objs next fun v mI next'=>match PO n o.dst ((0,v)::loc) && !(dU v)with
   | true=>mK O ops n glob rest (I7 o.dst v loc) mI next' k
   | false=>none
  | none=>match ZJ O ops ⟨n,loc++glob,objs,next⟩ o with
   | some r=>match PO n o.dst ((0,r.v)::loc)with
    | true=>bif r.ok then mK O ops n glob rest (I7 o.dst r.v loc) (MP objs next r) (next+1) k else none
    | false=>none
   | none=>none
def aR(tm:List (Nat×AV E)):Prop:=∀p∈tm,dU p.2=false
end
section
variable {P:Program} {E:Env P} {w w':World} {ro ro':Nat->Nat->Prop} {ι ι':Nat->Option Gh} {S:au E} {asm:List (Nat×Bool)} {a:Act}
theorem mM{α:Type}:∀(l m:List (Nat×α)) (i:Nat),look (l++m) i=(match look l i with | some x=>some x | none=>look m i)
 | [],m,i=>rfl
 | (j,x)::l,m,i=>by
  simp only[aeF,aX];split
  ·rfl
  ·exact mM l m i
theorem jQ{α:Type}:∀(l:List (Nat×α)) (i:Nat) (x:α),look l i=some x->(i,x)∈l
 | [],i,x,h=>by cases h
 | (j,y)::l,i,x,h=>by
  rw[aX]at h;split at h
  ·rename_i hj;have:=aaF hj;grind
  ·exact abb _ (jQ l i x h)
theorem SQ{x:Option (gu E)}{r:gu E}(h:(match x with | some r=>bif dU r.v then none else some r | none=>none)=some r):x=some r/\dU r.v=false:=by grind
theorem Ro{tm:List (Nat×AV E)}(ht:xg E w ro ι a tm):∀(f gs:Nat) (want:Bool) (b:Bool) (asm:List (Nat×Bool)),guardOf tm f gs want=some (b,asm)->a.tmps[gs]? = some (.bool want)->b=true/\VE a asm
 | 0,_,_,_,_,h,_=>by cases h
 | f+1,gs,want,b,asm,h,hw=>by
  unfold guardOf at h;split at h
  ·rename_i b0 hl;cases h;obtain⟨v,hv,hr⟩:=ht gs _ hl;have e1:v = .bool b0:=aO.rC hr;rw[hw,e1]at hv;cases hv;refine⟨by cases want<;>rfl,fun j b' hb=>?_⟩;simp only[tN,Bool.or_false,abj]at hb;have e2:=aaF hb.1;grind
  ·rename_i j w0 b0 hl;split at h
   ·rename_i b' aEc hg;cases h;obtain⟨v,hv,hr1,hr2⟩:=ht gs _ hl;rw[hw]at hv;cases hv;have hj:a.tmps[j]? = some (.bool w0):=by
     by_cases h:a.tmps[j]? = some (.bool w0)
     ·exact h
     ·exact absurd (hr2 h) (by simp[undef])
    have e1:=aO.rC (hr1 hj);cases e1;obtain⟨h1,h2⟩:=Ro ht f j w0 b' aEc hg hj;refine⟨by rw[h1];cases want<;>rfl,XU h2 hw⟩
   ·cases h
  ·cases h
def agR(E:Env P)(w':World)(ro':Nat->Nat->Prop)(ι':Nat->Option Gh)(a:Act)(val:Value)(x:AV E):Prop :=
 ∀tm:Array Value,(∀gs want u,x = .cond gs want u->tm[gs]? = a.tmps[gs]?)->BF E w' ro' ι' tm val x
theorem gK.azN{dR:Nat}{r:gu E}{val:Value}(h:gK E w w' ι ι' ro ro' dR r val):gK E w w' ι ι' ro ro' dR { r with v:=.any } val where
 os:=h.os
 tape:=h.tape
 output:=h.output
 size:=h.size
 frame:=h.frame
 cell:=h.cell
 mono:=h.mono
 aT:=h.aT
 fresh:=h.fresh
 kX:=h.kX
 qD:=h.qD
 nX:=h.nX
 upd:=h.upd
 new:=h.new
 val:=.any _
theorem adz(kH:∀k o,ro k o->k<w.heap.size)(Mh:xg E w ro ι a S.tmps)(Mf:∀(id:Nat) o,look S.objs id=some o->j5 E w ro ι id o)(hfresh:ι S.next=none)
  {O:aI E} (hO:aK E O) {ops:Array Oper} {o:Oper} {r:gu E} (h:ZJ O ops S o=some r) (hok:r.ok=true) {K:Act->World->Prop} {Q:Exit->Act->World->Prop}
  (hK:∀val w' ι' ro',gK E w w' ι ι' ro ro' S.next { r with v:=.any } val->agR E w' ro' ι' a val r.v->K (a.put o.dst val) w') :
  if Region.wanted o (yielded ops a.tmps)=true then o.wp P a w K Q else K (a.put o.dst undef) w:=by
 unfold ZJ at h;split at h
 ·rename_i hg;have h:=(SQ h).1;have hw:Region.wanted o (yielded ops a.tmps)=true:=by simp[Region.wanted,hg]
  rw[if_pos hw];have c:Ctx E S [] a w ι ro:=⟨Mh,fun j b hb=>by simp[tN]at hb,kH,Mf,hfresh⟩
  refine(al5 c hO h hok).wp fun val w' ι' ro' hp=>hK val w' ι' ro' hp.azN fun tm Mh=>?_
  have hv:=hp.val;generalize r.v=x at hv Mh;cases hv with
  | any _=>exact .any _
  | d _ c h=>exact .d _ c h
  | st vs t x ha h=>exact .st vs t x ha h
  | agg vs cs h1 h2=>exact .agg vs cs h1 h2
  | tL vs cs h1 h2=>exact .tL vs cs h1 h2
  | grow gh t l id h1 h2 h3 h4 h5=>exact .grow gh t l id h1 h2 h3 h4 h5
  | ptr gh g id off h1 h2=>exact .ptr gh g id off h1 h2
  | ko g off f cs h1 h2=>exact .ko g off f cs h1 h2
  | row gh t id ad cap h1 h2 h3 h4 h5=>exact .row gh t id ad cap h1 h2 h3 h4 h5
  | elt gh g id i off cap h1 h2 h3=>exact .elt gh g id i off cap h1 h2 h3
  | fn f vs us a b h1 h2 h3 h4=>exact .fn f vs us a b h1 h2 h3 h4
  | EA gh g id n cap h1 h2=>exact .EA gh g id n cap h1 h2
  | mp gh g id h1 h2=>exact .mp gh g id h1 h2
  | yl gh l id h1 h2=>exact .yl gh l id h1 h2
  | mk gh _ g T id h1 h2 h3 h4=>exact .mk gh _ g T id h1 h2 h3 h4
  | sd gh t l id ad cap h1 h2 h3 h4 h5 h6=>exact .sd gh t l id ad cap h1 h2 h3 h4 h5 h6
 ·rename_i j want hg;split at h
  ·cases h
  ·rename_i gs hgs;split at h
   ·cases h
   ·rename_i b asm hguard;split at h
    ·rename_i ok v hop;cases h;by_cases hw:a.tmps[gs]? = some (.bool want)
     ·have hwant:Region.wanted o (yielded ops a.tmps)=true:=by
       unfold afQ at hgs;simp[Region.wanted,hg,yielded,hgs,hw]
      rw[if_pos hwant];obtain⟨hb,aoy⟩:=Ro Mh _ _ _ _ _ hguard hw;subst hb;have hok':ok=true:=by simpa using hok
      have c:Ctx E S asm a w ι ro:=⟨Mh,aoy,kH,Mf,hfresh⟩
      refine(al5 c hO hop hok').wp fun val w' ι' ro' hp=>hK val w' ι' ro' ?_ fun tm auq=>?_
      ·have:=hp.azN;grind
      ·have e:=auq gs want v rfl;refine⟨fun _=>hp.val,fun hne=>?_⟩;rw[e]at hne;exact absurd hw hne
     ·have hwant:¬ Region.wanted o (yielded ops a.tmps)=true:=by
       unfold afQ at hgs;simp only[Region.wanted,hg,yielded,hgs,Option.bind_some];grind
      rw[if_neg hwant];refine hK undef w ι ro (.pure rfl rfl kH hfresh (.any _)) fun tm auq=>?_
      have e:=auq gs want v rfl;refine⟨fun hc=>?_,fun _=>rfl⟩;rw[e]at hc;exact absurd hc hw
    ·cases h
theorem sJ.frame{gh:Gh}{xs:List Value}(h:sJ w gh xs)(hf:∀g,gh.blk=some g->w'.heap[g]? = w.heap[g]?):sJ w' gh xs:=by
 rcases h with⟨⟨h1,h2⟩,hb⟩ | h
 ·refine .inl ⟨⟨h1,?_⟩,hb⟩;rcases h2 with hn | ⟨g,cap,cur,hv,hb',hg,rest⟩
  ·exact .inl hn
  ·have hblk:gh.blk=some g:=by rw[hb,hv];rfl
   grind
 ·exact .inr h
theorem j5.step{objs:List (Nat×aS E)}{dR:Nat}{r:gu E}{val:Value}(hp:gK E w w' ι ι' ro ro' dR r val)(hfresh:ι dR=none)(hinj:Zy E objs ι)(vH:∀id o,r.upd=some (id,o)->∃o',look objs id=some o'/\o'.live=true)
  (hilt:∀id gh k,ι id=some gh->gh.blk=some k->k<w.heap.size) {id:Nat} {o:aS E} (hl:look objs id=some o) (hid:id≠dR) (hne:∀o',r.upd≠some (id,o')) (h:j5 E w ro ι id o):j5 E w' ro' ι' id o:=by
 have hext:∀id gh,ι id=some gh->ι' id=some gh:=by intro i gh hi;rw[hp.kX i (fun e=>by subst e;rw[hfresh]at hi;cases hi)];exact hi
 have mono:∀(v:Value) (x:AV E),aO E w ro ι v x->aO E w' ro' ι' v x:=fun v x h=>h.mono hp.mono hp.cell hext
 have PS:o.live=true->∀gh k,ι id=some gh->gh.blk=some k->(∀id' o' bq,r.upd=some (id',o')->ι id'=some bq->bq.blk≠some k):=by intro hlive gh k hgh hk id' o' bq hu PU hk';obtain⟨o'',hl'',axK⟩:=vH id' o' hu;have:=hinj id id' o o'' gh bq k hl hl'' hlive axK hgh PU hk hk';subst this;exact hne o' hu
 cases o with
 | dead=>trivial
 | box cs =>
  obtain⟨gh,g,vs,e,hi,hgv,hblk,hh,hsz,hcell,iw,hge⟩:=h;have abK:=hilt id gh g hi hblk;have hd:=PS rfl gh g hi hblk;refine⟨gh,g,vs,e,hext _ _ hi,hgv,hblk,(hp.frame g abK hd).trans hh,hsz,fun j v c hv hc=>⟨(hcell j v c hv hc).1,mono _ _ (hcell j v c hv hc).2⟩,fun o hr=>?_,hge⟩;rcases hp.fresh g o hr with h | h | ⟨id',o',bq,hu,PU,hk'⟩
  ·exact iw o h
  ·omega
  ·exact hd id' o' bq hu PU hk'
 | tail live =>
  intro hlive;obtain⟨gh,xs,hi,hown,iw⟩:=h hlive;have hd:=fun k hk=>PS hlive gh k hi hk
  refine⟨gh,xs,hext _ _ hi,?_,fun g hg o ho hr=>?_⟩
  ·exact hown.frame fun g hg=>hp.frame g (hilt id gh g hi hg) (hd g hg)
  ·rcases hp.fresh g o hr with h | h | ⟨id',o',bq,hu,PU,hk'⟩
   ·exact iw g hg o ho h
   ·have:=hilt id gh g hi hg;omega
   ·exact hd g hg id' o' bq hu PU hk'
 | arr t l fz =>
  obtain⟨hagg,gh,g,vs,e,hi,hgv,hblk,hh,hsz,hcell,iw,hge⟩:=h;have abK:=hilt id gh g hi hblk;have hd:=PS rfl gh g hi hblk;refine⟨hagg,gh,g,vs,e,hext _ _ hi,hgv,hblk,(hp.frame g abK hd).trans hh,hsz,fun j v c hv hc=>⟨(hcell j v c hv hc).1,mono _ _ (hcell j v c hv hc).2⟩,⟨fun hf o hr=>?_,fun hf o ho=>hp.mono _ _ (iw.2 hf o ho)⟩,hge⟩;rcases hp.fresh g o hr with h | h | ⟨id',o',bq,hu,PU,hk'⟩
  ·exact iw.1 hf o h
  ·omega
  ·exact hd id' o' bq hu PU hk'
 | Ih =>obtain⟨gh,g,hi,hblk,hh⟩:=h;exact⟨gh,g,hext _ _ hi,hblk,(hp.frame g (hilt id gh g hi hblk) (PS rfl gh g hi hblk)).trans hh⟩
 | lp st pend n tm ps assign body =>
  obtain⟨gh,g,rec,hi,hblk,hh,hrec,Mh⟩:=h;exact⟨gh,g,rec,hext _ _ hi,hblk,(hp.frame g (hilt id gh g hi hblk) (PS rfl gh g hi hblk)).trans hh,hrec,fun t x hl=>by obtain⟨v,q1,q2⟩:=Mh t x hl;exact⟨v,q1,mono _ _ q2⟩⟩
 | mp K V l =>
  obtain⟨gh,g,es,hi,hgv,hblk,hh,hsz,hent⟩:=h;exact⟨gh,g,es,hext _ _ hi,hgv,hblk,(hp.frame g (hilt id gh g hi hblk) (PS rfl gh g hi hblk)).trans hh,hsz,fun j e x he hx=>by obtain⟨k1,k2,k3,k4⟩:=hent j e x he hx;exact⟨k1,k2,k3,fun i v c hv hc=>⟨(k4 i v c hv hc).1,mono _ _ (k4 i v c hv hc).2⟩⟩⟩
 | row t l =>
  obtain⟨gh,xs,hi,hn,hge,hgs,hown,hrow,iw⟩:=h;have hd:=fun k hk=>PS rfl gh k hi hk
  refine⟨gh,xs,hext _ _ hi,hn,hge,hgs,hown.frame fun g hg=>hp.frame g (hilt id gh g hi hg) (hd g hg),hrow.mono hp.mono hp.cell,fun g hg o hr=>?_⟩;rcases hp.fresh g o hr with h | h | ⟨id',o',bq,hu,PU,hk'⟩
  ·exact iw g hg o h
  ·have:=hilt id gh g hi hg;omega
  ·exact hd g hg id' o' bq hu PU hk'
theorem SV{objs:List (Nat×aS E)}{dR:Nat}{T:TypeId}{s x:AV E}{r:gu E}(h:Dp objs dR T s x=some r){id:Nat}{ob:aS E}(hu:r.upd=some (id,ob)):∃o',look objs id=some o'/\o'.live=true:=by
 unfold Dp at h;split at h
 ·split at h
  ·split at h
   ·split at h
    ·cases h;cases hu
    ·split at h
     ·rename_i hc bW;cases h;cases hu;exact⟨_,bW,rfl⟩
     ·cases h
    ·split at h
     ·rename_i t' l1 bW;split at h
      ·cases h;cases hu;exact⟨_,bW,rfl⟩
      ·cases h
     ·cases h
    ·cases h
   ·cases h
  ·cases h
 ·cases h
theorem aur{O:aI E}{S:au E}{asm:List (Nat×Bool)}{o:Op}{r:gu E}(h:kG O S asm o=some r){id:Nat}{ob:aS E}(hu:r.upd=some (id,ob)):∃o',look S.objs id=some o'/\o'.live=true:=by
 cases o with
 | store T x y =>
  simp only[kG]at h;split at h
  ·rename_i u hu';cases h;cases hu;unfold F7 at hu';split at hu'
   ·rename_i id' off hx;split at hu'
    ·rename_i cs bW;split at hu'
     ·split at hu'
      ·cases hu';exact⟨_,bW,rfl⟩
      ·cases hu'
     ·cases hu'
    ·cases hu'
   ·split at hu'
    ·rename_i t l bW;split at hu'
     ·split at hu'
      ·split at hu'
       ·split at hu'
        ·cases hu';exact⟨_,bW,rfl⟩
        ·cases hu'
       ·cases hu'
      ·cases hu'
     ·cases hu'
    ·cases hu'
   ·cases hu'
  ·split at h
   ·rename_i ok u hu';cases h;cases hu;unfold Px at hu';split at hu'
    ·split at hu'
     ·rename_i bW;split at hu'
      ·split at hu'
       ·split at hu'
        ·cases hu';exact⟨_,bW,rfl⟩
        ·cases hu'
       ·cases hu'
      ·cases hu'
     ·cases hu'
    ·cases hu'
   ·cases h
 | lookup T x i ok =>
  simp only[kG]at h;split at h
  ·cases h;cases hu
  ·obtain⟨q,hq,rfl⟩:=fJ h;cases hu
 | mapUpdate T m i x =>
  simp only[kG]at h;split at h
  ·rename_i u hu';cases h;cases hu;unfold PI at hu';cases hu'
  ·cases h
 | makeMap T n =>
  cases n with
  | none =>simp only[kG]at h;unfold Ma at h;cases h
  | some _=>cases h
 | makeSlice T n c =>simp only[kG]at h;unfold Zw at h;cases h
 | call cl =>
  obtain⟨callee,as,ts⟩:=cl;simp only[kG]at h;split at h
  ·split at h
   ·obtain⟨q,hq,rfl⟩:=fJ h;cases hu
   ·cases h
  ·split at h
   ·split at h
    ·exact SV h hu
    ·unfold L9 at h;split at h
     ·split at h
      ·split at h
       ·split at h
        ·exact SV h hu
        ·cases h
       ·cases h
      ·cases h
     ·cases h
   ·cases h
  ·split at h
   ·cases h;cases hu
   ·cases h;cases hu
   ·cases h
  ·split at h
   ·unfold Zu at h;cases h
   ·cases h;cases hu
   ·cases h
  ·split at h
   ·cases h;cases hu
   ·cases h
  ·split at h
   ·cases h;cases hu
   ·cases h
  ·split at h
   ·cases h;cases hu
   ·cases h
  ·split at h
   ·split at h
    ·unfold Zx at h;cases h
    ·cases h
   ·cases h
  ·split at h
   ·obtain⟨q,hq,rfl⟩:=fJ h;cases hu
   ·cases h
  ·split at h
   ·obtain⟨q,hq,rfl⟩:=fJ h;cases hu
   ·cases h
  ·split at h
   ·rename_i f hf;split at h
    ·rename_i q hq;cases h;rw[(ady hq).1]at hu;cases hu
    split at h
    ·rename_i q hq;cases h;unfold Vu at hq;split at hq
     ·cases hq
     ·split at hq
      ·split at hq
       ·rename_i bW;split at hq
        ·split at hq
         ·split at hq
          ·cases hq;cases hu;exact⟨_,bW,rfl⟩
          ·cases hq
         ·cases hq
        ·cases hq
       ·cases hq
      ·cases hq
    split at h
    ·rename_i q hq;cases h;unfold Vs at hq;cases hq
    split at h
    ·rename_i q hq;cases h;unfold VA at hq;cases hq
    split at h
    ·rename_i q hq;cases h;unfold VB at hq;split at hq
     ·split at hq
      ·rename_i t l bW;split at hq
       ·split at hq
        ·cases hq;cases hu;exact⟨_,bW,rfl⟩
        ·cases hq;cases hu;exact⟨_,bW,rfl⟩
        ·cases hq
       ·cases hq
      ·cases hq
     ·split at hq
      ·split at hq
       ·split at hq
        ·split at hq
         ·cases hq;cases hu
         ·cases hq
        ·cases hq
       ·cases hq
      ·cases hq
     ·cases hq
    split at h
    ·rename_i q hq;cases h;unfold Vx at hq;split at hq
     ·split at hq
      ·split at hq
       ·split at hq
        ·cases hq;cases hu
        ·cases hq
       ·cases hq
      ·cases hq
     ·cases hq
    ·split at h
     ·rename_i q hq;cases h;unfold Vv at hq;cases hq
     split at h
     ·rename_i q hq;cases h;unfold Vy at hq;split at hq
      ·split at hq
       ·split at hq
        ·cases hq;cases hu
        ·cases hq
       ·cases hq
      ·cases hq
     split at h
     ·rename_i q hq;cases h;unfold Vz at hq;cases hq
     ·unfold Zv at h;split at h
      ·rename_i xs hxs;cases hfr:O.J9 f with
       | true =>
        rw[hfr]at h;simp only[cond_true]at h;split at h
        ·cases h;cases hu
        ·cases h
       | false =>
        rw[hfr]at h;simp only[cond_false]at h;split at h
        ·cases h;cases hu
        ·cases h
      ·cases h
   ·split at h
    ·rw[(ady h).1]at hu;cases hu
    ·cases h
  ·cases h
 | alloc T =>
  simp only[kG]at h;split at h
  ·split at h
   ·cases h;cases hu
   ·cases h
  ·cases h
 | box T x =>
  simp only[kG]at h;split at h
  ·cases h;cases hu
  ·cases h
 | nilCheck x =>
  simp only[kG]at h;split at h
  ·cases h;cases hu
  ·cases h;cases hu
  ·cases h;cases hu
  ·cases h;cases hu
  ·cases h
 | makeFunc f x y =>
  simp only[kG]at h;split at h
  ·cases h;cases hu
  ·cases h
 | move x=>cases h;cases hu
 | assign x=>cases h;cases hu
 | pick x y z=>obtain⟨q,hq,rfl⟩:=fJ h;cases hu
 | build T ps=>obtain⟨q,hq,rfl⟩:=fJ h;cases hu
 | buildSlice T n ps =>
  simp only[kG]at h;split at h
  ·rename_i q hq;cases h;unfold EF at hq;split at hq
   ·split at hq
    ·split at hq
     ·cases hq;cases hu
     ·cases hq
    ·cases hq
   ·cases hq
  ·split at h
   ·cases h;cases hu
   ·unfold JI at h;cases h
 | load T x =>
  simp only[kG]at h;split at h
  ·cases h;cases hu
  ·obtain⟨q,hq,rfl⟩:=fJ h;cases hu
 | binOp op T x y T' =>
  simp only[kG]at h;split at h
  ·cases h;cases hu
  ·split at h
   ·cases h;cases hu
   ·obtain⟨q,hq,rfl⟩:=fJ h;cases hu
 | unOp op T x=>obtain⟨q,hq,rfl⟩:=fJ h;cases hu
 | convert s d x=>obtain⟨q,hq,rfl⟩:=fJ h;cases hu
 | fieldAddr s x f=>obtain⟨q,hq,rfl⟩:=fJ h;cases hu
 | field s x f=>obtain⟨q,hq,rfl⟩:=fJ h;cases hu
 | indexAddr T x i =>
  simp only[kG]at h;split at h
  ·cases h;cases hu
  ·split at h
   ·cases h;cases hu
   ·obtain⟨q,hq,rfl⟩:=fJ h;cases hu
 | index T x i =>
  simp only[kG]at h;split at h
  ·cases h;cases hu
  ·obtain⟨q,hq,rfl⟩:=fJ h;cases hu
 | slice T x l hh m =>
  simp only[kG]at h;split at h
  ·cases h;cases hu
  ·split at h
   ·cases h;cases hu
   ·obtain⟨q,hq,rfl⟩:=fJ h;cases hu
 | extract x i=>obtain⟨q,hq,rfl⟩:=fJ h;cases hu
 | _=>cases h
theorem VJ{O:aI E}{ops:Array Oper}{S:au E}{o:Oper}{r:gu E}(h:ZJ O ops S o=some r){id:Nat}{ob:aS E}(hu:r.upd=some (id,ob)):∃o',look S.objs id=some o'/\o'.live=true:=by
 unfold ZJ at h;split at h
 ·exact aur (SQ h).1 hu
 grind
theorem Base.step{w0:Start}{aP:Nat->Nat->Prop}(hb:Base w0 aP a w ι ro){dR:Nat}{r:gu E}{val:Value}(hp:gK E w w' ι ι' ro ro' dR r val)(hfresh:ι dR=none)(d:Option Nat):Base w0 aP (a.put d val) w' ι' ro' where
 below:=⟨hp.os.trans hb.below.os,hp.tape.trans hb.below.tape,hp.output.trans hb.below.output,Nat.le_trans hb.below.size hp.size,fun k hk hne=>(hp.frame k (aeh hk hb.below.size) (fun id o gh _ hi hblk=>by
  rcases(hb.tO id gh k hi hblk).1 with h | h
  ·have h:w0.w.heap.size<=k:=h;omega
  ·exact hne h.symm)).trans (hb.below.block k hk hne)⟩
 aT:=hp.aT
 qN:=fun k o h=>by
  rcases hp.fresh k o h with h | h | ⟨id,o',gh,_,hi,hblk⟩
  ·exact hb.qN k o h
  ·exact .inr (.inl (Nat.le_trans hb.below.size h))
  ·exact .inr (hb.tO id gh k hi hblk).1
 tO:=fun id gh k hi hblk=>by
  by_cases hid:id=dR
  ·subst hid;obtain⟨h1,h2⟩:=hp.qD gh k hi hblk;refine⟨?_,h1⟩;rcases h2 with h | ⟨id',o',bq,_,_,hi',hblk'⟩
   ·exact .inl (Nat.le_trans hb.below.size h)
   ·exact(hb.tO id' bq k hi' hblk').1
  ·rw[hp.kX id hid]at hi;obtain⟨h1,h2⟩:=hb.tO id gh k hi hblk;exact⟨h1,aeh h2 hp.size⟩
 defers:=by have:=hb.defers;cases d<;>exact this
 keep:=fun q hq=>by obtain⟨h1,h2⟩:=hb.keep q hq;refine⟨fun k o h=>⟨hp.mono k o (h1 k o h).1,(hp.cell k o (h1 k o h).1).trans (h1 k o h).2⟩,fun id gh h=>?_⟩;have h3:=h2 id gh h;rw[hp.kX id (fun e=>by subst e;rw[hfresh]at h3;cases h3)];exact h3
 held:=fun k o h=>by
  obtain⟨h1,h2⟩:=hb.held k o h;refine⟨(hp.frame k (Array.getElem?_eq_some_iff.1 h1).1 fun id o gh _ hi=>h2 id gh hi).trans h1,fun id gh hi hblk=>?_⟩;by_cases hid:id=dR
  ·subst hid;rcases(hp.qD gh k hi hblk).2 with h | ⟨id',o',bq,_,_,hi',hblk'⟩
   ·grind
   ·exact h2 id' bq hi' hblk'
  ·rw[hp.kX id hid]at hi;exact h2 id gh hi hblk
theorem EJ:∀(loc:List (Nat×AV E)) (d:Nat),Dq d loc=true->∀t gs want u,(t,Dn.cond gs want u)∈loc->gs≠d
 | [],_,_,t,gs,want,u,h=>by cases h
 | (t0,x)::r,d,hc,t,gs,want,u,h=>by
  cases h with
  | head =>simp only[Dq,abj]at hc;intro e;subst e;simp at hc
  | tail _ h =>refine EJ r d ?_ t gs want u h;cases x<;>simp only[Dq,abj]at hc<;>first | exact hc | exact hc.2
theorem DX{a:Act}{d:Option Nat}{val:Value}{t:Nat}(h:d≠some t):(a.put d val).tmps[t]? = a.tmps[t]? := by
 cases d with
 | none=>rfl
 | some d =>
  have:d≠t:=fun e=>h (by rw[e])
  simp[Act.put,Array.getElem?_setIfInBounds_ne this]
theorem PV{a:Act}{d:Option Nat}{val:Value}:(a.put d val).tmps.size=a.tmps.size:=by cases d<;>simp[Act.put]
theorem BF.tm{tm tm':Array Value}{v:Value}{x:AV E}(h:BF E w ro ι tm v x)(he:∀gs want u,x = .cond gs want u->tm'[gs]? = tm[gs]?):BF E w ro ι tm' v x:=by
 cases x with
 | cond gs want u =>have e:=he gs want u rfl;exact⟨fun hc=>h.1 (by rw[<- e];exact hc),fun hc=>h.2 (by rw[<- e];exact hc)⟩
 | _=>exact h
theorem xg.step{n:Nat}{loc glob:List (Nat×AV E)}(hsz:a.tmps.size=n)(Mh:xg E w ro ι a (loc++glob))(hnc:aR glob){d:Option Nat}{x:AV E}{val:Value}(hd:PO n d ((0,x)::loc)=true)
  (hr:∀k o,ro k o->ro' k o) (hc:∀k o,ro k o->w'.cell? ⟨k,o,none⟩=w.cell? ⟨k,o,none⟩) (hi:∀id gh,ι id=some gh->ι' id=some gh) (PW:agR E w' ro' ι' a val x):xg E w' ro' ι' (a.put d val) (I7 d x loc++glob):=by
 have old:∀t y,d≠some t->look (loc++glob) t=some y->∃v,(a.put d val).tmps[t]? = some v/\BF E w' ro' ι' (a.put d val).tmps v y:=by
  intro t y hne hl;obtain⟨v,hv,hs⟩:=Mh t y hl;refine⟨v,(DX hne).trans hv,(hs.mono hr hc hi).tm fun gs want u e=>?_⟩;subst e;cases d with
  | none=>rfl
  | some d =>
   refine DX fun e=>?_
   cases e;have hmem:=jQ _ _ _ hl;rcases List.mem_append.1 hmem with h | h
   ·unfold PO at hd;simp only[abj]at hd;exact EJ _ _ hd.2 t gs want u (abb _ h) rfl
   ·have:=hnc _ h;simp[dU]at this
 intro t y hl;cases d with
 | none=>exact old t y (fun e=>by cases e) hl
 | some d =>
  simp only[I7,aeF,aX]at hl;split at hl
  ·rename_i hdt;have hdt:=aaF hdt;subst hdt;cases hl;unfold PO at hd;simp only[abj]at hd;have hlt:d<a.tmps.size:=by rw[hsz];simpa using hd.1
   refine⟨val,by simp[Act.put,hlt],PW _ fun gs want u e=>?_⟩;subst e;exact DX fun e=>by cases e;exact EJ _ _ hd.2 0 d want u abd rfl
  ·rename_i hdt;exact old t y (fun e=>by cases e;simp at hdt) hl
theorem MQ:∀(loc:List (Nat×AV E)) (t:Nat) (y:AV E),look (rE loc) t=some y->∃x,look loc t=some x/\(y = .any\/(y=x/\dU x=false))
 | [],t,y,h=>by cases h
 | (t0,x)::r,t,y,h=>by
  unfold rE at h;cases hx:dU x with
  | true =>
   rw[hx]at h;simp only[cond_true,aX]at h ⊢;split at h
   ·grind
   ·rename_i hb;rw[if_neg hb];exact MQ r t y h
  | false =>
   rw[hx]at h;simp only[cond_false,aX]at h ⊢;split at h
   ·grind
   ·rename_i hb;rw[if_neg hb];exact MQ r t y h
theorem CU:∀(loc:List (Nat×AV E)),aR (rE loc)
 | []=>fun p h=>by cases h
 | (t,x)::r=>fun p h=>by
  unfold rE at h;cases hx:dU x with
  | true =>
   rw[hx]at h;cases h with
   | head=>rfl
   | tail _ h=>exact CU r p h
  | false =>
   rw[hx]at h;cases h with
   | head=>exact hx
   | tail _ h=>exact CU r p h
theorem xg.clean{loc glob:List (Nat×AV E)}(Mh:xg E w ro ι a (loc++glob)):xg E w ro ι a (rE loc++glob):=by
 intro t y hl;rw[mM]at hl;cases hu:look (rE loc) t with
 | none =>
  rw[hu]at hl;have hnone:look loc t=none:=by
   cases hlo:look loc t with
   | none=>rfl
   | some x =>
    exfalso;have:∀(loc:List (Nat×AV E)),look loc t=some x->∀h:look (rE loc) t=none,False:=by
     intro loc
     induction loc with
     | nil=>intro h;cases h
     | cons p r ih =>
      obtain⟨t0,y0⟩:=p;intro h1 h2;unfold rE at h2;simp only[aX]at h1;split at h1
      ·rename_i hb;cases hx:dU y0<;>rw[hx]at h2<;>simp[aX,hb]at h2
      ·rename_i hb;cases hx:dU y0<;>rw[hx]at h2<;>simp only[cond_true,cond_false,aX,if_neg hb]at h2<;>exact ih h1 h2
    exact this loc hlo hu
  exact Mh t y (by rw[mM,hnone];exact hl)
 | some z =>
  rw[hu]at hl;cases hl;obtain⟨x,hx,h⟩:=MQ loc t y hu;obtain⟨v,hv,hs⟩:=Mh t x (by rw[mM,hx]);refine⟨v,hv,?_⟩;rcases h with rfl | ⟨rfl,hc⟩
  ·exact .any _
  ·exact hs
theorem Ik{objs:List (Nat×aS E)}{dR:Nat}{r:gu E}{id:Nat}{o:aS E}(h:look (MP objs dR r) id=some o) :
  (r.new=some o/\id=dR)\/(r.upd=some (id,o)/\(id≠dR\/r.new=none))\/(look objs id=some o/\(id≠dR\/r.new=none)/\∀o',r.upd≠some (id,o')):=by
 unfold MP at h;have tail:∀(_:look ((match r.upd with | some u=>[u] | none=>[])++objs) id=some o),r.upd=some (id,o)\/(look objs id=some o/\∀o',r.upd≠some (id,o')):=by
  clear h;intro h;cases hu:r.upd with
  | none=>grind
  | some u =>
   obtain⟨i,ob⟩:=u;rw[hu]at h;simp only[aeF,aei,aX]at h;by_cases hb:Nat.beq i id=true
   ·rw[if_pos hb]at h;have:=aaF hb;subst this;cases h;exact .inl rfl
   ·rw[if_neg hb]at h;refine .inr ⟨h,fun o' e=>?_⟩;cases e;simp at hb
 cases hn:r.new with
 | none =>grind
 | some ob =>
  rw[hn]at h;simp only[aeF,aei,aX]at h;split at h
  ·rename_i hb;have:=aaF hb;grind
  ·rename_i hb;have hne:id≠dR:=fun e=>by subst e;simp at hb
   grind
end
end
end Go.Proofs.YtclnniijooeajaaGreatDoor.bg
namespace Go.Proofs.YtclnniijooeajaaGreatDoor.bg
open Go Go.RowKit
section
section
variable {P:Program} {E:Env P} {w w':World} {ro ro':Nat->Nat->Prop} {ι ι':Nat->Option Gh} {a:Act}
theorem agS{objs:List (Nat×aS E)}{dR:Nat}{r:gu E}{val:Value}(hp:gK E w w' ι ι' ro ro' dR r val)(hinj:Zy E objs ι)(vH:∀id o,r.upd=some (id,o)->∃o',look objs id=some o'/\o'.live=true)
  (hilt:∀id gh k,ι id=some gh->gh.blk=some k->k<w.heap.size) (kP:∀id o,look objs id=some o->o.live=true->id≠dR) (mI:List (Nat×aS E))
  (hl:∀id o,look mI id=some o->(r.new=some o/\id=dR)\/r.upd=some (id,o)\/(look objs id=some o/\∀o',r.upd≠some (id,o'))):Zy E mI ι':=by
 have key:∀id id' o o' gh bq k,(r.new=some o/\id=dR)->o.live=true->o'.live=true->(r.upd=some (id',o')\/(look objs id'=some o'/\∀o',r.upd≠some (id',o'))) ->
   ι' id=some gh->ι' id'=some bq->gh.blk=some k->bq.blk=some k->False:=by
  intro id id' o o' gh bq k ⟨hnew,hid⟩ hlive agT hother hi hi' hk hk';subst hid;obtain⟨q,hq,hql⟩:∃q,look objs id'=some q/\q.live=true:=by
   rcases hother with h | ⟨h,_⟩
   ·exact vH id' o' h
   ·exact⟨o',h,agT⟩
  have hne:=kP id' q hq hql;rw[hp.kX id' hne]at hi';have aFQ:=hilt id' bq k hi' hk';obtain⟨_,h⟩:=hp.qD gh k hi hk;rcases h with h | ⟨i0,ob,xY,hu,aB3,hi0,hk0⟩
  ·omega
  ·obtain⟨q0,hq0,aEd⟩:=vH i0 ob hu;have e:=hinj id' i0 q q0 bq xY k hq hq0 hql aEd hi' hi0 hk' hk0;subst e;rcases hother with h | ⟨_,h⟩
   ·rw[hu]at h;cases h;rw[aB3]at agT;cases agT
   ·exact h ob hu
 intro id id' o o' gh bq k h1 h2 l1 l2 i1 i2 b1 b2;have c1:=hl id o h1;have c2:=hl id' o' h2;rcases c1 with n1 | c1
 ·grind
 ·rcases c2 with n2 | c2
  ·exact(key id' id o' o bq gh k n2 l2 l1 c1 i2 i1 b2 b1).elim
  ·obtain⟨q1,hq1,hl1⟩:∃q,look objs id=some q/\q.live=true:=by
    rcases c1 with h | ⟨h,_⟩
    ·exact vH id o h
    ·exact⟨o,h,l1⟩
   obtain⟨q2,hq2,hl2⟩:∃q,look objs id'=some q/\q.live=true:=by
    rcases c2 with h | ⟨h,_⟩
    ·exact vH id' o' h
    ·exact⟨o',h,l2⟩
   rw[hp.kX id (kP id q1 hq1 hl1)]at i1;rw[hp.kX id' (kP id' q2 hq2 hl2)]at i2;exact hinj id id' q1 q2 gh bq k hq1 hq2 hl1 hl2 i1 i2 b1 b2
variable {w0:Start} {aP:Nat->Nat->Prop} {n next:Nat} {loc glob:List (Nat×AV E)} {objs:List (Nat×aS E)}
theorem gK.ext{dR:Nat}{r:gu E}{val:Value}(hp:gK E w w' ι ι' ro ro' dR r val)(hfresh:ι dR=none):∀id gh,ι id=some gh->ι' id=some gh:=by intro i gh hi;rw[hp.kX i (fun e=>by subst e;rw[hfresh]at hi;cases hi)];exact hi
theorem aus(hg:bO E w0 aP ⟨n,loc++glob,objs,next⟩ a w ι ro)(hnc:aR glob){d:Option Nat}{r:gu E}{val:Value}(hd:PO n d ((0,r.v)::loc)=true)
  (vH:∀id o,r.upd=some (id,o)->∃o',look objs id=some o'/\o'.live=true) (hp:gK E w w' ι ι' ro ro' next { r with v:=.any } val) (PW:agR E w' ro' ι' a val r.v) :
  bO E w0 aP ⟨n,I7 d r.v loc++glob,MP objs next r,next+1⟩ (a.put d val) w' ι' ro':=by
 have hfresh:=hg.fresh next (abn _);have hilt:∀id gh k,ι id=some gh->gh.blk=some k->k<w.heap.size:=fun id gh k h1 h2=>(hg.base.tO id gh k h1 h2).2
 have kP:∀id o,look objs id=some o->id<next:=hg.ids;exact {
  base:=hg.base.step hp hfresh d
  size:=PV.trans hg.size
  tmps:=xg.step hg.size hg.tmps hnc hd hp.mono hp.cell (hp.ext hfresh) PW
  objs:=fun id o hl=>by
   rcases Ik hl with⟨h1,h2⟩ | ⟨h1,_⟩ | ⟨h1,_,h3⟩
   ·subst h2;exact hp.new o h1
   ·exact hp.upd id o h1
   ·exact j5.step hp hfresh hg.inj vH hilt h1 (fun e=>by have:=kP id o h1;omega) h3 (hg.objs id o h1)
  inj:=agS hp hg.inj vH hilt (fun id o h _ e=>by have:=kP id o h;omega) _ (fun id o hl=>by
   rcases Ik hl with h | ⟨h1,_⟩ | ⟨h1,_,h3⟩
   ·exact .inl h
   ·exact .inr (.inl h1)
   ·exact .inr (.inr ⟨h1,h3⟩))
  fresh:=fun id h=>by have h:next+1<=id:=h;rw[hp.kX id (by omega)];exact hg.fresh id (by show next<=id;omega)
  ids:=fun id o hl=>by
   show id<next+1;rcases Ik hl with⟨_,h2⟩ | ⟨h1,_⟩ | ⟨h1,_,_⟩
   ·omega
   ·grind
   ·have:=kP id o h1;omega }
theorem aq7{I:Inl E}{S:au E}{ro:Nat->Nat->Prop}{ι:Nat->Option Gh}(c:Ctx E S [] a w ι ro){o:Oper}{f:FuncId}{args:List (AV E)}(h:aox I S o=some (f,args)) :
  o.guard=none/\∃kS as ts vs us p q,o.op = .call { callee:=.value kS,args:=as,argTypes:=ts }/\a.eval kS = .func (.func f) vs us/\args=p++(bY S.tmps [] as++q) /\
   vs.size=p.length/\us.size=q.length/\(∀(j:Nat) v c,vs[j]? = some v->p[j]? = some c->aO E w ro ι v c)/\(∀(j:Nat) v c,us[j]? = some v->q[j]? = some c->aO E w ro ι v c):=by
 unfold aox at h;split at h
 ·rename_i cc hg hop;obtain⟨callee,as,ts⟩:=cc;split at h
  ·rename_i x hx;have hx:callee = .value x:=hx;subst hx;split at h
   ·rename_i f' hf;have hfo:a.eval x = .func (.func f') #[] #[]:=by
     unfold VD at hf;split at hf
     ·cases hf;rfl
     ·unfold funcOf at hf;split at hf
      ·rename_i heq;cases hf;have hx:=c.get x;rw[heq]at hx;exact hx.jY
      ·cases hf
    cases hh:I.has f' with
    | false=>rw[hh]at h;cases h
    | true =>rw[hh]at h;cases h;exact⟨hg,x,as,ts, #[], #[],[],[],hop,hfo,by simp,rfl,rfl,fun j v c hv=>by simp at hv,fun j v c hv=>by simp at hv⟩
   ·split at h
    ·rename_i f' p q heq;cases hh:I.has f' with
     | false=>rw[hh]at h;cases h
     | true =>
      rw[hh]at h;cases h;have hx:=c.get x;rw[heq]at hx;generalize gW:a.eval x=vx at hx;cases hx with
      | fn _ vs us _ _ h1 h2 h3 h4=>grind
    ·cases h
  ·cases h
 ·cases h
theorem azO(hg:bO E w0 aP ⟨n,loc++glob,objs,next⟩ a w ι ro)(hnc:aR glob){d:Option Nat}{x:AV E}{val:Value}(hd:PO n d ((0,x)::loc)=true)(hx:dU x=false)(hv:aO E w' ro' ι' val x)
  {mI:List (Nat×aS E)} {next':Nat} (hb:Base w0 aP a w' ι' ro') (ho:∀(id:Nat) o,look mI id=some o->j5 E w' ro' ι' id o) (hi:Zy E mI ι') (hf:∀id,next'<=id->ι' id=none) (kP:∀id o,look mI id=some o->id<next')
  (hkeep:∀k o,ro k o->ro' k o/\w'.cell? ⟨k,o,none⟩=w.cell? ⟨k,o,none⟩) (hext:∀id gh,ι id=some gh->ι' id=some gh) :
  bO E w0 aP ⟨n,I7 d x loc++glob,mI,next'⟩ (a.put d val) w' ι' ro' where
 base:=⟨hb.below,hb.aT,hb.qN,hb.tO,(by have:=hb.defers;cases d<;>exact this),hb.keep,hb.held⟩
 size:=PV.trans hg.size
 tmps:=xg.step hg.size hg.tmps hnc hd (fun k o h=>(hkeep k o h).1) (fun k o h=>(hkeep k o h).2) hext fun tm _=>by cases x<;>first | exact hv | cases hx
 objs:=ho
 inj:=hi
 fresh:=hf
 ids:=kP
theorem GU{R:Type}{O:aI E}(hO:aK E O){ops:Array Oper}(hnc:aR glob){k:au E->Option R}{rr:R}{Q:Exit->Act->World->Prop}
  (hk:∀S' a' w' ι' ro',aR S'.tmps->bO E w0 aP S' a' w' ι' ro'->S'.n=n->k S'=some rr->Q .normal a' w') :
  ∀(l:List Oper) (loc:List (Nat×AV E)) (objs:List (Nat×aS E)) (next:Nat) (a:Act) (w:World) (ι:Nat->Option Gh) (ro:Nat->Nat->Prop),bO E w0 aP ⟨n,loc++glob,objs,next⟩ a w ι ro->mK O ops n glob l loc objs next k=some rr ->
   wpList P ops Q l a w
 | [],loc,objs,next,a,w,ι,ro,hg,h=>by
  unfold mK at h;refine wpList_nil (hk ⟨n,rE loc++glob,objs,next⟩ a w ι ro (fun p hp=>?_) ⟨hg.base,hg.size,hg.tmps.clean,hg.objs,hg.inj,hg.fresh,hg.ids⟩ rfl h);rcases List.mem_append.1 hp with hp | hp
  ·exact CU loc p hp
  ·exact hnc p hp
 | o::rest,loc,objs,next,a,w,ι,ro,hg,h=>by
  unfold mK at h;split at h
  ·rename_i f args hin;have c:Ctx E ⟨n,loc++glob,objs,next⟩ [] a w ι ro:=⟨hg.tmps,fun j b hb=>by simp[tN]at hb,hg.base.aT,hg.objs,hg.fresh _ (abn _)⟩
   obtain⟨hg0,kS,as,ts,vs,us,p,q,hop,hfo,rfl,hp1,hq1,hp2,hq2⟩:=aq7 c hin;obtain⟨hfn,mJ⟩:=hO.2.2.2.2.1 _ _ _ _ _ _ h;refine wpList_step fun K hK=>?_
   rw[if_pos (show Region.wanted o (yielded ops a.tmps)=true by simp[Region.wanted,hg0])];unfold Oper.wp;rw[agM hop hfo hfn];refine(mJ w0 aP a w ι ro _ hg.base hg.objs hg.inj hg.fresh hg.ids (by simp[bY,hp1,hq1]) fun i v x hv hx=>?_).mono fun e w' he=>?_
   ·refine VH (by simpa using hp1) (fun j v c h1 h2=>hp2 j v c (by simpa using h1) h2) (VH (by simp[bY]) (fun j v x h1 h2=>SK c as j v x (by simpa using h1) h2) fun j v c h1 h2=>hq2 j v c (by simpa using h1) h2) i v x hv hx
   ·obtain⟨v,x,mI,next',ι',ro',rfl,hk',hv,hb,ho,hi,hf,kP,hkeep,hext⟩:=he;split at hk'
    ·rename_i hd;simp only[abj,ajC]at hd;exact hK _ _ (GU hO hnc hk rest _ _ _ _ _ _ _ (azO hg hnc hd.1 hd.2 hv hb ho hi hf kP hkeep hext) hk')
    ·cases hk'
  split at h
  ·rename_i r hr;split at h
   ·rename_i hd;cases hok:r.ok with
    | false=>rw[hok]at h;cases h
    | true =>
     rw[hok]at h;simp only[cond_true]at h;refine wpList_step fun K hK=>?_
     refine adz (S:=⟨n,loc++glob,objs,next⟩) hg.base.aT hg.tmps hg.objs (hg.fresh _ (abn _)) hO hr hok fun val w' ι' ro' hp PW=>?_
     refine hK _ _ (GU hO hnc hk rest _ _ _ _ _ _ _ (aus hg hnc hd (fun id o hu=>VJ hr hu) hp PW) h)
   ·cases h
  ·cases h
end
end
end Go.Proofs.YtclnniijooeajaaGreatDoor.bg
namespace Go.Proofs.YtclnniijooeajaaGreatDoor.bg
open Go Go.RowKit
section
section
variable {P:Program} (E:Env P)
structure gF where
 i:Nat
 pr:Nat
 dst:Option Nat
 x:AV E
 oM:List (Nat×aS E)
 cls:Nat
end
section
variable {P:Program} {E:Env P}
def ZK(O:aI E):Op->Nat
 | .makeSlice _ _ _=>1
 | .makeMap _ _=>1
 | .buildSlice _ n _=>(match n with | 0=>1 | _=>0)
 | .alloc _=>1
 | .box _ _=>1
 | .load _ _=>1
 | .store _ _ _=>2
 | .mapUpdate _ _ _ _=>2
 | .call c=>match c.callee with
  | .builtin .append=>2
  | .builtin .copy=>2
  | .builtin .unsafeString=>2
  | .value (.func f)=>bif O.awc f||(O.auc f).isSome||(match O.cc with | some (f',_)=>Nat.beq f' f | none=>false)then 2 else bif O.J9 f||(O.grow f).isSome||O.inl.has f then 1 else 0
  | _=>0
 | _=>0
def abL:List (gF E)->Nat->Option Nat
 | [],_=>none
 | e::r,j=>if Nat.beq e.i j then some e.pr else abL r j
def Gb(ents:List (gF E)):List Edge->Option Nat
 | []=>some 0
 | e::r=>match Gb ents r with
  | none=>none
  | some m=>match Region.binds .any e with
   | false=>some m
   | true=>match abL ents e.on with
    | some p=>some (m ||| (p ||| 2 ^ e.on))
    | none=>none
def zG(D:Nat->Bool):List (gF E)->List (Nat×AV E)
 | []=>[]
 | e::r=>bif D e.i then I7 e.dst e.x (zG D r)else zG D r
def ji(D:Nat->Bool)(objs:List (Nat×aS E)):List (gF E)->List (Nat×aS E)
 | []=>objs
 | e::r=>bif D e.i then e.oM++ji D objs r else ji D objs r
def JL(dR:Nat)(r:gu E):List (Nat×aS E):=MP [] dR r
def ZL(c pr:Nat):List (gF E)->Bool
 | []=>true
 | e::r=>(match c,e.cls with
  | 0,_=>true
  | _,0=>true
  | 1,_=>true
  | _,_=>Nat.testBit pr e.i)&&ZL c pr r
def VK(c:Nat)(r:gu E):Bool:=match c,r.upd,r.new with
 | 0,none,none=>true
 | 0,_,_=>false
 | 1,none,_=>true
 | 1,_,_=>false
 | _,_,_=>true
def ZM(n:Nat)(d:Option Nat)(x:AV E)(ents:List (gF E)):Bool:=match d with
 | none=>true
 | some d=>Nat.blt d n&&Dq d [(0,x)]&&ents.all fun e=>match e.dst with | some d'=>!Nat.beq d' d | none=>true
def Kl:Nat->Bool:=fun _=>true
def N8(acc:List (Nat×Nat)):List Edge->Nat
 | []=>0
 | e::r=>match Region.binds .any e with
  | false=>N8 acc r
  | true=>match look acc e.on with
   | some p=>N8 acc r ||| (p ||| 2 ^ e.on)
   | none=>N8 acc r
def PX:List Oper->Nat->List (Nat×Nat)->List (Nat×Nat)
 | [],_,acc=>acc
 | o::r,i,acc=>PX r (i+1) ((i,N8 acc o.after.toList)::acc)
def PY(ops:Array Oper):List (Nat×Nat):=PX ops.toList 0 []
def PZ(l:List Oper)(j:Nat):Bool:=l.any fun o=>match o.guard with | some (g,_)=>Nat.beq g j | none=>false
def agU(tab:List (Nat×Nat))(i j:Nat):Bool:=match look tab j with
 | some p=>Nat.testBit p i
 | none=>false
def CV(tab:List (Nat×Nat))(all:List Oper)(i:Nat):List Oper->Nat->List (Nat×AV E)
 | [],_=>[]
 | o::r,j=>match agU tab i j && !(PZ all j)with
  | true=>CV tab all i r (j+1)
  | false=>I7 o.dst .any (CV tab all i r (j+1))
def agV:List (gF E)->Bool
 | []=>false
 | e::r=>(match e.cls with | 0=>false | 1=>false | _=>true)||agV r
def ZN:List (gF E)->List Nat
 | []=>[]
 | e::r=>e.oM.map (·.1)++ZN r
def mem1:List Nat->Nat->Bool
 | [],_=>false
 | i::r,j=>Nat.beq i j||mem1 r j
def ZO(ids:List Nat):List (Nat×aS E)->List (Nat×aS E)
 | []=>[]
 | (i,o)::r=>match mem1 ids i with
  | true=>ZO ids r
  | false=>(i,o)::ZO ids r
def Il(c pr:Nat)(objs:List (Nat×aS E))(ents:List (gF E)):List (Nat×aS E):=match c with
 | 0=>[]
 | 1=>(match agV ents with
  | true=>ZO (ZN ents) objs
  | false=>ji (Nat.testBit pr) objs ents)
 | _=>ji (Nat.testBit pr) objs ents
def JM(O:aI E)(ops:Array Oper)(n:Nat)(glob:List (Nat×AV E))(next i:Nat)(o:Oper)(pr:Nat)(ents:List (gF E)):Nat:=match o.op with
 | .load _ _=>(match ZJ O ops ⟨n,zG (Nat.testBit pr) ents++(CV (PY ops) ops.toList i ops.toList 0++glob),[],next+i⟩ o with
  | some r=>(match VK 0 r with | true=>0 | false=>1)
  | none=>1)
 | op=>ZK O op
theorem aut(O:aI E)(o:Op):ZK O o=0\/ZK O o=1\/ZK O o=2:=by unfold ZK;grind
theorem auu{O:aI E}{ops:Array Oper}{n:Nat}{glob:List (Nat×AV E)}{next i:Nat}{o:Oper}{pr:Nat}{ents:List (gF E)}:JM O ops n glob next i o pr ents=0\/JM O ops n glob next i o pr ents=1\/JM O ops n glob next i o pr ents=2:=by
 unfold JM;split
 ·split
  ·split<;>simp
  ·simp
 ·exact aut _ _
def Km{R:Type}(O:aI E)(ops:Array Oper)(n:Nat)(glob:List (Nat×AV E))(objs:List (Nat×aS E))(next:Nat):List Oper->List (gF E)->Nat->(au E->Option R)->Option R
 | [],ents,i,k=>k ⟨n,rE (zG Kl ents)++glob,ji Kl objs ents,next+i⟩
 | o::rest,ents,i,k=>match Gb ents o.after.toList with
  | none=>none
  | some pr=>match ZL (JM O ops n glob next i o pr ents) pr ents with
   | false=>none
   | true=>match ZJ O ops ⟨n,zG (Nat.testBit pr) ents++(CV (PY ops) ops.toList i ops.toList 0++glob),(Il (JM O ops n glob next i o pr ents) pr objs ents),next+i⟩ o with
    | none=>none
    | some r=>match VK (JM O ops n glob next i o pr ents) r&&ZM n o.dst r.v ents with
     | false=>none
     | true=>bif r.ok then Km O ops n glob objs next rest (⟨i,pr,o.dst,r.v,JL (next+i) r,JM O ops n glob next i o pr ents⟩::ents) (i+1) k else none
def yH(n:Nat)(ops:Array Oper)(glob:List (Nat×AV E))(objs:List (Nat×aS E))(c pr dR i:Nat)(ents:List (gF E)):au E :=
 ⟨n,zG (Nat.testBit pr) ents++(CV (PY ops) ops.toList i ops.toList 0++glob),(Il c pr objs ents),dR⟩
def CW(O:aI E)(ops:Array Oper)(n:Nat)(glob:List (Nat×AV E))(objs:List (Nat×aS E))(next:Nat)(e:gF E)(r:List (gF E)):Prop :=
 e.i=r.length/\∃o res,ops[e.i]? = some o/\Gb r o.after.toList=some e.pr/\ZL e.cls e.pr r=true/\ZJ O ops (yH n ops glob objs e.cls e.pr (next+e.i) e.i r) o=some res /\
  VK e.cls res=true/\ZM n o.dst res.v r=true/\res.ok=true/\e.dst=o.dst/\e.x=res.v/\e.oM=JL (next+e.i) res/\(e.cls=0\/e.cls=1\/e.cls=2)
def gy(O:aI E)(ops:Array Oper)(n:Nat)(glob:List (Nat×AV E))(objs:List (Nat×aS E))(next:Nat):List (gF E)->Prop
 | []=>True
 | e::r=>gy O ops n glob objs next r/\CW O ops n glob objs next e r
section
variable {O:aI E} {ops:Array Oper} {n next:Nat} {glob:List (Nat×AV E)} {objs:List (Nat×aS E)}
theorem WK{R:Type}{k:au E->Option R}{rr:R}:∀(rest pre:List Oper) (ents:List (gF E)) (i:Nat),ops.toList=pre++rest->pre.length=i->ents.length=i->gy O ops n glob objs next ents ->
  Km O ops n glob objs next rest ents i k=some rr->∃L,gy O ops n glob objs next L/\L.length=ops.size/\k ⟨n,rE (zG Kl L)++glob,ji Kl objs L,next+ops.size⟩=some rr
 | [],pre,ents,i,hl,hi,he,hok,h=>by unfold Km at h;grind
 | o::rest,pre,ents,i,hl,hi,he,hok,h=>by
  unfold Km at h;split at h
  ·cases h
  ·rename_i pr hpr;split at h
   ·cases h
   ·rename_i hcls;split at h
    ·cases h
    ·rename_i r hr;split at h
     ·cases h
     ·rename_i hres;simp only[abj]at hres;cases hk:r.ok with
      | false=>rw[hk]at h;cases h
      | true =>
       rw[hk]at h;simp only[cond_true]at h;have ho:ops[i]? = some o:=by rw[<- Array.getElem?_toList,hl,aef (by omega),hi,Nat.sub_self];rfl
       exact WK rest (pre++[o]) (⟨i,pr,o.dst,r.v,JL (next+i) r,JM O ops n glob next i o pr ents⟩::ents) (i+1) (by rw[hl];simp) (by simp[hi]) (by simp[he])
        ⟨hok,he.symm,o,r,ho,hpr,hcls,hr,hres.1,hres.2,hk,rfl,rfl,rfl,auu⟩ h
theorem gy.split{pre r:List (gF E)}{e:gF E}(h:gy O ops n glob objs next (pre++e::r)):gy O ops n glob objs next (e::r):=by
 induction pre with
 | nil=>exact h
 | cons p pre ih=>exact ih h.1
theorem gy.lt{L:List (gF E)}(h:gy O ops n glob objs next L):∀e∈L,e.i<L.length:=by
 induction L with
 | nil=>intro e he;cases he
 | cons p r ih =>
  intro e he;simp only[List.length_cons];cases he with
  | head=>have:=h.2.1;omega
  | tail _ he=>have:=ih h.1 e he;omega
theorem gy.uniq{L:List (gF E)}(h:gy O ops n glob objs next L):∀e∈L, ∀e'∈L,e.i=e'.i->e=e':=by
 induction L with
 | nil=>intro e he;cases he
 | cons p r ih =>
  intro e he e' he' hi;cases he with
  | head =>
   cases he' with
   | head=>rfl
   | tail _ he'=>have:=h.1.lt e' he';have:=h.2.1;omega
  | tail _ he =>
   cases he' with
   | head=>have:=h.1.lt e he;have:=h.2.1;omega
   | tail _ he'=>exact ih h.1 e he e' he' hi
theorem gy.has{L:List (gF E)}(h:gy O ops n glob objs next L):∀j,j<L.length->∃e∈L,e.i=j:=by
 induction L with
 | nil=>intro j hj;simp at hj
 | cons p r ih =>
  intro j hj;simp only[List.length_cons]at hj;by_cases hjr:j<r.length
  ·obtain⟨e,he,hi⟩:=ih h.1 j hjr;exact⟨e,abb _ he,hi⟩
  ·exact⟨p,abd,by have:=h.2.1;omega⟩
theorem agW:∀{r:List (gF E)} {j p:Nat},abL r j=some p->∃e∈r,e.i=j/\e.pr=p
 | [],_,_,h=>by cases h
 | e::r,j,p,h=>by
  unfold abL at h;split at h
  ·rename_i hb;cases h;exact⟨e,abd,aaF hb,rfl⟩
  ·obtain⟨e',he',h1,h2⟩:=agW h;grind
theorem MR:∀{r:List (gF E)} {es:List Edge} {m:Nat},Gb r es=some m ->
  (∀j,Nat.testBit m j=true->∃ed∈es,Region.binds .any ed=true/\∃e∈r,e.i=ed.on/\(j=ed.on\/Nat.testBit e.pr j=true))/\(∀ed∈es,Region.binds .any ed=true->Nat.testBit m ed.on=true/\∃e∈r,e.i=ed.on)
 | r,[],m,h=>by cases h;grind
 | r,ed::es,m,h=>by
  unfold Gb at h;split at h
  ·cases h
  ·rename_i m' hm;obtain⟨h1,h2⟩:=MR hm;split at h
   ·grind
   ·rename_i hb;split at h
    ·rename_i p hp;cases h;obtain⟨e,he,ZP,hep⟩:=agW hp;grind
    ·cases h
theorem P5{d:Nat}{x:AV E}{ents:List (gF E)}(h:ZM n (some d) x ents=true):d<n/\(∀gs want u,x = .cond gs want u->gs≠d)/\∀e∈ents,e.dst≠some d:=by
 unfold ZM at h;simp only[abj,ahn]at h;obtain⟨⟨h1,h2⟩,h3⟩:=h;refine⟨by simpa using h1,fun gs want u e=>?_,fun e he hd=>?_⟩
 ·subst e;exact EJ _ _ h2 0 gs want u abd
 ·have:=h3 e he;rw[hd]at this;simp at this
theorem gy.agX{L:List (gF E)}(h:gy O ops n glob objs next L):∀e∈L, ∀e'∈L, ∀d,e.dst=some d->e'.dst=some d->e=e':=by
 induction L with
 | nil=>intro e he;cases he
 | cons p r ih =>
  have key:∀e'∈r, ∀d,p.dst=some d->e'.dst=some d->False:=by intro e' he' d hd hd';obtain⟨hi,o,res,ho,hpr,_,_,_,hdn,_,hdst,_⟩:=h.2;rw[hdst]at hd;rw[hd]at hdn;exact(P5 hdn).2.2 e' he' hd'
  intro e he e' he' d hd hd';cases he with
  | head =>grind
  | tail _ he =>
   cases he' with
   | head=>exact(key e he d hd' hd).elim
   | tail _ he'=>exact ih h.1 e he e' he' d hd hd'
theorem adA{d:Option Nat}{x y:AV E}{loc:List (Nat×AV E)}{t:Nat}(h:look (I7 d x loc) t=some y):(d=some t/\y=x)\/(d≠some t/\look loc t=some y):=by
 cases d with
 | none=>exact .inr ⟨(fun e=>by cases e),h⟩
 | some d =>
  simp only[I7,aX]at h;split at h
  ·rename_i hb;have:=aaF hb;grind
  ·rename_i hb;exact .inr ⟨(fun e=>by cases e;simp at hb),h⟩
theorem Im{D:Nat->Bool}:∀{L:List (gF E)} {t:Nat} {x:AV E},look (zG D L) t=some x->∃e∈L,D e.i=true/\e.dst=some t/\x=e.x
 | [],_,_,h=>by cases h
 | e::r,t,x,h=>by
  unfold zG at h;cases hd:D e.i with
  | false =>rw[hd]at h;obtain⟨e',he',rest⟩:=Im h;grind
  | true =>
   rw[hd]at h;rcases adA h with⟨h1,h2⟩ | ⟨_,h⟩
   ·grind
   ·obtain⟨e',he',rest⟩:=Im h;grind
theorem Gc{D:Nat->Bool}:∀{L:List (gF E)} {t:Nat},look (zG D L) t=none->∀e∈L,D e.i=true->e.dst≠some t
 | [],_,_,e,he,_=>by cases he
 | p::r,t,h,e,he,hD=>by
  unfold zG at h;cases hd:D p.i with
  | false =>
   rw[hd]at h;cases he with
   | head=>rw[hd]at hD;cases hD
   | tail _ he=>exact Gc h e he hD
  | true =>
   rw[hd]at h;simp only[cond_true]at h;have h2:p.dst≠some t/\look (zG D r) t=none:=by
    cases hp:p.dst with
    | none=>rw[hp]at h;exact⟨(fun e=>by cases e),h⟩
    | some d =>
     rw[hp]at h;simp only[I7,aX]at h;split at h
     ·cases h
     ·rename_i hb;exact⟨(fun e=>by cases e;simp at hb),h⟩
   cases he with
   | head=>exact h2.1
   | tail _ he=>exact Gc h2.2 e he hD
theorem JN{tab:List (Nat×Nat)}{all:List Oper}{i:Nat}:∀{l:List Oper} {j t:Nat} {x:AV E},look (CV tab all i l j) t=some x->x = .any/\∃o∈l,o.dst=some t
 | [],_,_,_,h=>by cases h
 | o::r,j,t,x,h=>by
  unfold CV at h;split at h
  ·obtain⟨h1,o',ho',h2⟩:=JN h;grind
  ·rcases adA h with⟨h1,h2⟩ | ⟨_,h⟩
   ·exact⟨h2,o,abd,h1⟩
   ·obtain⟨h1,o',ho',h2⟩:=JN h;grind
theorem zk{tab:List (Nat×Nat)}{all:List Oper}{i:Nat}:∀{l:List Oper} {j t:Nat},look (CV (E:=E) tab all i l j) t=none->∀(m:Nat) o,l[m]? = some o->o.dst=some t->agU tab i (j+m)=true/\PZ all (j+m)=false
 | [],_,_,_,m,o,hm,_=>by simp at hm
 | p::r,j,t,h,m,o,hm,hd=>by
  unfold CV at h;split at h
  ·rename_i hb;simp only[abj,ajC]at hb;cases m with
   | zero=>exact hb
   | succ m =>have:=zk h m o (by simpa using hm) hd;grind
  ·have h2:p.dst≠some t/\look (CV (E:=E) tab all i r (j+1)) t=none:=by
    cases hp:p.dst with
    | none=>rw[hp]at h;exact⟨(fun e=>by cases e),h⟩
    | some d =>
     rw[hp]at h;simp only[I7,aX]at h;split at h
     ·cases h
     ·rename_i hb;exact⟨(fun e=>by cases e;simp at hb),h⟩
   cases m with
   | zero=>simp at hm;subst hm;exact absurd hd h2.1
   | succ m =>have:=zk h2.2 m o (by simpa using hm) hd;grind
theorem agY:∀(a b:List Oper) (i:Nat) (acc:List (Nat×Nat)),PX (a++b) i acc=PX b (i+a.length) (PX a i acc)
 | [],b,i,acc=>by simp[PX]
 | o::a,b,i,acc=>by simp only[aeF,PX,List.length_cons];rw[agY a b];congr 1;omega
def N9(L:List (gF E)):List (Nat×Nat):=L.map fun e=>(e.i,e.pr)
theorem agZ:∀(L:List (gF E)) (j:Nat),abL L j=look (N9 L) j
 | [],_=>rfl
 | e::r,j=>by
  simp only[abL,N9,aeH,aX];split
  ·rfl
  ·exact agZ r j
theorem WL(L:List (gF E)):∀(es:List Edge) (p:Nat),Gb L es=some p->N8 (N9 L) es=p
 | [],p,h=>by cases h;rfl
 | e::r,p,h=>by
  unfold Gb at h;unfold N8;split at h
  ·cases h
  ·rename_i m hm;have ih:=WL L r m hm;split at h
   ·cases h;exact ih
   ·rename_i hb;split at h
    ·rename_i q hq;cases h;rw[agZ]at hq;rw[hq];simp only[ih]
    ·cases h
theorem ag0:∀(L:List (gF E)),gy O ops n glob objs next L->L.length<=ops.size->PX (ops.toList.take L.length) 0 []=N9 L
 | [],_,_=>rfl
 | e::r,h,hl=>by
  obtain⟨h1,hi,o,res,ho,hpr,_⟩:=h;have hl':r.length<ops.size:=by rw[List.length_cons]at hl;omega
  have ih:=ag0 r h1 (by omega);rw[hi]at ho;have ho':ops.toList[r.length]? = some o:=by simpa using ho
  have hlt:r.length<ops.toList.length:=by simpa using hl'
  rw[List.length_cons,aht hlt,agY,ih];have hog:ops.toList[r.length]=o:=by rw[aaz hlt]at ho';exact Option.some.inj ho'
  rw[hog];simp only[PX,ad6,aeC];rw[Nat.min_eq_left (by omega),WL r _ _ hpr,<- hi];rfl
theorem gy.tab{L:List (gF E)}(h:gy O ops n glob objs next L)(hlen:L.length=ops.size):∀e∈L,look (PY ops) e.i=some e.pr:=by
 have ht:=ag0 L h (by omega);rw[hlen,aej (by simp)]at ht;unfold PY;rw[ht];have key:∀(M:List (gF E)),gy O ops n glob objs next M->∀e∈M,look (N9 M) e.i=some e.pr:=by
  intro M
  induction M with
  | nil=>intro _ e he;cases he
  | cons p r ih =>
   intro hM e he;simp only[N9,aeH,aX];rcases List.mem_cons.1 he with rfl | he
   ·rw[if_pos (by simp)]
   ·have h1:=hM.1.lt e he;have h2:=hM.2.1;rw[if_neg (by simp;omega)];exact ih hM.1 e he
 exact key L h
end
end
end
end Go.Proofs.YtclnniijooeajaaGreatDoor.bg
namespace Go.Proofs.YtclnniijooeajaaGreatDoor.bg
open Go Go.RowKit
section
section
variable {P:Program} {E:Env P} {O:aI E} {ops:Array Oper} {n next:Nat} {glob:List (Nat×AV E)} {objs:List (Nat×aS E)}
theorem P6{e:gF E}{r:List (gF E)}(h:CW O ops n glob objs next e r)(hc:e.cls=0):e.oM=[]:=by
 obtain⟨hi,o,res,ho,hpr,_,_,hres,hdn,_,hdst,_,heff,hcls⟩:=h;rw[hc]at hres;rw[heff];cases hu:res.upd with
 | some u=>simp[VK,hu]at hres
 | none =>
  cases hn:res.new with
  | some o=>simp[VK,hu,hn]at hres
  | none=>simp[JL,MP,hu,hn]
theorem ag1{e:gF E}{r:List (gF E)}(h:CW O ops n glob objs next e r)(hc:e.cls=1):e.oM=[]\/∃o,e.oM=[(next+e.i,o)]:=by
 obtain⟨hi,o,res,ho,hpr,_,_,hres,hdn,_,hdst,_,heff,hcls⟩:=h;rw[hc]at hres;rw[heff];cases hu:res.upd with
 | some u=>simp[VK,hu]at hres
 | none =>
  cases hn:res.new with
  | none=>left;simp[JL,MP,hu,hn]
  | some o=>right;exact⟨o,by simp[JL,MP,hu,hn]⟩
theorem axL{e:gF E}{r:List (gF E)}(h:CW O ops n glob objs next e r):e.cls=0\/e.cls=1\/e.cls=2:=by obtain⟨hi,o,res,ho,hpr,_,_,hres,hdn,_,hdst,_,heff,hcls⟩:=h;exact hcls
theorem Mi:∀{c pr:Nat} {r:List (gF E)},ZL c pr r=true->∀e∈r,c=2->e.cls≠0->Nat.testBit pr e.i=true
 | _,_,[],_,e,he=>by cases he
 | c,pr,p::r,h,e,he=>by
  unfold ZL at h;simp only[abj]at h;cases he with
  | tail _ he=>exact Mi h.2 e he
  | head =>grind
theorem ag2:∀{r:List (gF E)},agV r=false->∀e∈r,e.cls=0\/e.cls=1
 | [],_,e,he=>by cases he
 | p::r,h,e,he=>by
  unfold agV at h;simp only[Bool.or_eq_false_iff]at h;cases he with
  | tail _ he=>exact ag2 h.2 e he
  | head =>grind
theorem aq8{l:List Nat}{i:Nat}(h:i∈l):mem1 l i=true:=by
 induction l with
 | nil=>cases h
 | cons a t ih =>
  unfold mem1;cases h with
  | head=>simp
  | tail _ h=>rw[ih h,ai5]
theorem Aw{ids:List Nat}:∀{l:List (Nat×aS E)} {id:Nat} {o:aS E},look (ZO ids l) id=some o->look l id=some o/\mem1 ids id=false
 | [],_,_,h=>by cases h
 | (i,x)::r,id,o,h=>by
  unfold ZO at h;cases hm:mem1 ids i with
  | true =>
   rw[hm]at h;obtain⟨h1,h2⟩:=Aw h;refine⟨?_,h2⟩;rw[aX];have hne:Nat.beq i id=false:=by
    cases hb:Nat.beq i id with
    | false=>rfl
    | true=>have:=aaF hb;subst this;rw[hm]at h2;cases h2
   rw[hne];exact h1
  | false =>
   rw[hm]at h;rw[aX]at h ⊢;split at h
   ·rename_i hb;have:=aaF hb;grind
   ·rename_i hb;rw[if_neg hb];exact Aw h
theorem Kn:∀{l:List (Nat×aS E)} {id:Nat},id∉l.map (·.1)->look l id=none
 | [],_,_=>rfl
 | (i,x)::r,id,h=>by rw[aX];rw[if_neg (fun hb=>h (by have:=aaF hb;subst this;exact abd))];exact Kn (fun hm=>h (abb _ hm))
theorem aoz{r:List (gF E)}{x:gF E}(hx:x∈r){id:Nat}(h:id∈x.oM.map (·.1)):id∈ZN r:=by
 induction r with
 | nil=>cases hx
 | cons p r ih =>unfold ZN;grind
theorem Gd{D:Nat->Bool}{id:Nat}{r:List (gF E)}:∀{pre:List (gF E)},(∀x∈pre,D x.i=true->look x.oM id=none)->look (ji D objs (pre++r)) id=look (ji D objs r) id
 | [],_=>rfl
 | p::pre,h=>by
  have ih:=Gd (r:=r) (pre:=pre) (fun x hx=>h x (abb _ hx));simp only[aeF,ji];cases hd:D p.i with
  | false=>exact ih
  | true =>simp only[cond_true];rw[mM,h p abd hd];exact ih
theorem gy.at_{pre r:List (gF E)}{e:gF E}(h:gy O ops n glob objs next (pre++e::r)):CW O ops n glob objs next e r:=h.split.2
theorem gy.GV{L:List (gF E)}(h:gy O ops n glob objs next L){e:gF E}(he:e∈L):∃pre r,L=pre++e::r/\CW O ops n glob objs next e r:=by obtain⟨pre,r,rfl⟩:=ana he;exact⟨pre,r,rfl,h.at_⟩
theorem ag3{D:Nat->Bool}:∀{pre l:List (gF E)},(∀e∈pre,D e.i=true->e.oM=[])->ji D objs (pre++l)=ji D objs l
 | [],l,_=>rfl
 | p::pre,l,h=>by simp only[aeF,ji];rw[ag3 (pre:=pre) (fun e he=>h e (abb _ he))];grind
theorem JO{D D':Nat->Bool}:∀{r:List (gF E)},(∀e∈r,e.oM≠[]->D e.i=D' e.i)->ji D objs r=ji D' objs r
 | [],_=>rfl
 | p::r,h=>by simp only[ji];rw[JO (r:=r) (fun e he=>h e (abb _ he))];grind
theorem WM{D D':Nat->Bool}{e:gF E}{r:List (gF E)}:∀{pre:List (gF E)} (_:∀x∈pre,D' x.i=D x.i) (_:∀x∈r,D' x.i=D x.i) (_:D e.i=false) (_:D' e.i=true)
  (_:∀x∈pre,D x.i=true->∀p∈x.oM, ∀q∈e.oM,p.1≠q.1) (id:Nat),look (ji D' objs (pre++e::r)) id=(match look e.oM id with | some o=>some o | none=>look (ji D objs (pre++e::r)) id)
 | [],_,hr,he,he',_,id=>by simp only[aei,ji,he,he',cond_true,cond_false];rw[JO (D:=D') (D':=D) (fun x hx _=>hr x hx),mM];cases look e.oM id<;>rfl
 | p::pre,hp,hr,he,he',hd,id=>by
  have ih:=WM (D:=D) (D':=D') (e:=e) (r:=r) (pre:=pre) (fun x hx=>hp x (abb _ hx)) hr he he' (fun x hx=>hd x (abb _ hx)) id;simp only[aeF,ji];rw[hp p abd];cases hD:D p.i with
  | false=>simpa using ih
  | true =>
   simp only[cond_true];rw[mM,mM,ih];cases hpe:look p.oM id with
   | none=>rfl
   | some o =>
    have hm:=jQ _ _ _ hpe;cases hq:look e.oM id with
    | none=>rfl
    | some q =>have hm':=jQ _ _ _ hq;grind
theorem SX{D:Nat->Bool}:∀{L:List (gF E)},(∀e∈L,D e.i=true->e.oM=[]\/∃o,e.oM=[(next+e.i,o)])->∀{id:Nat} {o:aS E},look (ji D objs L) id=some o ->
  (∃e∈L,D e.i=true/\e.oM=[(id,o)])\/look objs id=some o
 | [],_,id,o,h=>.inr h
 | p::r,hs,id,o,h=>by
  have ih:=SX (D:=D) (L:=r) (fun e he=>hs e (abb _ he)) (id:=id) (o:=o);have lift:((∃e∈r,D e.i=true/\e.oM=[(id,o)])\/look objs id=some o)->(∃e∈p::r,D e.i=true/\e.oM=[(id,o)])\/look objs id=some o:=by grind
  simp only[ji]at h;cases hd:D p.i with
  | false=>rw[hd]at h;exact lift (ih h)
  | true =>
   rw[hd]at h;simp only[cond_true]at h;rcases hs p abd hd with he | ⟨ob,he⟩
   ·rw[he]at h;exact lift (ih h)
   ·rw[he]at h;simp only[aeF,aei,aX]at h;split at h
    ·rename_i hb;have:=aaF hb;grind
    ·exact lift (ih h)
theorem gy.pairwise{L:List (gF E)}(h:gy O ops n glob objs next L):L.Pairwise fun e e'=>e.i≠e'.i:=by
 induction L with
 | nil=>exact .nil
 | cons p r ih=>exact .cons (fun e he=>by have:=h.1.lt e he;have:=h.2.1;omega) (ih h.1)
theorem SY{D:Nat->Bool}:∀{L:List (gF E)},(∀e∈L,D e.i=true->e.oM=[]\/∃o,e.oM=[(next+e.i,o)])->L.Pairwise (fun e e'=>e.i≠e'.i)->(∀id o,look objs id=some o->id<next) ->
  ∀{id:Nat} {o:aS E},((∃e∈L,D e.i=true/\e.oM=[(id,o)])\/look objs id=some o)->look (ji D objs L) id=some o
 | [],_,_,_,id,o,h=>by
  rcases h with⟨e,he,_⟩ | h
  ·cases he
  ·exact h
 | p::r,hs,hu,kP,id,o,h=>by
  cases hu with
  | cons hu1 hu2 =>
   have ih:=SY (D:=D) (L:=r) (fun e he=>hs e (abb _ he)) hu2 kP (id:=id) (o:=o);simp only[ji];have hrest:(p.oM=[(id,o)]/\D p.i=true)\/(((∃e∈r,D e.i=true/\e.oM=[(id,o)])\/look objs id=some o)):=by grind
   cases hd:D p.i with
   | false =>grind
   | true =>
    simp only[cond_true];rcases hrest with⟨h,_⟩ | h
    ·rw[h];simp[aX]
    ·rcases hs p abd hd with he | ⟨ob,he⟩
     ·rw[he];exact ih h
     ·rw[he];simp only[aeF,aei,aX];rw[if_neg]
      ·exact ih h
      ·intro hb;have hid:=aaF hb;grind
theorem Ko{L:List (gF E)}(hL:gy O ops n glob objs next L)(kP:∀id o,look objs id=some o->id<next)(D:Nat->Bool):∀id o,look (ji D objs L) id=some o->id<next+L.length:=by
 induction L generalizing D with
 | nil=>intro id o h;have:=kP id o h;simp;omega
 | cons p r ih =>
  intro id o h;simp only[ji]at h;simp only[List.length_cons];cases hd:D p.i with
  | false=>rw[hd]at h;have:=ih hL.1 D id o h;omega
  | true =>
   rw[hd]at h;simp only[cond_true]at h;rw[mM]at h;cases hp:look p.oM id with
   | none=>rw[hp]at h;have:=ih hL.1 D id o h;omega
   | some q =>
    obtain⟨hi,op,res,_,_,_,hev,_,_,_,_,_,heff,_⟩:=hL.2;rw[heff]at hp;rcases Ik hp with⟨_,h2⟩ | ⟨h1,_⟩ | ⟨h1,_⟩
    ·omega
    ·obtain⟨o',h2,_⟩:=VJ hev h1;simp only[yH,Il]at h2;split at h2
     ·cases h2
     ·split at h2
      ·have:=kP id o' (Aw h2).1;omega
      ·have:=ih hL.1 _ id o' h2;omega
     ·have:=ih hL.1 _ id o' h2;omega
    ·cases h1
theorem aq9{r:List (gF E)}(hLr:gy O ops n glob objs next r)(kP:∀id o,look objs id=some o->id<next){c pr id:Nat}{o:aS E}(h:look (Il c pr objs r) id=some o):id<next+r.length:=by
 unfold Il at h;split at h
 ·cases h
 ·split at h
  ·have:=kP id o (Aw h).1;omega
  ·exact Ko hLr kP _ id o h
 ·exact Ko hLr kP _ id o h
theorem ara{dR:Nat}{r:gu E}{q:Nat×aS E}(h:q∈JL dR r):q.1=dR\/∃o,r.upd=some (q.1,o):=by unfold JL MP at h;grind
theorem aoA{L:List (gF E)}(hL:gy O ops n glob objs next L){pre r:List (gF E)}{e:gF E}(hsplit:L=pre++e::r)(he:CW O ops n glob objs next e r){D:Nat->Bool}(hD:D e.i=false)(kP:∀id o,look objs id=some o->id<next)
  (hclosed:∀x∈L,D x.i=true->∀j,Nat.testBit x.pr j=true->D j=true) (hpr:∀j,Nat.testBit e.pr j=true->D j=true) {id:Nat} {o:aS E} (h:look (Il e.cls e.pr objs r) id=some o) :
  look (ji D objs L) id=some o:=by
 have he0:=he;obtain⟨hi,op,res,ho,aFR,hck,_,_,_,_,_,_,_,hcl⟩:=he;have hck:=Mi hck;have hLr:gy O ops n glob objs next r:=by rw[hsplit]at hL;exact hL.split.1
 have hcls:e.cls≠0:=fun h0=>by rw[h0]at h;cases h
 have hid:id<next+e.i:=by
  rw[hi];unfold Il at h;split at h
  ·cases h
  ·split at h
   ·have:=kP id o (Aw h).1;omega
   ·exact Ko hLr kP _ id o h
  ·exact Ko hLr kP _ id o h
 have hsub:∀x∈r,x∈L:=fun x hx=>by rw[hsplit];exact anj _ (abb _ hx)
 have ag4:∀x∈L,x.cls=0\/x.cls=1->x.oM=[]\/∃o,x.oM=[(next+x.i,o)]:=by
  intro x hx hc;obtain⟨p1,p2,_,hx'⟩:=hL.GV hx;rcases hc with hc | hc
  ·exact .inl (P6 hx' hc)
  ·exact ag1 hx' hc
 have hpre:∀x∈pre,D x.i=true->look x.oM id=none:=by
  intro x hx FX;have hxL:x∈L:=by rw[hsplit];exact List.mem_append_left _ hx
  obtain⟨p1,p2,rfl⟩:=ana hx;have hx':CW O ops n glob objs next x (p2++e::r):=by refine gy.at_ (pre:=p1) ?_;rw[hsplit]at hL;simpa using hL
  have hxi:=hx'.1;simp only[List.length_append,List.length_cons]at hxi;obtain⟨_,op',res',_,_,azP,_,_,_,_,_,_,_,hcl'⟩:=hx';have azP:=Mi azP e (by simp);obtain⟨_,_,_,hx''⟩:=hL.GV hxL;have aEU:x.cls=0\/x.cls=1->look x.oM id=none:=by
   intro hc;rcases ag4 x hxL hc with h | ⟨o',h⟩
   ·rw[h];rfl
   ·rw[h];exact Kn (by simp;omega)
  grind
 rw[hsplit,Gd hpre];simp only[ji,hD,cond_false];by_cases h2:e.cls=2
 ·
  rw[h2]at h;have h:look (ji (Nat.testBit e.pr) objs r) id=some o:=h;rw[JO (D:=D) (D':=Nat.testBit e.pr) (fun x hx hne=>?_)]
  ·exact h
  ·have hb:=hck x hx h2 (fun hc=>hne (by
    obtain⟨p1,p2,_,hx'⟩:=hL.GV (hsub x hx);exact P6 hx' hc))
   rw[hb,hpr _ hb]
 ·have h1:e.cls=1:=by
   grind
  rw[h1]at h;simp only[Il]at h;cases h2:agV r with
  | false =>
   rw[h2]at h;have hr1:=ag2 h2;have hpw:r.Pairwise (fun e e'=>e.i≠e'.i):=hLr.pairwise;refine SY (D:=D) (L:=r) (fun x hx _=>ag4 x (hsub x hx) (hr1 x hx)) hpw kP ?_;rcases SX (D:=Nat.testBit e.pr) (L:=r) (fun x hx _=>ag4 x (hsub x hx) (hr1 x hx)) h with⟨x,hx,hb,heff⟩ | h
   ·exact .inl ⟨x,hx,hpr _ hb,heff⟩
   ·exact .inr h
  | true =>
   rw[h2]at h;obtain⟨h3,h4⟩:=Aw h;have:=Gd (D:=D) (objs:=objs) (id:=id) (r:=[]) (pre:=r) (fun x hx _=>Kn (fun hm=>by rw[aq8 (aoz hx hm)]at h4;cases h4))
   rw[aeb]at this;rw[this];exact h3
end
end
end Go.Proofs.YtclnniijooeajaaGreatDoor.bg
namespace Go.Proofs.YtclnniijooeajaaGreatDoor.bg
open Go Go.RowKit
section
section
variable {P:Program} {E:Env P} {O:aI E} {ops:Array Oper} {n next:Nat} {glob:List (Nat×AV E)} {objs:List (Nat×aS E)} {w0:Start} {aP:Nat->Nat->Prop}
structure Inv (E:Env P) (w0:Start) (aP:Nat->Nat->Prop) (ops:Array Oper) (n next:Nat) (glob:List (Nat×AV E)) (objs:List (Nat×aS E)) (L:List (gF E)) (D:Nat->Bool) (a:Act) (w:World) (ι:Nat->Option Gh) (ro:Nat->Nat->Prop):Prop where
 base:Base w0 aP a w ι ro
 size:a.tmps.size=n
 slots:∀e∈L,D e.i=true->∀t,e.dst=some t->∃v,a.tmps[t]? = some v/\BF E w ro ι a.tmps v e.x
 gl:∀t x,look glob t=some x->(∀e∈L,e.dst=some t->D e.i=false)->∃v,a.tmps[t]? = some v/\BF E w ro ι a.tmps v x
 ob:∀id o,look (ji D objs L) id=some o->j5 E w ro ι id o
 inj:Zy E (ji D objs L) ι
 fresh:∀id,next<=id->ι id≠none->∃e∈L,D e.i=true/\id=next+e.i
 closed:∀e∈L,D e.i=true->∀j,Nat.testBit e.pr j=true->D j=true
theorem j5.axM{w:World}{ro:Nat->Nat->Prop}{ι:Nat->Option Gh}{id:Nat}{o:aS E}(h:o.live=false):j5 E w ro ι id o:=by
 cases o with
 | dead=>trivial
 | box cs=>cases h
 | tail l=>intro hl;simp only[aS.live]at h;rw[h]at hl;cases hl
 | row t l=>cases h
 | mp _ _ _=>cases h
 | lp _ _ _ _ _ _ _=>cases h
 | Ih=>cases h
 | arr _ _ _=>cases h
theorem j5.ghost{w:World}{ro:Nat->Nat->Prop}{ι:Nat->Option Gh}{id:Nat}{o:aS E}(h:j5 E w ro ι id o)(hl:o.live=true):ι id≠none:=by
 cases o with
 | dead=>cases hl
 | box cs=>obtain⟨gh,_,_,_,hi,_⟩:=h;rw[hi];simp
 | tail l=>obtain⟨gh,_,hi,_⟩:=h hl;rw[hi];simp
 | row t l=>obtain⟨gh,_,hi,_⟩:=h;rw[hi];simp
 | mp _ _ _=>obtain⟨gh,_,_,hi,_⟩:=h;rw[hi];simp
 | lp _ _ _ _ _ _ _=>obtain⟨gh,_,_,hi,_⟩:=h;rw[hi];simp
 | Ih=>obtain⟨gh,_,hi,_⟩:=h;rw[hi];simp
 | arr _ _ _=>obtain⟨_,gh,_,_,_,hi,_⟩:=h;rw[hi];simp
theorem aoB{e:gF E}{r:List (gF E)}(he:CW O ops n glob objs next e r){gs:Nat}{want:Bool}{u:AV E}(hx:e.x = .cond gs want u):∃g∈r,Nat.testBit e.pr g.i=true/\g.dst=some gs:=by
 obtain⟨hi,o,res,ho,hpr,_,hev,_,_,_,_,hex,_⟩:=he;rw[hex]at hx;unfold ZJ at hev;split at hev
 ·
  have h2:=(SQ hev).2;rw[hx]at h2;cases h2
 ·rename_i j want' hg;split at hev
  ·cases hev
  ·rename_i gs' hgs;split at hev
   ·cases hev
   ·rename_i b asm hguard;split at hev
    ·cases hev;cases hx;have hl:∃y,look (yH n ops glob objs e.cls e.pr (next+e.i) e.i r).tmps gs=some y/\y ≠ .any:=by
      unfold guardOf at hguard;grind
     obtain⟨y,hy,hne⟩:=hl;simp only[yH]at hy;rw[mM]at hy;cases hs:look (zG (Nat.testBit e.pr) r) gs with
     | some z =>obtain⟨g,hg1,hg2,hg3,_⟩:=Im hs;exact⟨g,hg1,hg2,hg3⟩
     | none =>
      rw[hs,mM]at hy;simp only at hy;cases hh:look (CV (E:=E) (PY ops) ops.toList e.i ops.toList 0) gs with
      | some z =>rw[hh]at hy;cases hy;exact absurd (JN hh).1 hne
      | none =>
       exfalso;unfold afQ at hgs;cases hj:ops[j]? with
       | none=>rw[hj]at hgs;cases hgs
       | some oj =>
        rw[hj]at hgs;have h1:=(zk hh j oj (by simpa using hj) (by simpa using hgs)).2;rw[aeC]at h1;have h2:PZ ops.toList j=true:=by unfold PZ;rw[List.any_eq_true];exact⟨o,Array.mem_toList_iff.2 (Array.mem_of_getElem? ho),by rw[hg];simp⟩
        rw[h2]at h1;cases h1
    ·cases hev
theorem axN{L:List (gF E)}(hL:gy O ops n glob objs next L)(hlen:L.length=ops.size):∀o∈ops.toList, ∃e∈L,e.dst=o.dst/\∀t,o.dst=some t->t<n:=by
 intro o ho;obtain⟨j,hj⟩:=List.getElem?_of_mem ho;have hj':ops[j]? = some o:=by simpa using hj
 have hlt:j<ops.size:=(Array.getElem?_eq_some_iff.1 hj').1;obtain⟨e,he,ZP⟩:=hL.has j (by omega);obtain⟨pre,r,_,hi,op,res,hop,_,_,_,_,hdn,_,hdst,_⟩:=hL.GV he;rw[ZP,hj']at hop;cases hop;refine⟨e,he,hdst,fun t ht=>?_⟩;rw[ht]at hdn;exact(P5 hdn).1
theorem auv(hO:aK E O){L:List (gF E)}(hL:gy O ops n glob objs next L)(hlen:L.length=ops.size)(hnc:aR glob)(kP:∀id o,look objs id=some o->id<next){D D':Nat->Bool}{a:Act}{w:World}{ι:Nat->Option Gh}{ro:Nat->Nat->Prop}
  (hinv:Inv E w0 aP ops n next glob objs L D a w ι ro) {e:gF E} (heL:e∈L) (hDe:D e.i=false) {o:Oper} (ho:ops[e.i]? = some o) (ag5:∀ed∈o.after.toList,Region.binds .any ed=true->D ed.on=true)
  (hD':∀j,D' j=true↔(D j=true\/j=e.i)) {K:Act->World->Prop} {Q:Exit->Act->World->Prop} (hK:∀a' w' ι' ro',Inv E w0 aP ops n next glob objs L D' a' w' ι' ro'->K a' w') :
  if Region.wanted o (yielded ops a.tmps)=true then o.wp P a w K Q else K (a.put o.dst undef) w:=by
 obtain⟨pre,r,hsplit,hent⟩:=hL.GV heL;have aoC:=hent;obtain⟨hi,o',res,ho',hpr,hck,hev,hres,hdn,hok,hdst,hex,heff,hcls⟩:=hent;rw[ho]at ho';cases ho';have hrL:∀x∈r,x∈L:=fun x hx=>by rw[hsplit];exact anj _ (abb _ hx)
 have auw:∀j,Nat.testBit e.pr j=true->D j=true:=by
  intro j hj;obtain⟨ed,hed,hb,x,hx,hxi,hj'⟩:=(MR hpr).1 j hj;have FX:D ed.on=true:=ag5 ed hed hb;rcases hj' with rfl | hj'
  ·exact FX
  ·exact hinv.closed x (hrL x hx) (by rw[hxi];exact FX) j hj'
 have hfresh:ι (next+e.i)=none:=by
  cases hgh:ι (next+e.i)with
  | none=>rfl
  | some gh =>exfalso;obtain⟨x,hx,FX,hid⟩:=hinv.fresh (next+e.i) (by omega) (by rw[hgh];simp);have:=hL.uniq e heL x hx (by omega);subst this;rw[hDe]at FX;cases FX
 have Mf:∀id ob,look (yH n ops glob objs e.cls e.pr (next+e.i) e.i r).objs id=some ob->look (ji D objs L) id=some ob:=by intro id ob hl;simp only[yH]at hl;exact aoA hL hsplit aoC hDe kP hinv.closed auw hl
 have Mh:xg E w ro ι a (yH n ops glob objs e.cls e.pr (next+e.i) e.i r).tmps:=by
  intro t x hl;simp only[yH]at hl;rw[mM]at hl;cases hs:look (zG (Nat.testBit e.pr) r) t with
  | some z =>rw[hs]at hl;cases hl;obtain⟨g,hg1,hg2,hg3,hg4⟩:=Im hs;rw[hg4];exact hinv.slots g (hrL g hg1) (auw _ hg2) t hg3
  | none =>
   rw[hs,mM]at hl;simp only at hl;cases hh:look (CV (E:=E) (PY ops) ops.toList e.i ops.toList 0) t with
   | some z =>
    rw[hh]at hl;cases hl;obtain⟨hz,op,hop,aEe⟩:=JN hh;subst hz;obtain⟨_,_,_,hlt⟩:=axN hL hlen op hop;have hlt:=hlt t aEe;have hsz:t<a.tmps.size:=by rw[hinv.size];exact hlt
    exact⟨a.tmps[t],aes hsz,.any _⟩
   | none =>
    rw[hh]at hl;refine hinv.gl t x hl fun x' hx' hd'=>?_
    obtain⟨p1,p2,aFS,hx2⟩:=hL.GV hx';obtain⟨_,op,_,hop,_,_,_,_,_,_,hdd,_⟩:=hx2;have h1:=(zk hh x'.i op (by simpa using hop) (by rw[<- hdd];exact hd')).1;rw[aeC]at h1;unfold agU at h1;rw[hL.tab hlen x' hx']at h1;cases FX:D x'.i with
    | false=>rfl
    | true =>have:=hinv.closed x' hx' FX e.i h1;rw[hDe]at this;cases this
 refine adz (S:=yH n ops glob objs e.cls e.pr (next+e.i) e.i r) hinv.base.aT Mh (fun id ob hl=>hinv.ob id ob (Mf id ob hl)) hfresh hO hev hok fun val w' ι' ro' hp PW=>?_
 have vH:∀id ob,res.upd=some (id,ob)->∃o',look (ji D objs L) id=some o'/\o'.live=true:=by intro id ob hu;obtain⟨o',h1,h2⟩:=VJ hev hu;exact⟨o',Mf id o' h1,h2⟩
 have hilt:∀id gh k,ι id=some gh->gh.blk=some k->k<w.heap.size:=fun id gh k h1 h2=>(hinv.base.tO id gh k h1 h2).2
 have hext:=hp.ext hfresh;have arb:∀x∈L,x.i≠e.i->D' x.i=D x.i:=by
  intro x _ hne;cases hd:D x.i with
  | true=>exact(hD' x.i).2 (.inl hd)
  | false =>
   cases hd':D' x.i with
   | false=>rfl
   | true =>
    rcases(hD' x.i).1 hd' with h | h
    ·rw[hd]at h;cases h
    ·exact absurd h hne
 have hlive:∀id ob,look (ji D objs L) id=some ob->ob.live=true->id≠next+e.i:=by intro id ob hl hlv he;subst he;exact(hinv.ob _ ob hl).ghost hlv hfresh
 have azR:∀x∈L,x≠e->x.i≠e.i:=fun x hx hne hi=>hne (hL.uniq x hx e heL hi)
 have aoD:∀x∈pre,x.i≠e.i:=by intro x hx;have hp':=hL.pairwise;rw[hsplit,List.pairwise_append]at hp';exact hp'.2.2 x hx e abd
 have hrI:∀x∈r,x.i≠e.i:=by
  intro x hx;have hp':=hL.pairwise;rw[hsplit,List.pairwise_append]at hp';cases hp'.2.1 with
  | cons h1 _=>exact fun h=>h1 x hx h.symm
 have awf:∀id ob,look (ji D' objs L) id=some ob->look e.oM id=some ob\/(look e.oM id=none/\look (ji D objs L) id=some ob):=by
  intro id ob hl;rw[hsplit]at hl;rw[WM (D:=D) (D':=D') (e:=e) (r:=r) (pre:=pre) (fun x hx=>arb x (by rw[hsplit];exact List.mem_append_left _ hx) (aoD x hx)) (fun x hx=>arb x (hrL x hx) (hrI x hx)) hDe ((hD' e.i).2 (.inr rfl)) ?_ id]at hl
  ·rw[<- hsplit]at hl;cases hq:look e.oM id with
   | none=>rw[hq]at hl;exact .inr ⟨rfl,hl⟩
   | some q=>rw[hq]at hl;cases hl;exact .inl rfl
  ·
   intro x hx FX p hp q hq heq;have hxL:x∈L:=by rw[hsplit];exact List.mem_append_left _ hx
   obtain⟨p1,p2,hsp,hx'⟩:=hL.GV hxL;have hcl0:e.cls≠0:=by intro h0;rw[P6 aoC h0]at hq;cases hq
   have azS:e∈p2:=by
    have h1:e∈p1++x::p2:=by rw[<- hsp];exact heL
    have hxe:x.i > e.i:=by
     obtain⟨q1,q2,rfl⟩:=ana hx;have hxx:CW O ops n glob objs next x (q2++e::r):=by refine gy.at_ (pre:=q1) ?_;rw[hsplit]at hL;simpa using hL
     have:=hxx.1;simp only[List.length_append,List.length_cons]at this;omega
    rcases List.mem_append.1 h1 with h | h
    ·exfalso;obtain⟨q1,q2,rfl⟩:=ana h;have hee:CW O ops n glob objs next e (q2++x::p2):=by
      refine gy.at_ (pre:=q1) ?_;rw[hsp]at hL;simpa using hL
     have h2:=hee.1;have h3:=hx'.1;simp only[List.length_append,List.length_cons]at h2;omega
    ·cases h with
     | head=>exact absurd rfl (aoD _ hx)
     | tail _ h=>exact h
   have hgt:e.i<x.i:=by
    obtain⟨q1,q2,hq⟩:=ana azS;have h1:gy O ops n glob objs next p2:=by rw[hsp]at hL;exact hL.split.1
    rw[hq]at h1;have h2:=h1.at_.1;have h3:=hx'.1;rw[hq]at h3;simp only[List.length_append,List.length_cons]at h3;omega
   obtain⟨_,opx,_,_,_,auy,_,_,_,_,_,_,_,aFT⟩:=hx';have auy:=Mi auy e azS;obtain⟨_,_,_,hx''⟩:=hL.GV hxL;rcases axL hx'' with h | h | h
   ·rw[P6 hx'' h]at hp;cases hp
   ·rcases ag1 hx'' h with h1 | ⟨o1,h1⟩
    ·rw[h1]at hp;cases hp
    ·rw[h1]at hp;simp only[List.mem_singleton]at hp;have hxe2:=aoD x hx;have hpq:p.1=next+x.i:=by rw[hp]
     rw[heff]at hq;rcases ara hq with hq1 | ⟨o1,hq1⟩
     ·omega
     ·obtain⟨o2,hq2,_⟩:=VJ hev hq1;simp only[yH]at hq2;have:=aq9 (by rw[hsplit]at hL;exact hL.split.1) kP hq2;have:=aoC.1;omega
   ·have:=hinv.closed x hxL FX e.i (auy h hcl0);rw[hDe]at this;cases this
 have awg:∀id ob,look e.oM id=some ob->(res.new=some ob/\id=next+e.i)\/res.upd=some (id,ob):=by
  intro id ob hl;rw[heff]at hl;rcases Ik hl with h | ⟨h,_⟩ | ⟨h,_⟩
  ·exact .inl h
  ·exact .inr h
  ·cases h
 have awh:∀id,look e.oM id=none->(∀ob,res.upd≠some (id,ob))/\(id=next+e.i->res.new=none):=by
  intro id hl;rw[heff]at hl;unfold JL MP at hl;refine⟨fun ob hu=>?_,fun hid=>?_⟩
  ·rw[hu]at hl;cases hn:res.new<;>rw[hn]at hl<;>simp[aX]at hl<;>(split at hl<;>cases hl)
  ·cases hn:res.new with
   | none=>rfl
   | some q=>rw[hn,hid]at hl;simp[aX]at hl
 refine hK _ w' ι' ro' {
  base:=hinv.base.step hp hfresh o.dst
  size:=PV.trans hinv.size
  slots:=fun x hx FX t ht=>?_
  gl:=fun t x hl hno=>?_
  ob:=fun id ob hl=>?_
  inj:=?_
  fresh:=fun id hid hgh=>?_
  closed:=fun x hx FX j hj=>?_ }
 ·
  by_cases hxe:x=e
  ·subst hxe;rw[hdst]at ht;rw[ht]at hdn;obtain⟨hlt,hgs,hnew⟩:=P5 hdn;have hsz:t<a.tmps.size:=by rw[hinv.size];exact hlt
   refine⟨val,by rw[ht];simp[Act.put,hsz],?_⟩;rw[hex];refine PW _ fun gs want u hc=>?_
   rw[ht];exact DX (fun h=>by cases h;exact hgs _ _ _ hc rfl)
  ·have aoE:D x.i=true:=by
    rcases(hD' x.i).1 FX with h | h
    ·exact h
    ·exact absurd h (azR x hx hxe)
   obtain⟨v,hv,hs⟩:=hinv.slots x hx aoE t ht;have auz:o.dst≠some t:=fun h=>hxe (hL.agX x hx e heL t ht (by rw[hdst];exact h))
   refine⟨v,(DX auz).trans hv,(hs.mono hp.mono hp.cell hext).tm fun gs want u hc=>?_⟩;obtain⟨p1,p2,hsp,hx'⟩:=hL.GV hx;obtain⟨g,hg,hgb,hgd⟩:=aoB hx' hc;refine DX fun h=>?_
   have hgL:g∈L:=by rw[hsp];exact anj _ (abb _ hg)
   have hge:=hL.agX g hgL e heL gs hgd (by rw[hdst];exact h);subst hge;have:=hinv.closed x hx aoE g.i hgb;rw[hDe]at this;cases this
 ·
  obtain⟨v,hv,hs⟩:=hinv.gl t x hl fun x' hx' hd'=>by
   cases FX:D x'.i with
   | false=>rfl
   | true =>have h1:=hno x' hx' hd';rw[(hD' x'.i).2 (.inl FX)]at h1;cases h1
  have auz:o.dst≠some t:=fun hd=>by have h1:=hno e heL (by rw[hdst];exact hd);rw[(hD' e.i).2 (.inr rfl)]at h1;cases h1
  refine⟨v,(DX auz).trans hv,(hs.mono hp.mono hp.cell hext).tm fun gs want u hc=>?_⟩;have:=hnc _ (jQ _ _ _ hl);rw[hc]at this;cases this
 ·
  rcases awf id ob hl with h | ⟨h,h'⟩
  ·rcases awg id ob h with⟨h1,h2⟩ | h
   ·subst h2;exact hp.new ob h1
   ·exact hp.upd id ob h
  ·cases hlv:ob.live with
   | false=>exact .axM hlv
   | true=>exact j5.step hp hfresh hinv.inj vH hilt h' (hlive id ob h' hlv) (awh id h).1 (hinv.ob id ob h')
 ·refine agS hp hinv.inj vH hilt hlive _ fun id ob hl=>?_
  rcases awf id ob hl with h | ⟨h,h'⟩
  ·rcases awg id ob h with h | h
   ·exact .inl h
   ·exact .inr (.inl h)
  ·exact .inr (.inr ⟨h',(awh id h).1⟩)
 ·by_cases hne:id=next+e.i
  ·exact⟨e,heL,(hD' e.i).2 (.inr rfl),hne⟩
  ·rw[hp.kX id hne]at hgh;obtain⟨x,hx,FX,h⟩:=hinv.fresh id hid hgh;exact⟨x,hx,(hD' x.i).2 (.inl FX),h⟩
 ·by_cases hxe:x=e
  ·subst hxe;exact(hD' j).2 (.inl (auw j hj))
  ·have aoE:D x.i=true:=by
    rcases(hD' x.i).1 FX with h | h
    ·exact h
    ·exact absurd h (azR x hx hxe)
   exact(hD' j).2 (.inl (hinv.closed x hx aoE j hj))
theorem S9(listed:Array Bool)(i:Nat):i∈Region.ready .any ops listed↔i<ops.size/\listed.getD i true=false/\∃o,ops[i]? = some o/\∀ed∈o.after.toList,Region.binds .any ed=true->listed.getD ed.on false=true:=by
 unfold Region.ready;simp only[List.mem_filter,List.mem_range,abj,ajC];constructor
 ·rintro⟨h1,h2,h3⟩;refine⟨h1,h2,?_⟩;rw[aes h1]at h3 ⊢;refine⟨_,rfl,fun ed hed hb=>?_⟩;simp only[aji,am4,Array.all_eq_true_iff_forall_mem]at h3;grind
 grind
theorem auA(listed:Array Bool){i j:Nat}(hi:i<listed.size):(listed.setIfInBounds i true).getD j false=true↔(listed.getD j false=true\/j=i):=by simp only[aja,Array.getElem?_setIfInBounds];grind
theorem aoF{R:Type}(hO:aK E O){a:Act}{w:World}{ι:Nat->Option Gh}{ro:Nat->Nat->Prop}(hnc:aR glob)(hg:bO E w0 aP ⟨n,glob,objs,next⟩ a w ι ro){k:au E->Option R}{rr:R}{Q:Exit->Act->World->Prop}
  (hk:∀S' a' w' ι' ro',aR S'.tmps->bO E w0 aP S' a' w' ι' ro'->S'.n=n->k S'=some rr->Q .normal a' w') (h:Km O ops n glob objs next ops.toList [] 0 k=some rr):wpAny P .any ops Q ops.size (Array.replicate ops.size false) a { w with drawn:=w.drawn+1 }:=by
 obtain⟨L,hL,hlen,hkL⟩:=WK (ops:=ops) ops.toList [] [] 0 (by simp) rfl rfl trivial h;have kP:∀id o,look objs id=some o->id<next:=hg.ids;have done:∀(listed:Array Bool) (a:Act) (w:World) (ι:Nat->Option Gh) (ro:Nat->Nat->Prop),listed.size=ops.size->Inv E w0 aP ops n next glob objs L (fun j=>listed.getD j false) a w ι ro->Region.ready .any ops listed=[]->Q .normal a w:=by
  intro listed a w ι ro hsz hinv ag5;have hall:∀j,j<ops.size->listed.getD j false=true:=by
   intro j
   induction j using Nat.strongRecOn with
   | ind j ih =>
    intro hj;cases hd:listed.getD j false with
    | true=>rfl
    | false =>
     exfalso;obtain⟨e,he,ZP⟩:=hL.has j (by omega);obtain⟨pre,r,hsp,hent⟩:=hL.GV he;obtain⟨hi,o,res,ho,hpr,_⟩:=hent;rw[ZP]at ho;have hmem:j∈Region.ready .any ops listed:=(S9 listed j).2 ⟨hj,by
      simp only[aja]at hd ⊢;rw[aes (by omega)]at hd ⊢;simpa using hd,o,ho,fun ed hed hb=>by
       have hlt:ed.on<j:=by
        obtain⟨x,hx,hxi⟩:=((MR hpr).2 ed hed hb).2;obtain⟨q1,q2,rfl⟩:=ana hx;have hx':CW O ops n glob objs next x q2:=by refine gy.at_ (pre:=pre++e::q1) ?_;rw[hsp]at hL;simpa using hL
        have h1:=hx'.1;simp only[List.length_append,List.length_cons]at hi;omega
       exact ih ed.on hlt (by omega)⟩
     rw[ag5]at hmem;cases hmem
  have awi:∀e∈L,(fun j=>listed.getD j false) e.i=Kl e.i:=fun e he=>hall e.i (by have:=hL.lt e he;omega)
  have afR:ji (fun j=>listed.getD j false) objs L=ji Kl objs L:=JO (fun e he _=>awi e he);have azT:=hinv.ob;have hinj:=hinv.inj;rw[afR]at azT hinj;refine hk ⟨n,rE (zG Kl L)++glob,ji Kl objs L,next+ops.size⟩ a w ι ro (fun p hp=>?_) ⟨hinv.base,hinv.size,xg.clean (loc:=zG Kl L) (glob:=glob) fun t x hl=>?_,azT,hinj,fun id hid=>?_,fun id o hl=>?_⟩ rfl hkL
  ·rcases List.mem_append.1 hp with hp | hp
   ·exact CU _ p hp
   ·exact hnc p hp
  ·rw[mM]at hl;cases hs:look (zG Kl L) t with
   | some z =>rw[hs]at hl;cases hl;obtain⟨g,hg1,_,hg3,hg4⟩:=Im hs;rw[hg4];exact hinv.slots g hg1 (awi g hg1) t hg3
   | none =>rw[hs]at hl;exact hinv.gl t x hl fun e he hd=>absurd hd (Gc hs e he rfl)
  ·cases hgh:ι id with
   | none=>rfl
   | some gh =>exfalso;have aFU:next+ops.size<=id:=hid;obtain⟨e,he,_,h⟩:=hinv.fresh id (by omega) (by rw[hgh];simp);have:=hL.lt e he;omega
  ·have:=Ko hL kP Kl id o hl;show id<next+ops.size;omega
 have key:∀(fuel:Nat) (listed:Array Bool) (a:Act) (w:World) (ι:Nat->Option Gh) (ro:Nat->Nat->Prop),listed.size=ops.size->(listed.toList.count false<=fuel)->Inv E w0 aP ops n next glob objs L (fun j=>listed.getD j false) a w ι ro->wpAny P .any ops Q fuel listed a w:=by
  intro fuel
  induction fuel with
  | zero =>
   intro listed a w ι ro hsz hcount hinv;have hr:Region.ready .any ops listed=[]:=by
    rw[List.eq_nil_iff_forall_not_mem];intro i hi;obtain⟨h1,h2,_⟩:=(S9 listed i).1 hi;have hmem:false∈listed.toList:=by simp only[aja]at h2;rw[aes (by omega)]at h2;simp at h2;rw[<- h2];exact Array.mem_toList_iff.2 (Array.getElem_mem _)
    have:=List.count_pos_iff.2 hmem;omega
   exact⟨hr,done listed a w ι ro hsz hinv hr⟩
  | succ fuel ih =>
   intro listed a w ι ro hsz hcount hinv;refine⟨fun hr=>done listed a w ι ro hsz hinv hr,fun i hi=>?_⟩;obtain⟨h1,h2,o,ho,h3⟩:=(S9 listed i).1 hi;obtain⟨e,he,ZP⟩:=hL.has i (by omega);subst ZP;have hDe:listed.getD e.i false=false:=by simp only[aja]at h2 ⊢;rw[aes (by omega)]at h2 ⊢;simpa using h2
   have hst:=auv (K:=fun a' w'=>wpAny P .any ops Q fuel (listed.setIfInBounds e.i true) a' w') (Q:=Q) hO hL hlen hnc kP hinv he hDe ho h3 (D':=fun j=>(listed.setIfInBounds e.i true).getD j false) (fun j=>auA listed (by omega))
    (fun a' w' ι' ro' aB4=>ih _ a' w' ι' ro' (by simp[hsz]) ?_ aB4)
   ·unfold wpOp;rw[ho];show if Region.wanted o (yielded ops a.tmps)=true then _ else _
    split
    ·rename_i hw;rw[if_pos hw]at hst;exact .inl hst
    ·rename_i hw;rw[if_neg hw]at hst;exact hst
   ·have hlt:e.i<listed.toList.length:=by rw[ahg,hsz];exact h1
    have hget:listed.toList[e.i]=false:=by simp only[aja]at hDe;rw[aes (by omega)]at hDe;simpa using hDe
    grind
 refine key ops.size _ a _ ι ro (by simp) ?_ ?_
 ·simp
 ·have hfalse:∀j,(Array.replicate ops.size false).getD j false=false:=by
   intro j;simp only[aja,Array.getElem?_replicate];split<;>rfl
  have afR:ji (fun j=>(Array.replicate ops.size false).getD j false) objs L=objs:=by have:ji (fun j=>(Array.replicate ops.size false).getD j false) objs (L++[])=ji (fun j=>(Array.replicate ops.size false).getD j false) objs []:=ag3 (fun e _ hD=>by simp only[hfalse]at hD;cases hD);rw[aeb]at this;exact this
  have drew:∀(v:Value) (x:AV E),BF E w ro ι a.tmps v x->BF E { w with drawn:=w.drawn+1 } ro ι a.tmps v x:=fun v x h=>BF.mono (w:=w) (ι:=ι) (ro:=ro) (fun _ _ h=>h) (fun _ _ _=>rfl) (fun _ _ h=>h) h
  refine {
   base:=⟨⟨hg.base.below.os,hg.base.below.tape,hg.base.below.output,hg.base.below.size,hg.base.below.block⟩,hg.base.aT,hg.base.qN,hg.base.tO,hg.base.defers,hg.base.keep,hg.base.held⟩
   size:=hg.size
   slots:=fun e _ hD=>by simp only[hfalse]at hD;cases hD
   gl:=fun t x hl _=>by obtain⟨v,hv,hs⟩:=hg.tmps t x hl;exact⟨v,hv,drew v x hs⟩
   ob:=fun id o hl=>?_
   inj:=by rw[afR];exact hg.inj
   fresh:=fun id hid hgh=>absurd (hg.fresh id hid) hgh
   closed:=fun e _ hD=>by simp only[hfalse]at hD;cases hD }
  rw[afR]at hl;have:=hg.objs id o hl;cases o with
  | dead=>trivial
  | box cs =>obtain⟨gh,g,vs,ty,h1,h2,hb,h3,h4,h5,h6⟩:=this;exact⟨gh,g,vs,ty,h1,h2,hb,h3,h4,fun j v c hv hc=>⟨(h5 j v c hv hc).1,aO.mono (w:=w) (ι:=ι) (ro:=ro) (fun _ _ h=>h) (fun _ _ _=>rfl) (fun _ _ h=>h) (h5 j v c hv hc).2⟩,h6⟩
  | tail l=>exact this
  | Ih=>exact this
  | arr t l fz =>obtain⟨h0,gh,g,vs,ty,h1,h2,hb,h3,h4,h5,h6⟩:=this;exact⟨h0,gh,g,vs,ty,h1,h2,hb,h3,h4,fun j v c hv hc=>⟨(h5 j v c hv hc).1,aO.mono (w:=w) (ι:=ι) (ro:=ro) (fun _ _ h=>h) (fun _ _ _=>rfl) (fun _ _ h=>h) (h5 j v c hv hc).2⟩,h6⟩
  | lp st pend n tm ps assign body =>
   obtain⟨gh,g,rec,h1,h2,h3,h4,h5⟩:=this;exact⟨gh,g,rec,h1,h2,h3,h4,fun t x hl=>by obtain⟨v,q1,q2⟩:=h5 t x hl;exact⟨v,q1,aO.mono (w:=w) (ι:=ι) (ro:=ro) (fun _ _ h=>h) (fun _ _ _=>rfl) (fun _ _ h=>h) q2⟩⟩
  | mp K V l =>
   obtain⟨gh,g,es,h1,h2,h3,h4,h5,h6⟩:=this;exact⟨gh,g,es,h1,h2,h3,h4,h5,fun j e x he hx=>by obtain⟨k1,k2,k3,k4⟩:=h6 j e x he hx;exact⟨k1,k2,k3,fun i v c hv hc=>⟨(k4 i v c hv hc).1,aO.mono (w:=w) (ι:=ι) (ro:=ro) (fun _ _ h=>h) (fun _ _ _=>rfl) (fun _ _ h=>h) (k4 i v c hv hc).2⟩⟩⟩
  | row t l =>obtain⟨gh,xs,h1,h2,h3,h4,h5,h6,h7⟩:=this;exact⟨gh,xs,h1,h2,h3,h4,sJ.frame (w:=w) h5 fun _ _=>rfl,mH.mono (w:=w) (w':={ w with drawn:=w.drawn+1 }) (ro:=ro) (fun _ _ h=>h) (fun _ _ _=>rfl) h6,h7⟩
theorem ag6{R:Type}(hO:aK E O)(dM:P.follows .mixedOrders=true){a:Act}{w:World}{ι:Nat->Option Gh}{ro:Nat->Nat->Prop}(hnc:aR glob)(hg:bO E w0 aP ⟨n,glob,objs,next⟩ a w ι ro){k:au E->Option R}{rr:R}{Q:Exit->Act->World->Prop}
  (hk:∀S' a' w' ι' ro',aR S'.tmps->bO E w0 aP S' a' w' ι' ro'->S'.n=n->k S'=some rr->Q .normal a' w') (h:Km O ops n glob objs next ops.toList [] 0 k=some rr) {id:Nat}:(Code.region id ops true).wp P Q a w :=
 wp_region_any dM (aoF hO hnc hg hk h)
end
def ag7{P:Program}{E:Env P}{R:Type}(_:aI E)(_:Array Oper)(_:au E)(_:au E->Option R):Option R:=none
section
variable {P:Program} {Q:Exit->Act->World->Prop}
end
section
variable {P:Program} {E:Env P} {O:aI E} {ops:Array Oper} {w0:Start} {aP:Nat->Nat->Prop}
theorem ag8{R:Type}(_:aK E O)(_:P.follows .mixedOrders=true){S:au E}{a:Act}{w:World}{ι:Nat->Option Gh}{ro:Nat->Nat->Prop}(_:aR S.tmps)(_:bO E w0 aP S a w ι ro){k:au E->Option R}{rr:R}{Q:Exit->Act->World->Prop}
  (_:∀S' a' w' ι' ro',aR S'.tmps->bO E w0 aP S' a' w' ι' ro'->S'.n=S.n->k S'=some rr->Q .normal a' w') (h:ag7 O ops S k=some rr) {id:Nat}:(Code.region id ops true).wp P Q a w:=by
 unfold ag7 at h;cases h
end
end
end Go.Proofs.YtclnniijooeajaaGreatDoor.bg
