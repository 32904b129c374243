/- Part 2 of a proof: the texts MirI MirJ MirK MirL MirM MirN, one behind the other. -/
import Derived.Test.YtclnniijooeajaaGreatDoorTw1
import Derived.Lib.UnsafeStr
import Derived.MapKept
noncomputable section
namespace Go.Proofs.YtclnniijooeajaaGreatDoor.bA
open Go Go.RowKit
section
section
variable {P:Program} {E:Env P}
def gq(E:Env P)(w:World)(ro:Nat->Nat->Prop):List Value->List (TV E)->Prop
 | [],[]=>True
 | v::vs,⟨t,x⟩::r=>uU E w ro v t x/\gq E w ro vs r
 | _,_=>False
def qj(E:Env P)(w:World)(ro:Nat->Nat->Prop)(v:Value):List (TV E)->Prop
 | [⟨t,x⟩]=>uU E w ro v t x
 | rs=>∃vs:List Value,v = .tuple vs.toArray/\gq E w ro vs rs
def EK(E:Env P)(f:FuncId)(args res:List (TV E)):Prop :=
 ∀(w:World) (ro:Nat->Nat->Prop) (vals:List Value),gq E w ro vals args->(∀k o,ro k o->k<w.heap.size) ->
  Calls P f vals.toArray w fun e w'=>∃v,e = .returned v/\Below w.heap.size w w'/\qj E w' (fun k o=>ro k o\/(w.heap.size<=k/\k<w'.heap.size)) v res
def bE(E:Env P)(f:FuncId)(F:List (TV E)->Option (Bool×List (TV E))):Prop :=
 (∃fn,P.funcs[f]? = some fn/\(fn.name == "runtime.NumGoroutine")=false/\fn.body.isNone=false)/\∀args res,F args=some (true,res)->EK E f args res
def aai(E:Env P)(f:FuncId)(args:List (TV E))(t:E.Ty)(l:List (E.Den t)):Prop :=
 ∀(w:World) (ro:Nat->Nat->Prop) (vals:List Value),gq E w ro vals args->(∀k o,ro k o->k<w.heap.size) ->
  Calls P f vals.toArray w fun e w'=>∃(gh:Gh) (xs:List Value),e = .returned gh.v/\Below w.heap.size w w'/\gh.n=l.length/\gh.e=E.tid t/\gh.sz=E.size t/\tL w' gh xs/\mX E w' ro t xs l/\∀g,gh.blk=some g->w.heap.size<=g
def ahh(E:Env P)(f:FuncId)(t:E.Ty)(l:List (E.Den t))(rest:List (TV E))(back:Bool)(l':List (E.Den t)):Prop :=
 ∀(w:World) (ro:Nat->Nat->Prop) (gh:Gh) (xs:List Value) (vals:List Value),gh.n=l.length->gh.e=E.tid t->gh.sz=E.size t->tL w gh xs->mX E w ro t xs l->(∀g,gh.blk=some g->∀o,¬ ro g o)->gq E w ro vals rest->(∀k o,ro k o->k<w.heap.size) ->
  Calls P f (gh.v::vals).toArray w fun e w'=>∃(val:Value) (bD:Gh) (xs':List Value),e = .returned val/\w.grownBy w' gh.blk/\bD.n=l'.length/\bD.e=E.tid t/\bD.sz=E.size t/\tL w' bD xs'/\mX E w' (fun k o=>ro k o\/(bD.blk≠some k/\(gh.blk=some k\/w.heap.size<=k/\k<w'.heap.size))) t xs' l' /\
   (∀g,bD.blk=some g->gh.blk=some g\/w.heap.size<=g)/\(back=true->val=bD.v)/\(back=false->bD=gh)
def ad3(E:Env P)(f:FuncId)(t:E.Ty):Prop :=
 ∀(w:World) (n:Int),0<=n->n*(E.bytes t:Int)<=140737488355328 ->
  Calls P f #[.slice none 0 0,.int .i64 n] w fun e w'=>∃(gh:Gh),e = .returned gh.v/\Below w.heap.size w w'/\gh.n=0/\gh.e=E.tid t/\gh.sz=E.size t/\tL w' gh []/\∀g,gh.blk=some g->w.heap.size<=g
def YH(E:Env P)(f:FuncId)(t:E.Ty)(x:E.Den t)(rest:List (TV E))(y:E.Den t)(res:List (TV E)):Prop :=
 ∀(w:World) (ro:Nat->Nat->Prop) (g:Nat) (e:TypeId) (vs:Array Value) (vals:List Value),w.heap[g]? = some (.cells vs e (0,0))->oJ E w ro vs (E.cells t x)->(∀o,¬ ro g o)->gq E w ro vals rest->(∀k o,ro k o->k<w.heap.size) ->
  Calls P f (.pointer (some ⟨g,0,none⟩)::vals).toArray w fun ed w'=>∃(v:Value) (vs':Array Value),ed = .returned v/\w.grownBy w' (some g)/\w'.heap[g]? = some (.cells vs' e (0,0)) /\
   oJ E w' (fun k o=>ro k o\/(w.heap.size<=k/\k<w'.heap.size)) vs' (E.cells t y)/\qj E w' (fun k o=>ro k o\/(w.heap.size<=k/\k<w'.heap.size)) v res
def aoJ(E:Env P)(w:World)(ro:Nat->Nat->Prop)(v:Value):Arg E->Prop
 | .v x=>uU E w ro v x.1 x.2
 | .c f p q=>∃vs us:Array Value,v = .func (.func f) vs us/\gq E w ro vs.toList p/\gq E w ro us.toList q
def aaj(E:Env P)(f:FuncId)(args:List (Arg E))(res:List (TV E)):Prop :=
 ∀(w:World) (ro:Nat->Nat->Prop) (vals:List Value),vals.length=args.length->(∀(i:Nat) v y,vals[i]? = some v->args[i]? = some y->aoJ E w ro v y)->(∀k o,ro k o->k<w.heap.size) ->
  Calls P f vals.toArray w fun e w'=>∃v,e = .returned v/\Below w.heap.size w w'/\qj E w' (fun k o=>ro k o\/(w.heap.size<=k/\k<w'.heap.size)) v res
def awH(E:Env P)(I:Inl E):Prop:=∀{R:Type} (f:FuncId) (args:List (AV E)) (objs:List (Nat×aS E)) (next:Nat) (k:AV E->List (Nat×aS E)->Nat->Option R) (rr:R),I.run f args objs next k=some rr ->
 (∃fn,P.funcs[f]? = some fn/\(fn.name == "runtime.NumGoroutine")=false/\fn.body.isNone=false) /\
 ∀(w0:Start) (aQ:Nat->Nat->Prop) (a:Act) (w:World) (ι:Nat->Option Gh) (ro:Nat->Nat->Prop) (vals:List Value),Base w0 aQ a w ι ro->(∀(id:Nat) o,look objs id=some o->kr E w ro ι id o)->Inj E objs ι->(∀id,next<=id->ι id=none) ->
  (∀id o,look objs id=some o->id<next)->vals.length=args.length->(∀(i:Nat) v x,vals[i]? = some v->args[i]? = some x->aP E w ro ι v x) ->
  Calls P f vals.toArray w fun e w'=>∃(v:Value) (x:AV E) (mY:List (Nat×aS E)) (next':Nat) (ι':Nat->Option Gh) (ro':Nat->Nat->Prop),e = .returned v/\k x mY next'=some rr/\aP E w' ro' ι' v x/\Base w0 aQ a w' ι' ro' /\
   (∀(id:Nat) o,look mY id=some o->kr E w' ro' ι' id o)/\Inj E mY ι'/\(∀id,next'<=id->ι' id=none)/\(∀id o,look mY id=some o->id<next') /\
   (∀k o,ro k o->ro' k o/\w'.cell? ⟨k,o,none⟩=w.cell? ⟨k,o,none⟩)/\∀id gh,ι id=some gh->ι' id=some gh
def aAn(P:Program)(f:FuncId)(T:TypeId):Prop :=
 (∀(w:World) (b:Nat),w.cell? ⟨b,0,none⟩=some (.pointer none)->w.shape? b=some (T,2)->w.frozen? ⟨b,0,none⟩=false->Calls P f #[.pointer (some ⟨b,0,none⟩)] w fun e w'=>e = .returned (.tuple #[])/\w'=w.setCell ⟨b,0,none⟩ (.pointer (some ⟨b,0,none⟩))) /\
 ∀(w:World) (b:Nat),w.cell? ⟨b,0,none⟩=some (.pointer (some ⟨b,0,none⟩))->Calls P f #[.pointer (some ⟨b,0,none⟩)] w fun e w'=>e = .returned (.tuple #[])/\w'=w
def ayd(E:Env P)(f:FuncId)(args:List (AV E))(x:AV E):Prop :=
 ∀(w:World) (ro:Nat->Nat->Prop) (vals:List Value),vals.length=args.length->(∀(i:Nat) v y,vals[i]? = some v->args[i]? = some y->aP E w ro (fun _=>none) v y)->(∀k o,ro k o->k<w.heap.size) ->
  Calls P f vals.toArray w fun e w'=>∃v,e = .returned v/\Below w.heap.size w w'/\aP E w' (fun k o=>ro k o\/(w.heap.size<=k/\k<w'.heap.size)) (fun _=>none) v x
def aL(E:Env P)(O:aI E):Prop :=
 (∀f args res,O.call f args=some (true,res)->(∃fn,P.funcs[f]? = some fn/\(fn.name == "runtime.NumGoroutine")=false/\fn.body.isNone=false)/\EK E f args res) /\
 (∀f args t l,O.fresh f args=some (true,⟨t,l⟩)->(∃fn,P.funcs[f]? = some fn/\(fn.name == "runtime.NumGoroutine")=false/\fn.body.isNone=false)/\aai E f args t l) /\
 (∀f t l rest back l',O.aov f t l rest=some (true,back,l')->(∃fn,P.funcs[f]? = some fn/\(fn.name == "runtime.NumGoroutine")=false/\fn.body.isNone=false)/\ahh E f t l rest back l') /\
 (∀f t,O.grow f=some t->(∃fn,P.funcs[f]? = some fn/\(fn.name == "runtime.NumGoroutine")=false/\fn.body.isNone=false)/\ad3 E f t)/\awH E O.inl /\
 (∀f T,O.cc=some (f,T)->(∃fn,P.funcs[f]? = some fn/\(fn.name == "runtime.NumGoroutine")=false/\fn.body.isNone=false)/\aAn P f T) /\
 (∀f args x,O.cl f args=some x->(∃fn,P.funcs[f]? = some fn/\(fn.name == "runtime.NumGoroutine")=false/\fn.body.isNone=false)/\ayd E f args x) /\
 (∀f t x args y res,O.aut f t x args=some (true,y,res)->(∃fn,P.funcs[f]? = some fn/\(fn.name == "runtime.NumGoroutine")=false/\fn.body.isNone=false)/\YH E f t x args y res) /\
 ∀f p xs res,p∈O.cla f->p.2 xs=some (true,res)->(∃fn,P.funcs[f]? = some fn/\(fn.name == "runtime.NumGoroutine")=false/\fn.body.isNone=false)/\aaj E f xs res
end
section
variable {P:Program} {E:Env P} {w:World} {ro:Nat->Nat->Prop} {ι:Nat->Option Gh} {S:av E} {asm:List (Nat×Bool)} {a:Act}
theorem ahi{t t':E.Ty}{l:List (E.Den t)}{l':List (E.Den t')}(h:Iu t t' l=some l'):∃e:t=t',l'=e▸l:=by
 unfold Iu at h;cases hd:E.dec t t' with
 | isFalse hn=>rw[hd]at h;cases h
 | isTrue he=>rw[hd]at h;cases h;exact⟨he,rfl⟩
theorem M6(c:Ctx E S asm a w ι ro){o:Oper}{T T':TypeId}{s x:Operand}(ho:o.op = .call { callee:=.builtin .append,args:=#[s,x],argTypes:=#[T,T'] }){r:gF E}{Y:AV E}
  (hsrc:∀t l2,P.underlying T=some (.slice (E.tid t))->Jj (E.tid t) Y=some ⟨t,l2⟩->∃news,Src P (E.size t) T' (a.eval x) l2.length news w/\mX E w ro t news l2)
  (h:Eh S.objs S.next T (bG S.tmps asm s) Y=some r) (hok:r.ok=true):bK E o a w ι ro S.next r:=by
 have hs:=c.get s;generalize hvs:a.eval s=vs at hs;generalize gZ:a.eval x=vx at hsrc;generalize bG S.tmps asm s=X at *;have fin:∀{v':Value} {w':World},(Builtin.append_ #[T,T'] o.type #[vs,vx]).run P w = .ok v' w'->(execOp a.eval o).run P w = .ok (.value v') w':=by intro v' w' hr;simp only[execOp,ho,resolve,invoke,builtin,Sem.run_bind,Sem.run_pure,Result.andThen_ok,am1,ae6,aha,hvs,gZ,hr]
 unfold Eh at h;split at h
 ·rename_i e he;have hu:=qh he;split at h
  ·rename_i t l2 hsl;split at h
   ·rename_i ht;have ht:=aax ht;subst ht;obtain⟨news,hs2,hnd⟩:=hsrc t l2 hu hsl;split at h
    ·
     cases h;have e1:=hs.j6;subst e1;have hok':l2.length*E.bytes t<=aB:=of_decide_eq_true hok;obtain⟨v',w',ι',ro',hrun,hp⟩:=Xx c t T T' o.type hu (.slice none 0 0) [] l2 [] vx news none none (.inl ⟨World.ownsRow_nil w 0 (E.tid t) (E.size t),rfl⟩) (fun i x j c h=>by simp at h) (fun g hg=>by cases hg) hs2 hnd (by rw[List.length_nil,aeY];exact hok') (.inl ⟨rfl,rfl⟩);simp only[hok',decide_true];exact .inl ⟨v',w',ι',ro',fin hrun,hp⟩
    ·
     rename_i t' l1 id;cases hc:Iu t t' l2 with
     | none=>rw[hc]at h;cases h
     | some Xw =>
      cases bX:look S.objs id with
      | none=>rw[hc,bX]at h;cases h
      | some ob =>
       rw[hc,bX]at h;cases ob with
       | dead=>cases h
       | box cs=>cases h
       | row _ _=>cases h
       | mp _ _ _=>cases h
       | lp _ _ _ _ _ _ _=>cases h
       | Ji=>cases h
       | arr _ _ _=>cases h
       | tail live =>
        cases live with
        | false=>cases h
        | true =>
         cases h;obtain⟨ee,hl⟩:=ahi hc;subst ee;obtain rfl:l2=Xw:=hl.symm;have hok':(l1.length+l2.length)*E.bytes t<=aB:=of_decide_eq_true hok;cases hs with
         | grow gh _ _ _ hi hn hge hgs hd1 =>obtain⟨bD,xs,hi',hown,iy⟩:=c.objs id _ bX rfl;rw[hi]at hi';cases hi';unfold tL at hown;rw[hn,hge,hgs]at hown;rw[hn,hgs]at iy;obtain⟨v',w',ι',ro',hrun,hp⟩:=Xx c t T T' o.type hu gh.v l1 l2 xs vx news (some (id,.dead)) gh.blk hown (afu hown hd1) (fun g hg=>iy g hg) hs2 hnd hok' (.inr ⟨id,gh,rfl,hi,rfl⟩);simp only[hok',decide_true];exact .inl ⟨v',w',ι',ro',fin hrun,hp⟩
    ·
     rename_i t0 n0 id;split at h
     ·rename_i t' l1 bX;cases hc:Iu t t' l2 with
      | none=>rw[hc]at h;cases h
      | some Xw =>
       rw[hc]at h;cases h;obtain⟨ee,hl⟩:=ahi hc;subst ee;obtain rfl:l2=Xw:=hl.symm;have hok':(l1.length+l2.length)*E.bytes t<=aB:=of_decide_eq_true hok;cases hs with
       | row gh _ _ ad cap hi aG3 hgs0 hgv had =>obtain⟨bD,xs,hi',hn,hge,hgs,hown,hrow,iy⟩:=c.objs id _ bX;rw[hi]at hi';cases hi';unfold tL at hown;rw[hn,hge,hgs]at hown;obtain⟨v',w',ι',hrun,hp⟩:=aah c t T T' o.type hu gh.v l1 l2 xs vx news (some (id,.dead)) gh.blk hown hrow (fun g hg o=>iy g hg o) hs2 hnd hok' (.inr ⟨id,gh,rfl,hi,rfl⟩);simp only[hok',decide_true];exact .inl ⟨v',w',ι',ro,fin hrun,hp⟩
     ·cases h
    ·cases h
   ·cases h
  ·cases h
 ·cases h
theorem akQ(c:Ctx E S asm a w ι ro){o:Oper}{T:TypeId}{s x:Operand}(ho:o.op = .call { callee:=.builtin .append,args:=#[s,x],argTypes:=#[T,T] }){r:gF E}
  (h:Eh S.objs S.next T (bG S.tmps asm s) (bG S.tmps asm x)=some r) (hok:r.ok=true):bK E o a w ι ro S.next r :=
 M6 c ho (fun _ _ hT hsl=>(FR (c.get x) hsl).src hT) h hok
theorem ahj(c:Ctx E S asm a w ι ro){o:Oper}{T T':TypeId}{s x:Operand}(ho:o.op = .call { callee:=.builtin .append,args:=#[s,x],argTypes:=#[T,T'] }){r:gF E}
  (h:MX S.objs S.next T T' (bG S.tmps asm s) (bG S.tmps asm x)=some r) (hok:r.ok=true):bK E o a w ι ro S.next r:=by
 have hx:=c.get x;unfold MX at h;split at h
 ·rename_i e hT' he;split at h
  ·rename_i l hY;split at h
   ·rename_i t ht;split at h
    ·rename_i g hg;rw[hY]at hx;refine M6 c ho (fun t' l2 hT hsl=>?_) h hok;cases hsl;have hv:a.eval x = .string ⟨l.toArray⟩:=by
      generalize a.eval x=vx at hx;cases hx with
      | d _ _ hd=>cases hd;rfl
     rw[hv];exact ayc g (E.Ql _ g hg) (Bq hT') l
    ·cases h
   ·cases h
  ·cases h
 ·cases h
theorem vZ:∀(Ts:List TypeId) (vs:List Value) (as:List (AV E)) (xs:List (TV E)),vs.length=as.length->(∀(i:Nat) v x,vs[i]? = some v->as[i]? = some x->aP E w ro ι v x)->foldArgs Ts as=some xs->gq E w ro vs xs
 | [],[],[],xs,_,_,h=>by cases h;trivial
 | T::Ts,v::vs,x::as,xs,hl,hr,h=>by
  unfold foldArgs at h;split at h
  ·rename_i t ht;split at h
   ·rename_i y hy;split at h
    ·rename_i r hr';cases h;exact⟨Ag (hr 0 v x rfl rfl) hy,vZ Ts vs as r (by simpa using hl) (fun i v x hv hx=>hr (i+1) v x (by simpa using hv) (by simpa using hx)) hr'⟩
    ·cases h
   ·cases h
  ·cases h
 | [],v::vs,x::as,xs,_,_,h=>by cases h
 | T::Ts,[],[],xs,_,_,h=>by cases h
 | [],[],_::_,_,hl,_,_=>by simp at hl
 | [],_::_,[],_,hl,_,_=>by simp at hl
 | _::_,[],_::_,_,hl,_,_=>by simp at hl
 | _::_,_::_,[],_,hl,_,_=>by simp at hl
theorem gq.at_:∀(vs:List Value) (rs:List (TV E)),gq E w ro vs rs->vs.length=rs.length/\∀(i:Nat) v x,vs[i]? = some v->rs[i]? = some x->uU E w ro v x.1 x.2
 | [],[],_=>⟨rfl,fun i v x h=>by simp at h⟩
 | v::vs,r::rs,h=>by obtain⟨t,y⟩:=r;obtain⟨h1,h2⟩:=h;obtain⟨g1,g2⟩:=gq.at_ vs rs h2;grind
 | [],_::_,h=>h.elim
 | _::_,[],h=>h.elim
theorem Qu{v:Value}{res:List (TV E)}(h:qj E w ro v res):aP E w ro ι v (Qq res):=by
 unfold qj at h;split at h
 ·exact rP h
 ·rename_i hne;obtain⟨vs,rfl,h⟩:=h;obtain⟨h1,h2⟩:=gq.at_ vs res h;have e:Qq res = .uz (res.map fun r=>gY r.1 r.2):=by
   unfold Qq;grind
  rw[e];refine .uz _ _ (by simp[h1]) (fun j u x hu hx=>?_);rw[adZ]at hx;cases hr:res[j]? with
  | none=>rw[hr]at hx;cases hx
  | some r =>rw[hr]at hx;cases hx;exact rP (h2 j u r (by simpa using hu) hr)
theorem tL.lt{gh:Gh}{xs:List Value}(h:tL w gh xs){g:Nat}(hg:gh.blk=some g):g<w.heap.size:=by
 rcases h with⟨h,hb⟩ | ⟨_,_,hb,_⟩
 ·exact(h.lt g (hb▸hg)).2
 ·rw[hb]at hg;cases hg
theorem Hr{o:Oper}{f:FuncId}{lu:Operand}{as:Array Operand}{ts:Array TypeId}(ho:o.op = .call { callee:=.value lu,args:=as,argTypes:=ts })(hfo:a.eval lu = .func (.func f) #[] #[])
  (h:∃fn,P.funcs[f]? = some fn/\(fn.name == "runtime.NumGoroutine")=false/\fn.body.isNone=false):(execOp a.eval o).run P w = .ok (.enter f (as.toList.map a.eval).toArray) w:=by
 obtain⟨fn,hfn,hname,hbody⟩:=h;have e1:(as.map a.eval)=(as.toList.map a.eval).toArray:=by apply Array.ext';simp
 simp only[execOp,ho,resolve,hfo,Deferred.ofValue,Sem.run_bind,Sem.run_pure,Result.andThen_ok,invoke,callFunc,e1]
 have hn:¬ fn.name = "runtime.NumGoroutine" := by intro e;rw[e]at hname;simp at hname
 have hb:¬ fn.body=none:=by intro e;rw[e]at hbody;simp at hbody
 simp[hfn,hn,hb,program,Sem.run]
theorem ahk{o:Oper}{f:FuncId}{lu:Operand}{as:Array Operand}{ts:Array TypeId}{vs us:Array Value}(ho:o.op = .call { callee:=.value lu,args:=as,argTypes:=ts })(hfo:a.eval lu = .func (.func f) vs us)
  (h:∃fn,P.funcs[f]? = some fn/\(fn.name == "runtime.NumGoroutine")=false/\fn.body.isNone=false):(execOp a.eval o).run P w = .ok (.enter f (vs.toList++(as.toList.map a.eval++us.toList)).toArray) w:=by
 obtain⟨fn,hfn,hname,hbody⟩:=h;have e1:(vs++(as.map a.eval))++us=(vs.toList++(as.toList.map a.eval++us.toList)).toArray:=by apply Array.ext';simp
 have hn:¬ fn.name = "runtime.NumGoroutine" := by intro e;rw[e]at hname;simp at hname
 have hb:¬ fn.body=none:=by intro e;rw[e]at hbody;simp at hbody
 simp only[execOp,ho,resolve,hfo,Deferred.ofValue,Sem.run_bind,Sem.run_pure,Result.andThen_ok,invoke,callFunc,e1];simp[hfn,hn,hb,program,Sem.run]
theorem aru(c:Ctx E S asm a w ι ro){O:aI E}(hO:aL E O){o:Oper}{f:FuncId}{lu:Operand}{as:Array Operand}{ts:Array TypeId}(ho:o.op = .call { callee:=.value lu,args:=as,argTypes:=ts })(hfo:a.eval lu = .func (.func f) #[] #[])
  {r:gF E} (h:Z7 O S.next f ts.toList (cu S.tmps asm as)=some r) (hok:r.ok=true):bK E o a w ι ro S.next r:=by
 have args:∀xs,foldArgs ts.toList (cu S.tmps asm as)=some xs->gq E w ro (as.toList.map a.eval) xs:=fun xs hxs =>
  vZ (ι:=ι) ts.toList _ _ xs (by simp[cu]) (fun i v x hv hx=>by
    unfold cu at hx;rw[adZ]at hv hx;cases hi:as.toList[i]? with
    | none=>rw[hi]at hv;cases hv
    | some y =>rw[hi]at hv hx;cases hv;cases hx;exact c.get y) hxs
 have enter:=Hr (a:=a) (w:=w) (P:=P) ho hfo;unfold Z7 at h;split at h
 ·rename_i xs hxs;cases hfr:O.KR f with
  | true =>
   rw[hfr]at h;simp only[cond_true]at h;split at h
   ·rename_i ok t l hres;cases h;have hok:ok=true:=hok;subst hok;obtain⟨hfn,mZ⟩:=hO.2.1 f xs t l hres;refine .inr (.inr ⟨f,_,enter hfn,(mZ w ro _ (args xs hxs) c.aT).mono fun e w' he=>?_⟩);obtain⟨gh,ys,rfl,hb,hn,hge,hgs,hown,hrow,hblk⟩:=he;have hcell:∀k o,ro k o->w'.cell? ⟨k,o,none⟩=w.cell? ⟨k,o,none⟩:=fun k o h=>hb.cell (p:=⟨k,o,none⟩) (c.aT k o h)
    obtain⟨ad,cap,hgv,had⟩:=hown.shape;exact⟨gh.v,oC ι S.next gh,ro,rfl, {
     os:=hb.os
     tape:=hb.tape
     output:=hb.output
     size:=hb.size
     frame:=fun k hk _=>hb.block k hk
     cell:=hcell
     mono:=fun _ _ h=>h
     aT:=fun k o h=>aeJ (c.aT k o h) hb.size
     fresh:=fun k o h=>.inl h
     lF:=fun id h=>if_neg h
     qR:=fun bD k h hk=>by simp[oC]at h;subst h;exact⟨hown.lt hk,.inl (hblk k hk)⟩
     oz:=fun h=>by cases h
     upd:=fun id o h=>by cases h
     new:=fun o h=>by cases h;exact⟨gh,ys,if_pos rfl,hn,hge,hgs,hown,hrow,fun g hg o hr=>by have:=c.aT g o hr;have:=hblk g hg;omega⟩
     val:=by rw[<- hn];exact .row gh t S.next ad cap (if_pos rfl) hge hgs hgv had }⟩
   ·cases h
  | false =>
   rw[hfr]at h;simp only[cond_false]at h;split at h
   ·rename_i ok res hres;cases h;have hok:ok=true:=hok;subst hok;obtain⟨hfn,mZ⟩:=hO.1 f xs res hres;refine .inr (.inr ⟨f,_,enter hfn,(mZ w ro _ (args xs hxs) c.aT).mono fun e w' he=>?_⟩);obtain⟨v,rfl,hb,hr⟩:=he;have hcell:∀k o,ro k o->w'.cell? ⟨k,o,none⟩=w.cell? ⟨k,o,none⟩:=fun k o h=>hb.cell (p:=⟨k,o,none⟩) (c.aT k o h)
    refine⟨v,ι,_,rfl, {
     os:=hb.os
     tape:=hb.tape
     output:=hb.output
     size:=hb.size
     frame:=fun k hk _=>hb.block k hk
     cell:=hcell
     mono:=fun _ _ h=>.inl h
     aT:=fun k o h=>by
      rcases h with h | ⟨_,h⟩
      ·exact aeJ (c.aT k o h) hb.size
      ·exact h
     fresh:=fun k o h=>by grind
     lF:=fun _ _=>rfl
     qR:=fun gh k h=>by rw[c.fresh]at h;cases h
     oz:=fun _=>rfl
     upd:=fun id o h=>by cases h
     new:=fun o h=>by cases h
     val:=Qu hr }⟩
   ·cases h
 ·cases h
theorem aoK(_:Ctx E S asm a w ι ro){O:aI E}(_:aL E O){o:Oper}{f:FuncId}{lu:Operand}{as:Array Operand}{ts:Array TypeId}(_:o.op = .call { callee:=.value lu,args:=as,argTypes:=ts })(_:a.eval lu = .func (.func f) #[] #[])
  {r:gF E} (h:Wt O f (cu S.tmps asm as)=some r) (_:r.ok=true):bK E o a w ι ro S.next r:=by
 unfold Wt at h;cases h
theorem aoL(_:Ctx E S asm a w ι ro){O:aI E}(_:aL E O){o:Oper}{f:FuncId}{lu:Operand}{as:Array Operand}{ts:Array TypeId}(_:o.op = .call { callee:=.value lu,args:=as,argTypes:=ts })(_:a.eval lu = .func (.func f) #[] #[])
  {r:gF E} (h:Wo O S.objs f ts.toList (cu S.tmps asm as)=some r) (_:r.ok=true):bK E o a w ι ro S.next r:=by
 unfold Wo at h;cases h
theorem TU{w':World}{ro':Nat->Nat->Prop}{v:Value}{c:bP E.Den}(h:agl c=true)(hr:dU E w ro v c):dU E w' ro' v c:=by cases hr<;>first | exact .bool _ | exact .int _ _ | exact .str _ | cases h
theorem ad4{w':World}{ro':Nat->Nat->Prop}{v:Value}{t:E.Ty}{x:E.Den t}(h:(E.cells t x).all agl=true)(hr:uU E w ro v t x):uU E w' ro' v t x:=by
 rw[afe]at h;rcases hr with⟨ha,vs,hv,hrow⟩ | ⟨ha,c,hc,hd⟩
 ·exact .inl ⟨ha,vs,hv,hrow.1,fun j u c hu hc=>TU (h c (ae7 hc)) (hrow.2 j u c hu hc)⟩
 ·exact .inr ⟨ha,c,hc,TU (h c (by rw[hc];exact aa1)) hd⟩
theorem ad5{w':World}{ro':Nat->Nat->Prop}:∀{vs:List Value} {rs:List (TV E)},Wp rs=true->gq E w ro vs rs->gq E w' ro' vs rs
 | [],[],_,_=>trivial
 | v::vs,⟨t,x⟩::r,h,hr=>by simp only[Wp,abG]at h;exact⟨ad4 h.1 hr.1,ad5 h.2 hr.2⟩
 | [],_::_,_,h=>h.elim
 | _::_,[],_,h=>h.elim
theorem auD{w':World}{ro':Nat->Nat->Prop}{v:Value}{rs:List (TV E)}(h:Wp rs=true)(hr:qj E w ro v rs):qj E w' ro' v rs:=by
 unfold qj at hr ⊢;split at hr
 ·simp only[Wp,abG]at h;exact ad4 h.1 hr
 ·obtain⟨vs,hv,ha⟩:=hr;exact⟨vs,hv,ad5 h ha⟩
def Wz(E:Env P)(objs:List (Nat×aS E))(ι:Nat->Option Gh)(ro:Nat->Nat->Prop):Nat->Nat->Prop:=fun k o=>ro k o\/∃id t l gh,look objs id=some (.row t l)/\ι id=some gh/\gh.blk=some k
theorem ad6(c:Ctx E S asm a w ι ro){v:Value}{x:AV E}(h:aP E w ro ι v x):aP E w (Wz E S.objs ι ro) ι v (aow S.objs x):=by
 have hro:∀k o,ro k o->Wz E S.objs ι ro k o:=fun _ _ h=>.inl h
 have hm:=h.mono (ro':=Wz E S.objs ι ro) hro (fun _ _ _=>rfl) (fun _ _ h=>h);cases h with
 | row gh t id ad cap hi h2 h3 h4 h5 =>
  show aP E w _ ι gh.v (match look S.objs id with | some (.row t' l)=>.d (.slice t' l) | _=>.row t gh.n id);split
  ·rename_i t' l bX;obtain⟨bD,ys,hi',hn,hge,hgs,hown,hrow,iy⟩:=c.objs id _ bX;rw[hi]at hi';cases hi';refine .d _ _ (JM (xs:=ys) (b:=gh.blk) ?_ (fun g o hg _=>.inr ⟨id,t',l,gh,bX,hi,hg⟩) (hrow.mono hro (fun _ _ _=>rfl)));rcases hown with⟨h,hb⟩ | ⟨h0,h1,h2,h3⟩
   ·grind
   grind
  ·exact hm
 | _=>exact hm
theorem aoM(c:Ctx E S asm a w ι ro){v:Value}{x:AV E}(h:aP E w ro ι v x):aP E w (Wz E S.objs ι ro) ι v (ard S.objs x):=by
 have h1:=ad6 c h;cases h with
 | agg vs cs hs hi =>
  refine .agg vs _ (by simp[hs]) fun j v y hv hy=>?_
  rw[adZ]at hy;cases hx:cs[j]? with
  | none=>rw[hx]at hy;cases hy
  | some z=>rw[hx]at hy;cases hy;exact ad6 c (hi j v z hv hx)
 | _=>exact h1
theorem aoN(c:Ctx E S asm a w ι ro){O:aI E}(hO:aL E O){o:Oper}{f:FuncId}{lu:Operand}{as:Array Operand}{ts:Array TypeId}(ho:o.op = .call { callee:=.value lu,args:=as,argTypes:=ts })(hfo:a.eval lu = .func (.func f) #[] #[])
  {r:gF E} (h:Wq O S.objs f ts.toList (cu S.tmps asm as)=some r) (hok:r.ok=true):bK E o a w ι ro S.next r:=by
 unfold Wq at h;split at h
 ·split at h
  ·rename_i xs hxs;split at h
   ·rename_i ok res hres;split at h
    ·rename_i hfl;cases h;have hok:ok=true:=hok;subst hok;have kP:∀k o,Wz E S.objs ι ro k o->k<w.heap.size:=by
      rintro k o (h | ⟨id,t,l,gh,h1,h2,h3⟩)
      ·exact c.aT k o h
      ·obtain⟨bD,ys,hi',hn,hge,hgs,hown,hrow,iy⟩:=c.objs id _ h1;rw[h2]at hi';cases hi';exact hown.lt h3
     have args:gq E w (Wz E S.objs ι ro) (as.toList.map a.eval) xs :=
      vZ (ι:=ι) ts.toList _ _ xs (by simp[cu]) (fun i v x hv hx=>by
       rw[adZ]at hx;unfold cu at hx;rw[adZ]at hv hx;cases hi':as.toList[i]? with
       | none=>rw[hi']at hv;cases hv
       | some y =>rw[hi']at hv hx;cases hv;cases hx;exact aoM c (c.get y)) hxs
     obtain⟨hfn,mZ⟩:=hO.1 f xs res hres;have enter:=Hr (a:=a) (w:=w) (P:=P) ho hfo hfn;refine .inr (.inr ⟨f,_,enter,(mZ w _ _ args kP).mono fun e w' he=>?_⟩);obtain⟨v,rfl,hb,hr⟩:=he;refine⟨v,ι,ro,rfl, {
      os:=hb.os
      tape:=hb.tape
      output:=hb.output
      size:=hb.size
      frame:=fun k hk _=>hb.block k hk
      cell:=fun k o h=>hb.cell (p:=⟨k,o,none⟩) (c.aT k o h)
      mono:=fun _ _ h=>h
      aT:=fun k o h=>aeJ (c.aT k o h) hb.size
      fresh:=fun k o h=>.inl h
      lF:=fun id h=>rfl
      qR:=fun bD k h hk=>by rw[c.fresh]at h;cases h
      oz:=fun h=>rfl
      upd:=fun id o h=>by cases h
      new:=fun o h=>by cases h
      val:=Qu (auD hfl hr) }⟩
    ·cases h
   ·cases h
  ·cases h
 ·cases h
theorem ach:∀{cs:List (AV E)} {ds:List (bP E.Den)},ag9 cs=some ds->cs=ds.map Ef.d
 | [],ds,h=>by cases h;rfl
 | v::r,ds,h=>by
  unfold ag9 at h;split at h
  ·rename_i heq;cases heq
  ·rename_i c r' heq;cases heq;split at h
   ·rename_i l hl;cases h;rw[ach hl];rfl
   ·cases h
  ·cases h
def aoO(E:Env P)(objs:List (Nat×aS E))(ι:Nat->Option Gh)(ro:Nat->Nat->Prop):Nat->Nat->Prop:=fun k o=>ro k o\/∃id cs gh,look objs id=some (.box cs)/\ι id=some gh/\gh.blk=some k
theorem Jk(c:Ctx E S asm a w ι ro):∀{args xs:List (AV E)} {vals:List Value},Qr S.objs args=some xs->vals.length=args.length->(∀(i:Nat) v x,vals[i]? = some v->args[i]? = some x->aP E w ro ι v x) ->
  vals.length=xs.length/\∀(i:Nat) v x,vals[i]? = some v->xs[i]? = some x->aP E w (aoO E S.objs ι ro) (fun _=>none) v x
 | [],xs,vals,h,hl,_=>by cases h;exact⟨hl,fun i v x _ hx=>by simp at hx⟩
 | y::r,xs,vals,h,hl,hr=>by
  match vals,hl with
  | u::us,hl =>
   have hu:=hr 0 u y rfl rfl;have Xy:=fun i v x (hv:us[i]? = some v) (hx:r[i]? = some x)=>hr (i+1) v x (by simpa using hv) (by simpa using hx)
   have hl':us.length=r.length:=by simpa using hl
   unfold Qr at h;split at h
   ·rename_i heq;cases heq
   ·rename_i id off r' heq;cases heq;split at h
    ·rename_i cs bX;split at h
     ·rename_i ds hds;split at h
      ·rename_i l hl2;cases h;obtain⟨q1,q2⟩:=Jk c hl2 hl' Xy;refine⟨by simpa using q1,fun i v x hv hx=>?_⟩;cases i with
       | succ i=>exact q2 i v x (by simpa using hv) (by simpa using hx)
       | zero =>
        simp only[aj9,Option.some.injEq]at hv hx;subst hv;subst hx;obtain⟨gh,g,vs,e,hi,hgv,hblk,hh,hsz,hcell,iy,_⟩:=c.objs id _ bX;cases hu with
        | ptr bD g' id' off' hi' FP =>
         rw[hi]at hi';cases hi';rw[hgv]at FP;cases FP;have hcs:=ach hds;refine .kC g off (fun j=>vs.getD (off+j) undef) (ds.drop off) (fun j c' hj=>?_) (fun j c' hj=>?_)
         ·rw[aeZ]at hj;have hlt:off+j<vs.size:=by rw[hsz,hcs,List.length_map];exact(List.getElem?_eq_some_iff.1 hj).1
          refine⟨.inr ⟨id,cs,gh,bX,hi,hblk⟩,?_⟩;simp[World.cell?,hh,Array.getD,hlt]
         ·rw[aeZ]at hj;have hlt:off+j<vs.size:=by rw[hsz,hcs,List.length_map];exact(List.getElem?_eq_some_iff.1 hj).1
          have h1:vs[off+j]? = some (vs.getD (off+j) undef):=by simp[Array.getD,hlt]
          have h2:cs[off+j]? = some (.d c'):=by rw[hcs,adZ,hj];rfl
          have:=(hcell _ _ _ h1 h2).2;generalize vs.getD (off+j) undef=vq at this ⊢;cases this with
          | d _ _ hd=>exact hd.mono (fun _ _ h=>.inl h) (fun _ _ _=>rfl)
      ·cases h
     ·cases h
    ·cases h
   ·rename_i c' r' heq;cases heq;split at h
    ·rename_i l hl2;cases h;obtain⟨q1,q2⟩:=Jk c hl2 hl' Xy;refine⟨by simpa using q1,fun i v x hv hx=>?_⟩;cases i with
     | succ i=>exact q2 i v x (by simpa using hv) (by simpa using hx)
     | zero =>
      simp only[aj9,Option.some.injEq]at hv hx;subst hv;subst hx;cases hu with
      | d _ _ hd=>exact .d _ _ (hd.mono (fun _ _ h=>.inl h) (fun _ _ _=>rfl))
    ·cases h
   ·rename_i t' x' r' heq;cases heq;split at h
    ·rename_i l hl2;cases h;obtain⟨q1,q2⟩:=Jk c hl2 hl' Xy;refine⟨by simpa using q1,fun i v x hv hx=>?_⟩;cases i with
     | succ i=>exact q2 i v x (by simpa using hv) (by simpa using hx)
     | zero =>
      simp only[aj9,Option.some.injEq]at hv hx;subst hv;subst hx;cases hu with
      | st vs _ _ ha hrow=>exact .st vs _ _ ha (hrow.mono (fun _ _ h=>.inl h) (fun _ _ _=>rfl))
    ·cases h
   ·rename_i cs r' heq;cases heq;split at h
    ·rename_i ds l hds hl2;cases h;obtain⟨q1,q2⟩:=Jk c hl2 hl' Xy;refine⟨by simpa using q1,fun i v x hv hx=>?_⟩;cases i with
     | succ i=>exact q2 i v x (by simpa using hv) (by simpa using hx)
     | zero =>
      simp only[aj9,Option.some.injEq]at hv hx;subst hv;subst hx;cases hu with
      | agg vs _ h1 h2 =>
       refine .agg vs _ h1 fun j v c' hv hj=>?_
       have:=h2 j v c' hv hj;rw[ach hds,adZ]at hj;cases hdj:ds[j]? with
       | none=>rw[hdj]at hj;cases hj
       | some q =>
        rw[hdj]at hj;cases hj;cases this with
        | d _ _ hd=>exact .d _ _ (hd.mono (fun _ _ h=>.inl h) (fun _ _ _=>rfl))
    ·cases h
   ·cases h
theorem aoP(c:Ctx E S asm a w ι ro){O:aI E}(hO:aL E O){o:Oper}{f:FuncId}{lu:Operand}{as:Array Operand}{ts:Array TypeId}(ho:o.op = .call { callee:=.value lu,args:=as,argTypes:=ts })(hfo:a.eval lu = .func (.func f) #[] #[])
  {r:gF E} (h:Ws O S.objs f (cu S.tmps asm as)=some r) (hok:r.ok=true):bK E o a w ι ro S.next r:=by
 unfold Ws at h;split at h
 ·split at h
  ·rename_i xs hxs
   replace h:O.inl.run f xs [] 0 agm=some r:=by grind
   have kP:∀k o,aoO E S.objs ι ro k o->k<w.heap.size:=by
    rintro k o (h | ⟨id,cs,gh,h1,h2,h3⟩)
    ·exact c.aT k o h
    ·obtain⟨bD,g,vs,e,hi',_,hblk,hh,_⟩:=c.objs id _ h1;grind
   obtain⟨hl,hargs⟩:=Jk c (vals:=as.toList.map a.eval) hxs (by simp[cu]) (fun i v x hv hx=>by
    unfold cu at hx;rw[adZ]at hv hx;cases hi':as.toList[i]? with
    | none=>rw[hi']at hv;cases hv
    | some y =>rw[hi']at hv hx;cases hv;cases hx;exact c.get y)
   obtain⟨hfn,mZ⟩:=hO.2.2.2.2.1 f xs [] 0 agm r h;have enter:=Hr (a:=a) (w:=w) (P:=P) ho hfo hfn;have hb0:Base ⟨w,none,none,[],fun _=>none⟩ (aoO E S.objs ι ro) { tmps:=#[],defers:=[] } w (fun _=>none) (aoO E S.objs ι ro) :=
    ⟨⟨rfl,rfl,rfl,abH _,fun _ _ _=>rfl⟩,kP,(fun _ _ h=>.inl h),(fun _ _ _ h=>by cases h),rfl,(fun _ h=>by cases h),(fun _ _ h=>by cases h)⟩
   refine .inr (.inr ⟨f,_,enter,(mZ ⟨w,none,none,[],fun _=>none⟩ _ _ w (fun _=>none) _ _ hb0 (fun id o h=>by cases h) (fun id id' o o' gh bD k (h:look [] id=some o)=>by cases h) (fun _ _=>rfl) (fun id o h=>by cases h) hl hargs).mono fun e w' he=>?_⟩);obtain⟨v,x,mY,next',ι',ro',rfl,hk,hrep,hb,_,_,_,_,hcell,_⟩:=he;unfold agm at hk;split at hk
   ·rename_i d;split at hk
    ·rename_i hfl;cases hk;have hbl:=hb.below;refine⟨v,ι,ro,rfl, {
      os:=hbl.os
      tape:=hbl.tape
      output:=hbl.output
      size:=hbl.size
      frame:=fun k hk _=>hbl.block k hk (fun e=>by cases e)
      cell:=fun k o h=>(hcell k o (.inl h)).2
      mono:=fun _ _ h=>h
      aT:=fun k o h=>aeJ (c.aT k o h) hbl.size
      fresh:=fun k o h=>.inl h
      lF:=fun id h=>rfl
      qR:=fun bD k h hk=>by rw[c.fresh]at h;cases h
      oz:=fun h=>rfl
      upd:=fun id o h=>by cases h
      new:=fun o h=>by cases h
      val:=by
       cases hrep with
       | d _ _ hd=>exact .d _ _ (TU hfl hd) }⟩
    ·cases hk
   ·cases hk
  ·cases h
 ·cases h
theorem WA{vs us:List Value}{p q:List (AV E)}(hl:vs.length=p.length)(h1:∀(j:Nat) v c,vs[j]? = some v->p[j]? = some c->aP E w ro ι v c)(h2:∀(j:Nat) v c,us[j]? = some v->q[j]? = some c->aP E w ro ι v c) :
  ∀(j:Nat) v c,(vs++us)[j]? = some v->(p++q)[j]? = some c->aP E w ro ι v c:=by
 grind
theorem args_at(c:Ctx E S asm a w ι ro)(as:Array Operand):∀(i:Nat) v x,(as.toList.map a.eval)[i]? = some v->(cu S.tmps asm as)[i]? = some x->aP E w ro ι v x:=fun i v x hv hx=>by
 unfold cu at hx;rw[adZ]at hv hx;cases hi':as.toList[i]? with
 | none=>rw[hi']at hv;cases hv
 | some y =>rw[hi']at hv hx;cases hv;cases hx;exact c.get y
theorem Qv:∀(ts:List E.Ty) (vs:List Value) (as:List (AV E)) (xs:List (TV E)),vs.length=as.length->(∀(i:Nat) v x,vs[i]? = some v->as[i]? = some x->aP E w ro ι v x)->TI ts as=some xs->gq E w ro vs xs
 | [],[],[],xs,_,_,h=>by cases h;trivial
 | t::ts,v::vs,x::as,xs,hl,hr,h=>by
  unfold TI at h;split at h
  ·rename_i y hy;split at h
   ·rename_i r hr';cases h;exact⟨Ag (hr 0 v x rfl rfl) hy,Qv ts vs as r (by simpa using hl) (fun i v x hv hx=>hr (i+1) v x (by simpa using hv) (by simpa using hx)) hr'⟩
   ·cases h
  ·cases h
 | [],v::vs,x::as,xs,_,_,h=>by cases h
 | t::ts,[],[],xs,_,_,h=>by cases h
 | [],[],_::_,_,hl,_,_=>by simp at hl
 | [],_::_,[],_,hl,_,_=>by simp at hl
 | _::_,[],_::_,_,hl,_,_=>by simp at hl
 | _::_,_::_,[],_,hl,_,_=>by simp at hl
theorem auE{s:zD E}{v:Value}{x:AV E}{y:Arg E}(h:aP E w ro ι v x)(hs:auu s x=some y):aoJ E w ro v y:=by
 unfold auu at hs;split at hs
 ·split at hs
  ·rename_i z hz;cases hs;exact Ag h hz
  ·cases hs
 ·rename_i f ps qs f' a b;split at hs
  ·rename_i p q hf hp hq;cases hs;have hf:=aax hf;subst hf;cases h with
   | fn _ vs us _ _ h1 h2 h3 h4=>exact⟨vs,us,rfl,Qv ps vs.toList a p (by simpa using h1) (fun i v x hv hx=>h3 i v x (by simpa using hv) hx) hp,Qv qs us.toList b q (by simpa using h2) (fun i v x hv hx=>h4 i v x (by simpa using hv) hx) hq⟩
  ·cases hs
 ·rename_i f f';split at hs
  ·rename_i hf;cases hs;have hf:=aax hf;subst hf;exact⟨#[], #[],h.j6,trivial,trivial⟩
  ·cases hs
 ·cases hs
theorem ad7:∀{ss:List (zD E)} {as:List (AV E)} {xs:List (Arg E)},Wm ss as=some xs->as.length=xs.length/\∀(i:Nat) v x y,as[i]? = some x->xs[i]? = some y->aP E w ro ι v x->aoJ E w ro v y
 | [],[],xs,h=>by cases h;exact⟨rfl,fun i v x y hx=>by simp at hx⟩
 | s::ss,x::as,xs,h=>by
  unfold Wm at h;split at h
  ·rename_i y hy;split at h
   ·rename_i r hr;cases h;obtain⟨h1,h2⟩:=ad7 hr;refine⟨by simp[h1],fun i v x' y' hx hy' hrep=>?_⟩;cases i with
    | zero=>simp at hx hy';subst hx;subst hy';exact auE hrep hy
    | succ i=>grind
   ·cases h
  ·cases h
 | [],_::_,_,h=>by cases h
 | _::_,[],_,h=>by cases h
theorem YI{as:List (AV E)}{r:gF E}:∀{l:List (List (zD E)×(List (Arg E)->Option (Bool×List (TV E))))},Yx as l=some r->∃p∈l, ∃xs ok res,Wm p.1 as=some xs/\p.2 xs=some (ok,res)/\r=⟨ok,Qq res,none,none⟩
 | [],h=>by cases h
 | p::l,h=>by
  unfold Yx at h;have next:Yx as l=some r->∃p'∈p::l, ∃xs ok res,Wm p'.1 as=some xs/\p'.2 xs=some (ok,res)/\r=⟨ok,Qq res,none,none⟩:=fun h=>by obtain⟨p',hp,q⟩:=YI h;exact⟨p',aa6 _ hp,q⟩
  grind
theorem ad8{as:List (AV E)}{r:gF E}{l:List (List (zD E)×(List (Arg E)->Option (Bool×List (TV E))))}(h:Yx as l=some r):r.upd=none/\r.new=none:=by obtain⟨_,_,_,_,_,_,_,rfl⟩:=YI h;exact⟨rfl,rfl⟩
theorem aak(c:Ctx E S asm a w ι ro){O:aI E}(hO:aL E O){o:Oper}{f:FuncId}{vals:List Value}{avs:List (AV E)}(hl:vals.length=avs.length)(hr:∀(i:Nat) v x,vals[i]? = some v->avs[i]? = some x->aP E w ro ι v x)
  (enter:(∃fn,P.funcs[f]? = some fn/\(fn.name == "runtime.NumGoroutine")=false/\fn.body.isNone=false)->(execOp a.eval o).run P w = .ok (.enter f vals.toArray) w) {r:gF E} (h:acf O f avs=some r) (hok:r.ok=true):bK E o a w ι ro S.next r:=by
 obtain⟨p,hp,xs,ok,res,hxs,hres,rfl⟩:=YI h;have hok:ok=true:=hok;subst hok;obtain⟨hfn,mZ⟩:=hO.2.2.2.2.2.2.2.2 f p xs res hp hres;obtain⟨q1,q2⟩:=ad7 (w:=w) (ro:=ro) (ι:=ι) hxs;refine .inr (.inr ⟨f,_,enter hfn,(mZ w ro vals (hl.trans q1) (fun i v y hv hy=>?_) c.aT).mono fun e w' he=>?_⟩)
 ·have hi:i<avs.length:=by rw[q1];exact(List.getElem?_eq_some_iff.1 hy).1
  exact q2 i v _ y (aac hi) hy (hr i v _ hv (aac hi))
 ·obtain⟨v,rfl,hb,hr⟩:=he;have hcell:∀k o,ro k o->w'.cell? ⟨k,o,none⟩=w.cell? ⟨k,o,none⟩:=fun k o h=>hb.cell (p:=⟨k,o,none⟩) (c.aT k o h)
  exact⟨v,ι,_,rfl, {
   os:=hb.os
   tape:=hb.tape
   output:=hb.output
   size:=hb.size
   frame:=fun k hk _=>hb.block k hk
   cell:=hcell
   mono:=fun _ _ h=>.inl h
   aT:=fun k o h=>by
    rcases h with h | ⟨_,h⟩
    ·exact aeJ (c.aT k o h) hb.size
    ·exact h
   fresh:=fun k o h=>by grind
   lF:=fun _ _=>rfl
   qR:=fun gh k h=>by rw[c.fresh]at h;cases h
   oz:=fun _=>rfl
   upd:=fun id o h=>by cases h
   new:=fun o h=>by cases h
   val:=Qu hr }⟩
theorem toDs_rep{vs:Array Value}:∀{cs:List (AV E)} {ds:List (bP E.Den)},toDs cs=some ds->cs.length=ds.length/\∀(j:Nat) c d,cs[j]? = some c->ds[j]? = some d->toD c=some d
 | [],ds,h=>by cases h;exact⟨rfl,fun j c d hc=>by simp at hc⟩
 | c::cs,ds,h=>by
  unfold toDs at h;split at h
  ·rename_i d h1;split at h
   ·rename_i ds' h2;cases h;obtain⟨hl,hat⟩:=toDs_rep (vs:=vs) h2;grind
   ·cases h
  ·cases h
theorem aoQ(c:Ctx E S asm a w ι ro){O:aI E}(hO:aL E O){o:Oper}{f:FuncId}{lu:Operand}{as:Array Operand}{ts:Array TypeId}(ho:o.op = .call { callee:=.value lu,args:=as,argTypes:=ts })(hfo:a.eval lu = .func (.func f) #[] #[])
  {r:gF E} (h:Wn O S.objs f ts.toList (cu S.tmps asm as)=some r) (hok:r.ok=true):bK E o a w ι ro S.next r:=by
 have hargs:∀(i:Nat) v x,(as.toList.map a.eval)[i]? = some v->(cu S.tmps asm as)[i]? = some x->aP E w ro ι v x:=fun i v x hv hx=>by
  unfold cu at hx;rw[adZ]at hv hx;cases hi':as.toList[i]? with
  | none=>rw[hi']at hv;cases hv
  | some y =>rw[hi']at hv hx;cases hv;cases hx;exact c.get y
 have hlen:(as.toList.map a.eval).length=(cu S.tmps asm as).length:=by simp[cu]
 have enter:=Hr (a:=a) (w:=w) (P:=P) ho hfo;generalize as.toList.map a.eval=vals at hargs hlen enter;generalize cu S.tmps asm as=avs at h hargs hlen;unfold Wn at h;split at h
 ·cases h
 ·rename_i t hbt;split at h
  ·rename_i T Ts id rest hts;cases vals with
   | nil=>simp at hlen
   | cons v vals =>
    have hr0:=hargs 0 v _ rfl rfl;have hrest:∀(i:Nat) u x,vals[i]? = some u->rest[i]? = some x->aP E w ro ι u x:=fun i u x hu hx=>hargs (i+1) u x (by simpa using hu) (by simpa using hx)
    have hlen':vals.length=rest.length:=by simpa using hlen
    split at h
    ·rename_i cs bX;split at h
     ·rename_i x hx;split at h
      ·rename_i xs hxs;split at h
       ·rename_i ok y res hbf;cases h;have hok:ok=true:=hok;subst hok;have args:=vZ (ι:=ι) Ts vals rest xs hlen' hrest hxs;obtain⟨gh,g,vs,e,hi,hgv,hblk,hh,hsz,hcell,iy,hge⟩:=c.objs id _ bX;have hv:v = .pointer (some ⟨g,0,none⟩):=by
         cases hr0 with
         | ptr bD g' _ _ h1 h2=>grind
        subst hv;have hrow:oJ E w ro vs (E.cells t x):=by
         unfold agk at hx;split at hx
         ·rename_i ds hds;obtain⟨hl,hat⟩:=toDs_rep (vs:=vs) hds;refine oJ.le (E.vW t ds x hx) ⟨by rw[hsz,hl],fun j u d hu hd=>?_⟩;have hj:j<cs.length:=by rw[hl];exact(List.getElem?_eq_some_iff.1 hd).1
          exact toD_rep (hcell j u _ hu (aac hj)).2 (hat j _ d (aac hj) hd)
         ·cases hx
        obtain⟨hfn,mZ⟩:=hO.2.2.2.2.2.2.2.1 f t x xs y res hbf;have aci:g<w.heap.size:=by grind
        refine .inr (.inr ⟨f,_,enter hfn,(mZ w ro g e vs vals hh hrow iy args c.aT).mono fun ed w' he=>?_⟩);obtain⟨v,vs',rfl,hgrow,hh',hrow',hret⟩:=he;have aAo:∀k o,ro k o->w'.cell? ⟨k,o,none⟩=w.cell? ⟨k,o,none⟩:=fun k o h=>World.cell?_of_block (hgrow.block k (c.aT k o h) (fun e=>by cases e;exact iy o h))
        exact⟨v,ι,fun k o=>ro k o\/(w.heap.size<=k/\k<w'.heap.size),rfl, {
         os:=hgrow.os
         tape:=hgrow.tape
         output:=hgrow.output
         size:=hgrow.size
         frame:=fun k hk hne=>hgrow.block k hk (fun e=>by cases e;exact hne id _ gh rfl hi hblk)
         cell:=aAo
         mono:=fun _ _ h=>.inl h
         aT:=fun k o h=>by
          rcases h with h | h
          ·exact aeJ (c.aT k o h) hgrow.size
          ·exact h.2
         fresh:=fun k o h=>by grind
         lF:=fun _ _=>rfl
         qR:=fun auF k h _=>by rw[c.fresh]at h;cases h
         oz:=fun _=>rfl
         upd:=fun id' o h=>by
          cases h;refine⟨gh,g,vs',e,hi,hgv,hblk,hh',by rw[hrow'.1,List.length_map],fun j u q hu hq=>?_,fun o h=>?_,hge⟩
          ·rw[adZ]at hq;cases hj:(E.cells t y)[j]? with
           | none=>rw[hj]at hq;cases hq
           | some d =>rw[hj]at hq;cases hq;have:=hrow'.2 j u d hu hj;exact⟨this.one,.d _ _ this⟩
          grind
         new:=fun o h=>by cases h
         val:=Qu hret }⟩
       ·cases h
      ·cases h
     ·cases h
    ·cases h
  ·cases h
theorem aoR(_:Ctx E S asm a w ι ro){O:aI E}(_:aL E O){o:Oper}{f:FuncId}{lu:Operand}{as:Array Operand}{ts:Array TypeId}(_:o.op = .call { callee:=.value lu,args:=as,argTypes:=ts })(_:a.eval lu = .func (.func f) #[] #[])
  {r:gF E} (h:Wj O S.objs f (cu S.tmps asm as)=some r) (_:r.ok=true):bK E o a w ι ro S.next r:=by
 unfold Wj at h;cases h
theorem aoS(_:Ctx E S asm a w ι ro){O:aI E}(_:aL E O){o:Oper}{f:FuncId}{lu:Operand}{as:Array Operand}{ts:Array TypeId}(_:o.op = .call { callee:=.value lu,args:=as,argTypes:=ts })(_:a.eval lu = .func (.func f) #[] #[])
  {r:gF E} (h:Wu O S.next f (cu S.tmps asm as)=some r) (_:r.ok=true):bK E o a w ι ro S.next r:=by
 unfold Wu at h;cases h
theorem aoT(c:Ctx E S asm a w ι ro){O:aI E}(hO:aL E O){o:Oper}{f:FuncId}{lu:Operand}{as:Array Operand}{ts:Array TypeId}(ho:o.op = .call { callee:=.value lu,args:=as,argTypes:=ts })(hfo:a.eval lu = .func (.func f) #[] #[])
  {r:gF E} (h:Wv O S.objs S.next f ts.toList (cu S.tmps asm as)=some r) (hok:r.ok=true):bK E o a w ι ro S.next r:=by
 have hargs:∀(i:Nat) v x,(as.toList.map a.eval)[i]? = some v->(cu S.tmps asm as)[i]? = some x->aP E w ro ι v x:=fun i v x hv hx=>by
  unfold cu at hx;rw[adZ]at hv hx;cases hi':as.toList[i]? with
  | none=>rw[hi']at hv;cases hv
  | some y =>rw[hi']at hv hx;cases hv;cases hx;exact c.get y
 have hlen:(as.toList.map a.eval).length=(cu S.tmps asm as).length:=by simp[cu]
 have enter:=Hr (a:=a) (w:=w) (P:=P) ho hfo;generalize as.toList.map a.eval=vals at hargs hlen enter;generalize cu S.tmps asm as=avs at h hargs hlen;unfold Wv at h;split at h
 ·rename_i T Ts t0 n0 id rest hts;cases vals with
  | nil=>simp at hlen
  | cons v vals =>
   have hr0:=hargs 0 v _ rfl rfl;have hrest:∀(i:Nat) u x,vals[i]? = some u->rest[i]? = some x->aP E w ro ι u x:=fun i u x hu hx=>hargs (i+1) u x (by simpa using hu) (by simpa using hx)
   have hlen':vals.length=rest.length:=by simpa using hlen
   split at h
   ·rename_i t l bX;split at h
    ·rename_i xs hxs;have args:=vZ (ι:=ι) Ts vals rest xs hlen' hrest hxs;obtain⟨gh,ys,hi,hn,hge,hgs,hown,hrow,iy⟩:=c.objs id _ bX;have hv:v=gh.v:=by
      cases hr0 with
      | row bD _ _ ad cap h1 h2 h3 h4 h5=>rw[h1]at hi;cases hi;rfl
     subst hv;split at h
     ·rename_i ok l' hres;cases h;have hok:ok=true:=hok;subst hok;obtain⟨hfn,mZ⟩:=hO.2.2.1 f t l xs true l' hres;refine .inr (.inr ⟨f,_,enter hfn,(mZ w ro gh ys vals hn hge hgs hown hrow iy args c.aT).mono fun e w' he=>?_⟩);obtain⟨val,bD,ys',rfl,hgrow,hn',hge',hgs',hown',hrow',hblk,hback,_⟩:=he;obtain rfl:=hback rfl;have hcell:∀k o,ro k o->w'.cell? ⟨k,o,none⟩=w.cell? ⟨k,o,none⟩:=fun k o h=>World.cell?_of_block (hgrow.block k (c.aT k o h) (fun e=>iy k e.symm o h))
      obtain⟨ad,cap,hgv,had⟩:=hown'.shape;exact⟨bD.v,oC ι S.next bD,fun k o=>ro k o\/(bD.blk≠some k/\(gh.blk=some k\/w.heap.size<=k/\k<w'.heap.size)),rfl, {
       os:=hgrow.os
       tape:=hgrow.tape
       output:=hgrow.output
       size:=hgrow.size
       frame:=fun k hk hne=>hgrow.block k hk (fun e=>hne id _ gh rfl hi e.symm)
       cell:=hcell
       mono:=fun _ _ h=>.inl h
       aT:=fun k o h=>by
        rcases h with h | ⟨_,h | h⟩
        ·exact aeJ (c.aT k o h) hgrow.size
        ·exact aeJ (hown.lt h) hgrow.size
        ·exact h.2
       fresh:=fun k o h=>by
        rcases h with h | ⟨_,h | h⟩
        ·exact .inl h
        ·exact .inr (.inr ⟨id,_,gh,rfl,hi,h⟩)
        ·exact .inr (.inl h.1)
       lF:=fun id h=>if_neg h
       qR:=fun auF k h hk=>by
        simp[oC]at h;subst h;refine⟨hown'.lt hk,?_⟩;rcases hblk k hk with h | h
        ·exact .inr ⟨id,_,gh,rfl,rfl,hi,h⟩
        ·exact .inl h
       oz:=fun h=>by cases h
       upd:=fun id o h=>by cases h;trivial
       new:=fun o h=>by
        cases h;refine⟨bD,ys',if_pos rfl,hn',hge',hgs',hown',hrow',fun g hg o hr=>?_⟩;rcases hr with hr | ⟨hne,_⟩
        rotate_left
        ·exact hne hg
        rcases hblk g hg with h | h
        ·exact iy g h o hr
        ·have:=c.aT g o hr;omega
       val:=by rw[<- hn'];exact .row bD t S.next ad cap (if_pos rfl) hge' hgs' hgv had }⟩
     ·rename_i ok l' hres;cases h;have hok:ok=true:=hok;subst hok;obtain⟨hfn,mZ⟩:=hO.2.2.1 f t l xs false l' hres;refine .inr (.inr ⟨f,_,enter hfn,(mZ w ro gh ys vals hn hge hgs hown hrow iy args c.aT).mono fun e w' he=>?_⟩);obtain⟨val,bD,ys',rfl,hgrow,hn',hge',hgs',hown',hrow',hblk,_,hsame⟩:=he;obtain rfl:=hsame rfl;have hcell:∀k o,ro k o->w'.cell? ⟨k,o,none⟩=w.cell? ⟨k,o,none⟩:=fun k o h=>World.cell?_of_block (hgrow.block k (c.aT k o h) (fun e=>iy k e.symm o h))
      exact⟨val,ι,fun k o=>ro k o\/(bD.blk≠some k/\(bD.blk=some k\/w.heap.size<=k/\k<w'.heap.size)),rfl, {
       os:=hgrow.os
       tape:=hgrow.tape
       output:=hgrow.output
       size:=hgrow.size
       frame:=fun k hk hne=>hgrow.block k hk (fun e=>hne id _ bD rfl hi e.symm)
       cell:=hcell
       mono:=fun _ _ h=>.inl h
       aT:=fun k o h=>by
        rcases h with h | ⟨_,h | h⟩
        ·exact aeJ (c.aT k o h) hgrow.size
        ·exact aeJ (hown.lt h) hgrow.size
        ·exact h.2
       fresh:=fun k o h=>by grind
       lF:=fun id h=>rfl
       qR:=fun auF k h hk=>by rw[c.fresh]at h;cases h
       oz:=fun h=>rfl
       upd:=fun id' o h=>by
        cases h;exact⟨bD,ys',hi,hn',hge',hgs',hown',hrow',fun g hg o hr=>by
         rcases hr with hr | ⟨hne,_⟩
         ·exact iy g hg o hr
         ·exact hne hg⟩
       new:=fun o h=>by cases h
       val:=.any _ }⟩
     ·cases h
    ·cases h
   ·cases h
 ·rename_i T Ts rest hts;cases vals with
  | nil=>simp at hlen
  | cons v vals =>
   have e1:=(hargs 0 v _ rfl rfl).j6;subst e1;have hrest:∀(i:Nat) u x,vals[i]? = some u->rest[i]? = some x->aP E w ro ι u x:=fun i u x hu hx=>hargs (i+1) u x (by simpa using hu) (by simpa using hx)
   have hlen':vals.length=rest.length:=by simpa using hlen
   split at h
   ·rename_i e he;split at h
    ·rename_i t ht;split at h
     ·rename_i xs hxs;have args:=vZ (ι:=ι) Ts vals rest xs hlen' hrest hxs;split at h
      ·rename_i ok l' hres;cases h;have hok:ok=true:=hok;subst hok;obtain⟨hfn,mZ⟩:=hO.2.2.1 f t [] xs true l' hres;refine .inr (.inr ⟨f,_,enter hfn,(mZ w ro ⟨.slice none 0 0,0,E.tid t,E.size t,none⟩ [] vals rfl rfl rfl (.inl ⟨World.ownsRow_nil w 0 _ _,rfl⟩) (fun i x j cc h=>by simp at h) (fun g hg=>by cases hg) args c.aT).mono fun e w' he=>?_⟩);obtain⟨val,bD,ys',rfl,hgrow,hn',hge',hgs',hown',hrow',hblk,hback,_⟩:=he;obtain rfl:=hback rfl;have hcell:∀k o,ro k o->w'.cell? ⟨k,o,none⟩=w.cell? ⟨k,o,none⟩:=fun k o h=>World.cell?_of_block (hgrow.block k (c.aT k o h) (fun e=>by cases e))
       obtain⟨ad,cap,hgv,had⟩:=hown'.shape;exact⟨bD.v,oC ι S.next bD,fun k o=>ro k o\/(bD.blk≠some k/\((none:Option Nat)=some k\/w.heap.size<=k/\k<w'.heap.size)),rfl, {
        os:=hgrow.os
        tape:=hgrow.tape
        output:=hgrow.output
        size:=hgrow.size
        frame:=fun k hk _=>hgrow.block k hk (fun e=>by cases e)
        cell:=hcell
        mono:=fun _ _ h=>.inl h
        aT:=fun k o h=>by
         rcases h with h | ⟨_,h | h⟩
         ·exact aeJ (c.aT k o h) hgrow.size
         ·cases h
         ·exact h.2
        fresh:=fun k o h=>by
         rcases h with h | ⟨_,h | h⟩
         ·exact .inl h
         ·cases h
         ·exact .inr (.inl h.1)
        lF:=fun id h=>if_neg h
        qR:=fun auF k h hk=>by
         simp[oC]at h;subst h;refine⟨hown'.lt hk,?_⟩;rcases hblk k hk with h | h
         ·cases h
         ·exact .inl h
        oz:=fun h=>by cases h
        upd:=fun id o h=>by cases h
        new:=fun o h=>by
         cases h;refine⟨bD,ys',if_pos rfl,hn',hge',hgs',hown',hrow',fun g hg o hr=>?_⟩;rcases hr with hr | ⟨hne,_⟩
         ·rcases hblk g hg with h | h
          ·cases h
          ·have:=c.aT g o hr;omega
         ·exact hne hg
        val:=by rw[<- hn'];exact .row bD t S.next ad cap (if_pos rfl) hge' hgs' hgv had }⟩
      ·cases h
     ·cases h
    ·cases h
   ·cases h
 ·cases h
theorem aal(c:Ctx E S asm a w ι ro){o:Oper}{T:TypeId}{n:Nat}{ps:Array (Nat×Operand)}(ho:o.op = .buildSlice T n ps){r:gF E}(h:FN S.next T n (r9 S.tmps asm ps)=some r) :
  bK E o a w ι ro S.next r:=by
 unfold FN at h;split at h
 ·rename_i hps;split at h
  ·rename_i e he;split at h
   ·rename_i t ht;cases h;have auB:=E.OP e t ht;subst auB;have hu:=qh he;have aFc:ps = #[]:=by
     have:ps.toList=[]:=by simpa[r9]using hps
     simpa using this
    subst aFc;let gh:Gh:=⟨.slice (some ⟨w.heap.size,0,none⟩) 0 0,0,E.tid t,E.size t,none⟩
    refine .inl ⟨gh.v,w.alloc (.cells #[] (E.tid t)),oC ι S.next gh,ro,?_, {
     os:=rfl
     tape:=rfl
     output:=rfl
     size:=by simp
     frame:=fun k hk _=>heap_alloc_old w _ hk
     cell:=fun k o h=>Bp w _ (c.aT k o h) o
     mono:=fun _ _ h=>h
     aT:=fun k o h=>by have:=c.aT k o h;simp;omega
     fresh:=fun k o h=>.inl h
     lF:=fun id h=>if_neg h
     qR:=fun bD k h hk=>by simp[oC]at h;subst h;cases hk
     oz:=fun h=>by cases h
     upd:=fun id o h=>by cases h
     new:=fun o h=>by cases h;exact⟨gh,[],if_pos rfl,rfl,rfl,rfl,.inr ⟨rfl,rfl,rfl,_,rfl⟩,fun i x j cc h=>by simp at h,fun g hg=>by cases hg⟩
     val:=.row gh t S.next _ 0 (if_pos rfl) rfl rfl rfl (fun h=>by cases h) }⟩
    simp only[execOp,ho,Instr.buildSlice];simp only[Sem.run_bind,run_underlying hu,Result.andThen_ok,su,Nat.zero_mul];have e0:Array.map (fun _=>(default:Value)) (Array.range 0) = #[]:=aiJ (by simp);simp[Instr.fill,newRow,gh,e0]
   ·cases h
  ·cases h
 ·cases h
theorem arv(_:Ctx E S asm a w ι ro){o:Oper}{T:TypeId}{n m:Operand}(_:o.op = .makeSlice T n m){r:gF E}(h:Z8 S.next T (bG S.tmps asm n) (bG S.tmps asm m)=some r)(_:r.ok=true):bK E o a w ι ro S.next r:=by unfold Z8 at h;cases h
theorem arw(_:Ctx E S asm a w ι ro){o:Oper}{T:TypeId}{d s:Operand}(_:o.op = .call { callee:=.builtin .copy,args:=#[d,s],argTypes:=#[T,T] }){r:gF E}
  (h:Z9 S.objs T (bG S.tmps asm d) (bG S.tmps asm s)=some r):bK E o a w ι ro S.next r:=by
 unfold Z9 at h;cases h
theorem ahl(_:Ctx E S asm a w ι ro){o:Oper}{T T':TypeId}{big:Bool}{x y:Operand}(_:o.op = .call { callee:=.builtin (bif big then .max else .min),args:=#[x,y],argTypes:=#[T,T'] }){r:AV E}
  (h:agn big T (bG S.tmps asm x) (bG S.tmps asm y)=some r):bK E o a w ι ro S.next (.pure r):=by
 unfold agn at h;cases h
theorem ahm(_:Ctx E S asm a w ι ro){o:Oper}{T:TypeId}(_:o.op = .makeMap T none){r:gF E}(h:MZ S.next T=some r):bK E o a w ι ro S.next r:=by unfold MZ at h;cases h
theorem akR(_:Ctx E S asm a w ι ro){o:Oper}{T:TypeId}{x i:Operand}{ok:Bool}(_:o.op = .lookup T x i ok){r:AV E}(h:Yy S.objs T (bG S.tmps asm x) (bG S.tmps asm i) ok=some r):bK E o a w ι ro S.next (.pure r):=by unfold Yy at h;cases h
theorem ahn(_:Ctx E S asm a w ι ro){o:Oper}{T:TypeId}{x i:Operand}{ok:Bool}(_:o.op = .lookup T x i ok){r:AV E}(h:TK T (bG S.tmps asm x) (bG S.tmps asm i) ok=some r):bK E o a w ι ro S.next (.pure r):=by unfold TK at h;cases h
theorem aye{v:Value}{t:E.Ty}{m id:Nat}(h:aP E w ro ι v (.row t m id)):∃ad cap,v = .slice ad m cap/\(0<m->∃g,ad=some ⟨g,0,none⟩):=by
 cases h with
 | row gh _ _ ad cap h1 h2 h3 h4 h5=>exact⟨ad,cap,h4,h5⟩
theorem arx{T e:TypeId}(hu:P.underlying T=some (.slice e))(d:Nat)(ad:Option Addr)(n cp:Nat):(Op.equalIn (d+1) T (.slice ad n cp) (.slice none 0 0)).run P w = .ok ad.isNone w:=by cases ad<;>simp[Op.equalIn,run_underlying hu]
theorem YJ{T:TypeId}{e1 e2:Array TypeId}{e3:Bool}(hu:P.underlying T=some (.func e1 e2 e3))(d:Nat)(v:Value)(b:Bool)(h:(v = .nilFunc/\b=true)\/(∃f x y,v = .func f x y)/\b=false):(Op.equalIn (d+1) T v .nilFunc).run P w = .ok b w:=by rcases h with⟨rfl,rfl⟩ | ⟨⟨f,x,y,rfl⟩,rfl⟩<;>simp[Op.equalIn,run_underlying hu]
theorem amu{T e1 e2:TypeId}(hu:P.underlying T=some (.map e1 e2))(d:Nat)(r:Option Nat):(Op.equalIn (d+1) T (.map r) (.map none)).run P w = .ok r.isNone w:=by cases r<;>simp[Op.equalIn,run_underlying hu]
theorem WB{T e:TypeId}(hu:P.underlying T=some (.pointer e))(d:Nat)(r:Option Addr):(Op.equalIn (d+1) T (.pointer r) (.pointer none)).run P w = .ok r.isNone w:=by cases r<;>simp[Op.equalIn,run_underlying hu]
def OT:Value->Value->Bool
 | .slice _ _ _,.slice none _ _=>true
 | .func _ _ _,.nilFunc=>true
 | .nilFunc,.nilFunc=>true
 | .map _,.map none=>true
 | .pointer _,.pointer none=>true
 | _,_=>false
theorem akS{T:TypeId}{X Y:AV E}{ok b:Bool}(h:aot T X Y=some (ok,b))(hok:ok=true){vx vy:Value}(hx:aP E w ro ι vx X)(hy:aP E w ro ι vy Y):(Op.equal T vx vy).run P w = .ok b w/\OT vx vy=true:=by
 show(Op.equalIn (9999+1) T vx vy).run P w = .ok b w/\OT vx vy=true;unfold aot at h;split at h
 ·rename_i e hu;have hy:=hy.j6;subst hy;have go:∀(ad:Option Addr) (n cp:Nat),vx = .slice ad n cp->b=ad.isNone->(Op.equalIn (9999+1) T vx (.slice none 0 0)).run P w = .ok b w/\OT vx (.slice none 0 0)=true:=fun ad n cp e1 e2=>by
   subst e1;subst e2;exact⟨arx hu 9999 ad n cp,rfl⟩
  unfold aq6 at h;split at h
  ·cases h;exact go none 0 0 hx.j6 rfl
  ·rename_i t l;cases h;cases hx with
   | d _ _ hd =>obtain⟨ad,cap,rfl,hs⟩:=hd.rQ;grind
  ·rename_i t l id;cases h;cases hx with
   | grow gh _ _ _ h1 h2 h3 h4 hd =>obtain⟨ad,cap,hv,hs⟩:=hd.rQ;grind
  ·rename_i t n id;cases h;obtain⟨ad,cap,hv,hg⟩:=aye hx;obtain⟨g,rfl⟩:=hg (by simpa[Nat.blt_eq]using hok);exact go _ _ _ hv rfl
  ·cases h
 ·rename_i e1 e2 e3 hu;have hy:=hy.j6;subst hy;unfold aq7 at h;split at h
  ·cases h;have:=hx.j6;subst this;exact⟨YJ hu 9999 _ _ (.inl ⟨rfl,rfl⟩),rfl⟩
  ·cases h;have:=hx.j6;subst this;exact⟨YJ hu 9999 _ _ (.inr ⟨⟨_,_,_,rfl⟩,rfl⟩),rfl⟩
  ·cases h;cases hx with
   | fn=>exact⟨YJ hu 9999 _ _ (.inr ⟨⟨_,_,_,rfl⟩,rfl⟩),rfl⟩
  ·cases h
 ·rename_i e1 e2 hu;have hy:=hy.j6;subst hy;unfold aq8 at h;split at h
  ·cases h;have:=hx.j6;subst this;exact⟨amu hu 9999 none,rfl⟩
  ·cases h;cases hx with
   | mp gh g=>exact⟨amu hu 9999 (some g),rfl⟩
  ·cases h
 ·rename_i e1 hu;have hy:=hy.j6;subst hy;unfold aq9 at h;split at h
  ·cases h;have:=hx.j6;subst this;exact⟨WB hu 9999 none,rfl⟩
  ·cases h;cases hx with
   | ptr=>exact⟨WB hu 9999 (some _),rfl⟩
  ·cases h;cases hx with
   | kC=>exact⟨WB hu 9999 (some _),rfl⟩
  ·cases h;cases hx with
   | elt=>exact⟨WB hu 9999 (some _),rfl⟩
  ·cases h
 ·cases h
theorem auG(c:Ctx E S asm a w ι ro){o:Oper}{op:BinOp}{T T':TypeId}{x y:Operand}(ho:o.op = .binOp op T x y T'){r:Bool×AV E}(h:aou op T (bG S.tmps asm x) (bG S.tmps asm y)=some r)(hok:r.1=true):bK E o a w ι ro S.next (.test r.1 r.2):=by
 have hx:=c.get x;have hy:=c.get y;generalize gZ:a.eval x=vx at hx;generalize FQ:a.eval y=vy at hy;generalize bG S.tmps asm x=X at *;generalize bG S.tmps asm y=Y at *;unfold aou at h;split at h
 ·rename_i ok b hm hb;have hok':ok=true:=by
   grind
  obtain⟨hr,hp⟩:=akS hb hok' hx hy;split at h
  ·cases h;refine .pure c.aT c.fresh (val:=.bool b) ?_ rfl rfl (.d _ _ (.bool _));unfold OT at hp;split at hp<;>first | (cases hp;done) | simp[execOp,ho,gZ,FQ,eqGuard,binOp,hr]
  ·cases h;refine .pure c.aT c.fresh (val:=.bool !b) ?_ rfl rfl (.d _ _ (.bool _));unfold OT at hp;split at hp<;>first | (cases hp;done) | simp[execOp,ho,gZ,FQ,eqGuard,binOp,hr]
  ·cases h
 ·cases h
theorem akT(_:Ctx E S asm a w ι ro){o:Oper}{T:TypeId}{m i x:Operand}(_:o.op = .mapUpdate T m i x){u:Nat×aS E}(h:Qs S.objs T (bG S.tmps asm m) (bG S.tmps asm i) (bG S.tmps asm x)=some u):bK E o a w ι ro S.next ⟨true,.any,some u,none⟩:=by unfold Qs at h;cases h
theorem fP{α β:Type}{f:α->β}{x:Option α}{y:β}(h:x.map f=some y):∃z,x=some z/\f z=y:=by
 cases x with
 | none=>cases h
 | some z=>exact⟨z,rfl,by simpa using h⟩
theorem aho{α:Type}{as:Array α}{f:α->AV E}{x:AV E}(h:as.toList.map f=[x]):∃s,as = #[s]/\f s=x:=by
 obtain⟨l⟩:=as
 match l,h with
 | [s],h=>exact⟨s,rfl,by simpa using h⟩
theorem TW{α:Type}{as:Array α}{f:α->AV E}{x y:AV E}(h:as.toList.map f=[x,y]):∃s u,as = #[s,u]/\f s=x/\f u=y:=by
 obtain⟨l⟩:=as
 match l,h with
 | [s,u],h=>grind
theorem aoU(c:Ctx E S asm a w ι ro){o:Oper}{s:Operand}{ts:Array TypeId}(ho:o.op = .call { callee:=.builtin .unsafeSliceData,args:=#[s],argTypes:=ts }){t:E.Ty}{l:List (E.Den t)}{id:Nat}(hs:bG S.tmps asm s = .grow t l id)(hok:(!l.isEmpty)=true) :
  bK E o a w ι ro S.next (.test (!l.isEmpty) (.sd t l id)):=by
 have hv:=c.get s;rw[hs]at hv;generalize hvs:a.eval s=vs0 at hv;cases hv with
 | grow gh _ _ _ h1 hn he hsz hd =>
  obtain⟨ad,cap,hgv,hd'⟩:=hd.rQ;rcases hd' with rfl | ⟨g,off,rfl,hcap,_⟩
  ·cases hok
  ·have hc0:cap≠0:=by
    cases l with
    | nil=>cases hok
    | cons x r=>simp at hcap;omega
   refine .pure c.aT c.fresh (val:=.pointer (some ⟨g,off,none⟩)) ?_ rfl rfl (.sd gh t l id ⟨g,off,none⟩ cap h1 hgv hn he hsz hd);rw[hgv]at hvs;have hrun:=Lib.run_unsafeSliceData_row (P:=P) w ts o.type ⟨g,off,none⟩ l.length cap hc0;simp only[execOp,ho,resolve,invoke,builtin,Sem.run_bind,Sem.run_pure,Result.andThen_ok,am1,ae6,aha,hvs,hrun]
theorem akU(c:Ctx E S asm a w ι ro){o:Oper}{s:Operand}{ts:Array TypeId}(ho:o.op = .call { callee:=.builtin .unsafeSliceData,args:=#[s],argTypes:=ts })(hs:bG S.tmps asm s = .d (.raw (.slice none 0 0))) :
  bK E o a w ι ro S.next (.pure (.d (.raw (.pointer none)))):=by
 have hv:=c.get s;rw[hs]at hv;have hvs:=hv.j6;have hrun:=Lib.run_unsafeSliceData_nil (P:=P) w ts o.type 0 0;refine c.pure (val:=.pointer none) ?_ (.d _ _ (.raw _ rfl));simp only[execOp,ho,resolve,invoke,builtin,Sem.run_bind,Sem.run_pure,Result.andThen_ok,am1,ae6,aha,hvs,hrun]
theorem aoV(c:Ctx E S asm a w ι ro){o:Oper}{s u:Operand}{pt it:TypeId}(ho:o.op = .call { callee:=.builtin .unsafeString,args:=#[s,u],argTypes:=#[pt,it] }){n:Int}(hs:bG S.tmps asm s = .d (.raw (.pointer none)))(hu:bG S.tmps asm u = .d (.int .i64 n))(hok:(n==0)=true) :
  bK E o a w ι ro S.next (.test (n==0) (.d (.str []))):=by
 have hv:=c.get s;rw[hs]at hv;have hvs:=hv.j6;have hw:=c.get u;rw[hu]at hw;have hvu:=hw.tZ;have hn:=eq_of_beq hok;subst hn;have hrun:=Lib.run_unsafeString_none (P:=P) w pt it o.type none;refine .pure c.aT c.fresh (val:=.string .empty) ?_ rfl rfl (.d _ _ (.str []));simp only[execOp,ho,resolve,invoke,builtin,Sem.run_bind,Sem.run_pure,Result.andThen_ok,am1,ae6,aha,hvs,hvu,hrun]
theorem arz(_:Ctx E S asm a w ι ro){o:Oper}{s u:Operand}{pt it:TypeId}(_:o.op = .call { callee:=.builtin .unsafeString,args:=#[s,u],argTypes:=#[pt,it] }){t:E.Ty}{l:List (E.Den t)}{id:Nat}{n:Int}(_:bG S.tmps asm s = .sd t l id)(_:bG S.tmps asm u = .d (.int .i64 n))
  {r:gF E} (h:Z6 S.objs pt t l id n=some r) (_:r.ok=true):bK E o a w ι ro S.next r:=by
 unfold Z6 at h;cases h
theorem amv(c:Ctx E S asm a w ι ro){O:aI E}(hO:aL E O){o:Oper}{r:gF E}(h:kN O S asm o.op=some r)(hok:r.ok=true):bK E o a w ι ro S.next r:=by
 cases hop:o.op with
 | move x=>rw[hop]at h;cases h;exact adX c (.inl hop)
 | assign x=>rw[hop]at h;cases h;exact adX c (.inr hop)
 | pick x y z=>rw[hop]at h;obtain⟨q,hq,rfl⟩:=fP h;exact ark c hop hq
 | alloc T =>
  rw[hop]at h;simp only[kN]at h;split at h
  ·rename_i cs hcs;split at h
   ·rename_i hk;cases h;exact aoA c hop hcs hk O
   ·cases h
  ·cases h
 | box T x =>
  rw[hop]at h;simp only[kN]at h;split at h
  ·rename_i cs hcs;cases h;exact auw c hop hcs
  ·cases h
 | build T ps=>rw[hop]at h;obtain⟨q,hq,rfl⟩:=fP h;exact aoE c hop hq
 | buildSlice T n ps =>
  rw[hop]at h;simp only[kN]at h;split at h
  ·rename_i q hq;cases h;exact aal c hop hq
  ·split at h
   ·rename_i q hq;cases h;exact aag c hop hq
   ·exact afs c hop h
 | makeFunc f x y =>
  rw[hop]at h;simp only[kN]at h;split at h
  ·cases h;exact aft c hop
  ·cases h
 | load T x =>
  rw[hop]at h;simp only[kN]at h;split at h
  ·rename_i q hq;cases h;exact arj c hop hq
  ·obtain⟨q,hq,rfl⟩:=fP h;exact aoC c hop hq hok
 | store T x y =>
  rw[hop]at h;simp only[kN]at h;split at h
  ·rename_i u hu;cases h;exact aae c hop hu
  ·split at h
   ·rename_i ok u hu;cases h;exact akL c hop hu hok
   ·cases h
 | nilCheck x =>
  rw[hop]at h;simp only[kN]at h;have hx:=c.get x;generalize gZ:a.eval x=vx at hx;split at h
  ·rename_i id off hg;cases h;rw[hg]at hx;cases hx with
   | ptr gh g _ _ hi hgv=>exact c.pure (val:=.pointer (some ⟨g,off,none⟩)) (by simp[execOp,hop,gZ]) (.ptr gh g id off hi hgv)
  ·rename_i cs hg;cases h;rw[hg]at hx;cases hx with
   | kC g off f _ h1 h2=>exact c.pure (val:=.pointer (some ⟨g,off,none⟩)) (by simp[execOp,hop,gZ]) (.kC g off f _ h1 h2)
  ·rename_i id i off hg;cases h;rw[hg]at hx;cases hx with
   | elt gh g _ _ _ cap hi hgv hlt=>exact c.pure (val:=.pointer (some ⟨g,i*gh.sz+off,none⟩)) (by simp[execOp,hop,gZ]) (.elt gh g id i off cap hi hgv hlt)
  ·rename_i f p q hg;cases h;rw[hg]at hx;cases hx with
   | fn _ vs us _ _ h1 h2 h3 h4=>exact c.pure (val:=.func (.func f) vs us) (by simp[execOp,hop,gZ]) (.fn f vs us p q h1 h2 h3 h4)
  ·cases h
 | makeSlice T n m=>rw[hop]at h;exact arv c hop h hok
 | makeMap T n =>
  rw[hop]at h;cases n with
  | none=>exact ahm c hop h
  | some _=>cases h
 | mapUpdate T m i x =>
  rw[hop]at h;simp only[kN]at h;split at h
  ·rename_i u hu;cases h;exact akT c hop hu
  ·cases h
 | lookup T x i ok =>
  rw[hop]at h;simp only[kN]at h;split at h
  ·rename_i q hq;cases h;exact akR c hop hq
  ·obtain⟨q,hq,rfl⟩:=fP h;exact ahn c hop hq
 | binOp op T x y T' =>
  rw[hop]at h;simp only[kN]at h;split at h
  ·rename_i q hq;cases h;exact auz c hop hq hok
  ·split at h
   ·rename_i q hq;cases h;exact aoH c hop hq hok
   ·obtain⟨q,hq,rfl⟩:=fP h;exact auG c hop hq hok
 | unOp op T x=>rw[hop]at h;obtain⟨q,hq,rfl⟩:=fP h;exact aya c hop hq hok
 | convert s d x=>rw[hop]at h;obtain⟨q,hq,rfl⟩:=fP h;exact arq c hop hq hok
 | fieldAddr s x f=>rw[hop]at h;obtain⟨q,hq,rfl⟩:=fP h;exact aoF c hop hq
 | field s x f=>rw[hop]at h;obtain⟨q,hq,rfl⟩:=fP h;exact akM c hop hq
 | indexAddr T x i =>
  rw[hop]at h;simp only[kN]at h;split at h
  ·rename_i q hq;cases h;exact acg c hop hq hok
  ·split at h
   ·rename_i q hq;cases h;exact afq c hop hq hok
   ·obtain⟨q,hq,rfl⟩:=fP h;exact afr c hop hq hok
 | index T x i =>
  rw[hop]at h;simp only[kN]at h;split at h
  ·rename_i q hq;cases h;exact aoG c hop hq hok
  ·obtain⟨q,hq,rfl⟩:=fP h;exact akN c hop hq hok
 | slice T x l hh m =>
  rw[hop]at h;simp only[kN]at h;split at h
  ·rename_i q hq;cases h;exact aoI c hop hq hok
  ·split at h
   ·rename_i q hq;cases h;exact akO c hop hq hok
   ·obtain⟨q,hq,rfl⟩:=fP h;exact akP c hop hq hok
 | extract x i=>rw[hop]at h;obtain⟨q,hq,rfl⟩:=fP h;exact ahd c hop hq
 | call cl =>
  rw[hop]at h;obtain⟨callee,as,ts⟩:=cl;simp only[kN]at h;split at h
  ·rename_i Br;split at h
   ·rename_i x T hx hT;obtain⟨q,hq,rfl⟩:=fP h;obtain⟨s,rfl,rfl⟩:=aho hx;exact auA c hop hT hq
   ·cases h
  ·rename_i Br;split at h
   ·rename_i s x T T' hsx OU;split at h
    ·rename_i hb;have hb:=aax hb;subst hb;obtain⟨s',x',rfl,rfl,rfl⟩:=TW hsx;obtain rfl:ts = #[T,T]:=by obtain⟨l⟩:=ts;simp at OU;simp[OU]
     exact akQ c hop h hok
    ·obtain⟨s',x',rfl,rfl,rfl⟩:=TW hsx;obtain rfl:ts = #[T,T']:=by obtain⟨l⟩:=ts;simp at OU;simp[OU]
     exact ahj c hop h hok
   ·cases h
  ·rename_i Br;split at h
   ·rename_i t l id hx;cases h;obtain⟨s,rfl,hs⟩:=aho hx;exact aoU c hop hs hok
   ·rename_i hx;cases h;obtain⟨s,rfl,hs⟩:=aho hx;exact akU c hop hs
   ·cases h
  ·rename_i Br;split at h
   ·rename_i t l id n pt it hx hT;obtain⟨s,u,rfl,hs,hu⟩:=TW hx;obtain rfl:ts = #[pt,it]:=by obtain⟨l⟩:=ts;simp at hT;simp[hT]
    exact arz c hop hs hu h hok
   ·rename_i n pt it hx hT;cases h;obtain⟨s,u,rfl,hs,hu⟩:=TW hx;obtain rfl:ts = #[pt,it]:=by obtain⟨l⟩:=ts;simp at hT;simp[hT]
    exact aoV c hop hs hu hok
   ·cases h
  ·rename_i Br;split at h
   ·rename_i m n hx;cases h;obtain⟨s,rfl,hs⟩:=aho hx;have hv:=c.get s;rw[hs]at hv;obtain⟨x1,x2,e1,h1,h2⟩:=hv.Wy;exact c.pure (val:=.float .f64 x1) (by simp only[execOp,hop,resolve,invoke,builtin,Sem.run_bind,Sem.run_pure,Result.andThen_ok,am1,ae6,aha,e1];rfl) (.d _ _ (.flt _ _ h1))
   ·cases h
  ·rename_i Br;split at h
   ·rename_i m n hx;cases h;obtain⟨s,rfl,hs⟩:=aho hx;have hv:=c.get s;rw[hs]at hv;obtain⟨x1,x2,e1,h1,h2⟩:=hv.Wy;exact c.pure (val:=.float .f64 x2) (by simp only[execOp,hop,resolve,invoke,builtin,Sem.run_bind,Sem.run_pure,Result.andThen_ok,am1,ae6,aha,e1];rfl) (.d _ _ (.flt _ _ h2))
   ·cases h
  ·rename_i Br;split at h
   ·rename_i m n hx;cases h;obtain⟨s,u,rfl,hs,hu⟩:=TW hx;have hv:=c.get s;rw[hs]at hv;have hv2:=c.get u;rw[hu]at hv2;obtain⟨x1,e1,h1⟩:=hv.KS;obtain⟨x2,e2,h2⟩:=hv2.KS;exact c.pure (val:=.complex .f64 x1 x2) (by simp only[execOp,hop,resolve,invoke,builtin,Sem.run_bind,Sem.run_pure,Result.andThen_ok,am1,ae6,aha,e1,e2];rfl) (.d _ _ (.FI _ _ _ _ h1 h2))
   ·cases h
  ·rename_i Br;split at h
   ·rename_i s x T T' hsx OU;split at h
    ·rename_i hb;have hb:=aax hb;subst hb;obtain⟨s',x',rfl,rfl,rfl⟩:=TW hsx;obtain rfl:ts = #[T,T]:=by obtain⟨l⟩:=ts;simp at OU;simp[OU]
     exact arw c hop h
    ·cases h
   ·cases h
  ·rename_i Br;split at h
   ·rename_i s x T T' hsx OU;obtain⟨q,hq,rfl⟩:=fP h;obtain⟨s',x',rfl,rfl,rfl⟩:=TW hsx;obtain rfl:ts = #[T,T']:=by obtain⟨l⟩:=ts;simp at OU;simp[OU]
    exact ahl (big:=false) c hop hq
   ·cases h
  ·rename_i Br;split at h
   ·rename_i s x T T' hsx OU;obtain⟨q,hq,rfl⟩:=fP h;obtain⟨s',x',rfl,rfl,rfl⟩:=TW hsx;obtain rfl:ts = #[T,T']:=by obtain⟨l⟩:=ts;simp at OU;simp[OU]
    exact ahl (big:=true) c hop hq
   ·cases h
  ·rename_i lu;split at h
   ·rename_i f hf;have hfo:a.eval lu = .func (.func f) #[] #[]:=by
     unfold Ww at hf;split at hf
     ·cases hf;rfl
     ·unfold funcOf at hf;split at hf
      ·rename_i heq;cases hf;have hx:=c.get lu;rw[heq]at hx;exact hx.j6
      ·cases hf
    split at h
    ·rename_i q hq;cases h;exact aak c hO (by simp[cu]) (args_at c as) (Hr hop hfo) hq hok
    split at h
    ·rename_i q hq;cases h;exact aoQ c hO hop hfo hq hok
    split at h
    ·rename_i q hq;cases h;exact aoR c hO hop hfo hq hok
    split at h
    ·rename_i q hq;cases h;exact aoS c hO hop hfo hq hok
    split at h
    ·rename_i q hq;cases h;exact aoT c hO hop hfo hq hok
    split at h
    ·rename_i q hq;cases h;exact aoN c hO hop hfo hq hok
    ·split at h
     ·rename_i q hq;cases h;exact aoL c hO hop hfo hq hok
     ·split at h
      ·rename_i q hq;cases h;exact aoP c hO hop hfo hq hok
      ·split at h
       ·rename_i q hq;cases h;exact aoK c hO hop hfo hq hok
       ·exact aru c hO hop hfo h hok
   ·split at h
    ·rename_i f p q hg;have hx:=c.get lu;rw[hg]at hx;generalize hv:a.eval lu=vx at hx;cases hx with
     | fn _ vs us _ _ h1 h2 h3 h4 =>exact aak c hO (by simp[cu,h1,h2]) (WA (by simpa using h1) (fun j v x hv hx=>h3 j v x (by simpa using hv) hx) (WA (by simp[cu]) (args_at c as) fun j v x hv hx=>h4 j v x (by simpa using hv) hx)) (ahk hop hv) h hok
    ·cases h
  ·cases h
 | _=>rw[hop]at h;cases h
end
end
end Go.Proofs.YtclnniijooeajaaGreatDoor.bA
namespace Go.Proofs.YtclnniijooeajaaGreatDoor.bA
open Go Go.RowKit
section
section
variable {P:Program} {E:Env P}
def guardOf(tm:List (Nat×AV E)):Nat->Nat->Bool->Option (Bool×List (Nat×Bool))
 | 0,_,_=>none
 | f+1,gs,want=>match look tm gs with
  | some (.d (.bool b))=>some (bif want then b else !b,[(gs,want)])
  | some (.cond j w (.d (.bool b)))=>match guardOf tm f j w with
   | some (b',asm)=>some (b'&&(bif want then b else !b),(gs,want)::asm)
   | none=>none
  | _=>none
def agr(ops:Array Oper)(j:Nat):Option Nat:=(ops[j]?).bind (·.dst)
def d9:AV E->Bool
 | .cond _ _ _=>true
 | _=>false
def evG(O:aI E)(ops:Array Oper)(S:av E)(o:Oper):Option (gF E):=match o.guard with
 | none=>match kN O S [] o.op with
  | some r=>bif d9 r.v then none else some r
  | none=>none
 | some (j,want)=>match agr ops j with
  | none=>none
  | some gs=>match guardOf S.tmps 8 gs want with
   | none=>none
   | some (b,asm)=>match kN O S asm o.op with
    | some ⟨ok,v,none,none⟩=>some ⟨ok || !b,.cond gs want v,none,none⟩
    | _=>none
def NG(objs:List (Nat×aS E))(dY:Nat)(r:gF E):List (Nat×aS E) :=
 (match r.new with | some o=>[(dY,o)] | none=>[])++((match r.upd with | some u=>[u] | none=>[])++objs)
def JN(d:Option Nat)(v:AV E)(loc:List (Nat×AV E)):List (Nat×AV E):=match d with
 | some d=>(d,v)::loc
 | none=>loc
def sw:List (Nat×AV E)->List (Nat×AV E)
 | []=>[]
 | (t,x)::r=>bif d9 x then(t,.any)::sw r else(t,x)::sw r
def Ei(d:Nat):List (Nat×AV E)->Bool
 | []=>true
 | (_,.cond j _ _)::r=>(!Nat.beq j d)&&Ei d r
 | _::r=>Ei d r
def Qw(n:Nat)(d:Option Nat)(loc:List (Nat×AV E)):Bool:=match d with
 | none=>true
 | some d=>Nat.blt d n&&Ei d loc
def aoW(I:Inl E)(S:av E)(o:Oper):Option (FuncId×List (AV E)):=match o.guard,o.op with
 | none,.call c=>(match c.callee with
  | .value x=>(match Ww (bG S.tmps []) x with
   | some f=>bif I.has f then some (f,cu S.tmps [] c.args)else none
   | none=>(match bG S.tmps [] x with
    | .fn f p q=>bif I.has f then some (f,p++(cu S.tmps [] c.args++q))else none
    | _=>none))
  | _=>none)
 | _,_=>none
def ng{R:Type}(O:aI E)(ops:Array Oper)(n:Nat)(glob:List (Nat×AV E)):List Oper->List (Nat×AV E)->List (Nat×aS E)->Nat->(av E->Option R)->Option R
 | [],loc,objs,next,k=>k ⟨n,sw loc++glob,objs,next⟩
 | o::rest,loc,objs,next,k=>match aoW O.inl ⟨n,loc++glob,objs,next⟩ o with
  | some (f,args)=>O.inl.run f args objs next fun v mY next'=>match Qw n o.dst ((0,v)::loc) && !(d9 v)with
   | true=>ng O ops n glob rest (JN o.dst v loc) mY next' k
   | false=>none
  | none=>match evG O ops ⟨n,loc++glob,objs,next⟩ o with
   | some r=>match Qw n o.dst ((0,r.v)::loc)with
    | true=>bif r.ok then ng O ops n glob rest (JN o.dst r.v loc) (NG objs next r) (next+1) k else none
    | false=>none
   | none=>none
def aR(tm:List (Nat×AV E)):Prop:=∀p∈tm,d9 p.2=false
end
section
variable {P:Program} {E:Env P} {w w':World} {ro ro':Nat->Nat->Prop} {ι ι':Nat->Option Gh} {S:av E} {asm:List (Nat×Bool)} {a:Act}
theorem ni{α:Type}:∀(l m:List (Nat×α)) (i:Nat),look (l++m) i=(match look l i with | some x=>some x | none=>look m i)
 | [],m,i=>rfl
 | (j,x)::l,m,i=>by
  simp only[ae0,aX];split
  ·rfl
  ·exact ni l m i
theorem jW{α:Type}:∀(l:List (Nat×α)) (i:Nat) (x:α),look l i=some x->(i,x)∈l
 | [],i,x,h=>by cases h
 | (j,y)::l,i,x,h=>by
  rw[aX]at h;split at h
  ·rename_i hj;have:=aax hj;grind
  ·exact aa6 _ (jW l i x h)
theorem TY{x:Option (gF E)}{r:gF E}(h:(match x with | some r=>bif d9 r.v then none else some r | none=>none)=some r):x=some r/\d9 r.v=false:=by grind
theorem Sj{tm:List (Nat×AV E)}(ht:xR E w ro ι a tm):∀(f gs:Nat) (want:Bool) (b:Bool) (asm:List (Nat×Bool)),guardOf tm f gs want=some (b,asm)->a.tmps[gs]? = some (.bool want)->b=true/\Wx a asm
 | 0,_,_,_,_,h,_=>by cases h
 | f+1,gs,want,b,asm,h,hw=>by
  unfold guardOf at h;split at h
  ·rename_i b0 hl;cases h;obtain⟨v,hv,hr⟩:=ht gs _ hl;have e1:v = .bool b0:=aP.sj hr;rw[hw,e1]at hv;cases hv;refine⟨by cases want<;>rfl,fun j b' hb=>?_⟩;simp only[uD,Bool.or_false,abG]at hb;have e2:=aax hb.1;grind
  ·rename_i j w0 b0 hl;split at h
   ·rename_i b' aFd hg;cases h;obtain⟨v,hv,hr1,hr2⟩:=ht gs _ hl;rw[hw]at hv;cases hv;have hj:a.tmps[j]? = some (.bool w0):=by
     by_cases h:a.tmps[j]? = some (.bool w0)
     ·exact h
     ·exact absurd (hr2 h) (by simp[undef])
    have e1:=aP.sj (hr1 hj);cases e1;obtain⟨h1,h2⟩:=Sj ht f j w0 b' aFd hg hj;refine⟨by rw[h1];cases want<;>rfl,YB h2 hw⟩
   ·cases h
  ·cases h
def ahp(E:Env P)(w':World)(ro':Nat->Nat->Prop)(ι':Nat->Option Gh)(a:Act)(val:Value)(x:AV E):Prop :=
 ∀tm:Array Value,(∀gs want u,x = .cond gs want u->tm[gs]? = a.tmps[gs]?)->Cr E w' ro' ι' tm val x
theorem gT.aAp{dY:Nat}{r:gF E}{val:Value}(h:gT E w w' ι ι' ro ro' dY r val):gT E w w' ι ι' ro ro' dY { r with v:=.any } val where
 os:=h.os
 tape:=h.tape
 output:=h.output
 size:=h.size
 frame:=h.frame
 cell:=h.cell
 mono:=h.mono
 aT:=h.aT
 fresh:=h.fresh
 lF:=h.lF
 qR:=h.qR
 oz:=h.oz
 upd:=h.upd
 new:=h.new
 val:=.any _
theorem ad9(kP:∀k o,ro k o->k<w.heap.size)(M7:xR E w ro ι a S.tmps)(M5:∀(id:Nat) o,look S.objs id=some o->kr E w ro ι id o)(hfresh:ι S.next=none)
  {O:aI E} (hO:aL E O) {ops:Array Oper} {o:Oper} {r:gF E} (h:evG O ops S o=some r) (hok:r.ok=true) {K:Act->World->Prop} {Q:Exit->Act->World->Prop}
  (hK:∀val w' ι' ro',gT E w w' ι ι' ro ro' S.next { r with v:=.any } val->ahp E w' ro' ι' a val r.v->K (a.put o.dst val) w') :
  if Region.wanted o (yielded ops a.tmps)=true then o.wp P a w K Q else K (a.put o.dst undef) w:=by
 unfold evG at h;split at h
 ·rename_i hg;have h:=(TY h).1;have hw:Region.wanted o (yielded ops a.tmps)=true:=by simp[Region.wanted,hg]
  rw[if_pos hw];have c:Ctx E S [] a w ι ro:=⟨M7,fun j b hb=>by simp[uD]at hb,kP,M5,hfresh⟩
  refine(amv c hO h hok).wp fun val w' ι' ro' hp=>hK val w' ι' ro' hp.aAp fun tm M7=>?_
  have hv:=hp.val;generalize r.v=x at hv M7;cases hv with
  | any _=>exact .any _
  | d _ c h=>exact .d _ c h
  | st vs t x ha h=>exact .st vs t x ha h
  | agg vs cs h1 h2=>exact .agg vs cs h1 h2
  | uz vs cs h1 h2=>exact .uz vs cs h1 h2
  | grow gh t l id h1 h2 h3 h4 h5=>exact .grow gh t l id h1 h2 h3 h4 h5
  | ptr gh g id off h1 h2=>exact .ptr gh g id off h1 h2
  | kC g off f cs h1 h2=>exact .kC g off f cs h1 h2
  | row gh t id ad cap h1 h2 h3 h4 h5=>exact .row gh t id ad cap h1 h2 h3 h4 h5
  | elt gh g id i off cap h1 h2 h3=>exact .elt gh g id i off cap h1 h2 h3
  | fn f vs us a b h1 h2 h3 h4=>exact .fn f vs us a b h1 h2 h3 h4
  | FJ gh g id n cap h1 h2=>exact .FJ gh g id n cap h1 h2
  | mp gh g id h1 h2=>exact .mp gh g id h1 h2
  | yl gh l id h1 h2=>exact .yl gh l id h1 h2
  | mk gh _ g T id h1 h2 h3 h4=>exact .mk gh _ g T id h1 h2 h3 h4
  | sd gh t l id ad cap h1 h2 h3 h4 h5 h6=>exact .sd gh t l id ad cap h1 h2 h3 h4 h5 h6
 ·rename_i j want hg;split at h
  ·cases h
  ·rename_i gs hgs;split at h
   ·cases h
   ·rename_i b asm hguard;split at h
    ·rename_i ok v hop;cases h;by_cases hw:a.tmps[gs]? = some (.bool want)
     ·have hwant:Region.wanted o (yielded ops a.tmps)=true:=by
       unfold agr at hgs;simp[Region.wanted,hg,yielded,hgs,hw]
      rw[if_pos hwant];obtain⟨hb,aoX⟩:=Sj M7 _ _ _ _ _ hguard hw;subst hb;have hok':ok=true:=by simpa using hok
      have c:Ctx E S asm a w ι ro:=⟨M7,aoX,kP,M5,hfresh⟩
      refine(amv c hO hop hok').wp fun val w' ι' ro' hp=>hK val w' ι' ro' ?_ fun tm auH=>?_
      ·have:=hp.aAp;grind
      ·have e:=auH gs want v rfl;refine⟨fun _=>hp.val,fun hne=>?_⟩;rw[e]at hne;exact absurd hw hne
     ·have hwant:¬ Region.wanted o (yielded ops a.tmps)=true:=by
       unfold agr at hgs;simp only[Region.wanted,hg,yielded,hgs,Option.bind_some];grind
      rw[if_neg hwant];refine hK undef w ι ro (.pure rfl rfl kP hfresh (.any _)) fun tm auH=>?_
      have e:=auH gs want v rfl;refine⟨fun hc=>?_,fun _=>rfl⟩;rw[e]at hc;exact absurd hc hw
    ·cases h
theorem tL.frame{gh:Gh}{xs:List Value}(h:tL w gh xs)(hf:∀g,gh.blk=some g->w'.heap[g]? = w.heap[g]?):tL w' gh xs:=by
 rcases h with⟨⟨h1,h2⟩,hb⟩ | h
 ·refine .inl ⟨⟨h1,?_⟩,hb⟩;rcases h2 with hn | ⟨g,cap,cur,hv,hb',hg,rest⟩
  ·exact .inl hn
  ·have hblk:gh.blk=some g:=by rw[hb,hv];rfl
   grind
 ·exact .inr h
theorem kr.step{objs:List (Nat×aS E)}{dY:Nat}{r:gF E}{val:Value}(hp:gT E w w' ι ι' ro ro' dY r val)(hfresh:ι dY=none)(hinj:Inj E objs ι)(vY:∀id o,r.upd=some (id,o)->∃o',look objs id=some o'/\o'.live=true)
  (hilt:∀id gh k,ι id=some gh->gh.blk=some k->k<w.heap.size) {id:Nat} {o:aS E} (hl:look objs id=some o) (hid:id≠dY) (hne:∀o',r.upd≠some (id,o')) (h:kr E w ro ι id o):kr E w' ro' ι' id o:=by
 have hext:∀id gh,ι id=some gh->ι' id=some gh:=by intro i gh hi;rw[hp.lF i (fun e=>by subst e;rw[hfresh]at hi;cases hi)];exact hi
 have mono:∀(v:Value) (x:AV E),aP E w ro ι v x->aP E w' ro' ι' v x:=fun v x h=>h.mono hp.mono hp.cell hext
 have Qx:o.live=true->∀gh k,ι id=some gh->gh.blk=some k->(∀id' o' bD,r.upd=some (id',o')->ι id'=some bD->bD.blk≠some k):=by intro hlive gh k hgh hk id' o' bD hu Qy hk';obtain⟨o'',hl'',ayf⟩:=vY id' o' hu;have:=hinj id id' o o'' gh bD k hl hl'' hlive ayf hgh Qy hk hk';subst this;exact hne o' hu
 cases o with
 | dead=>trivial
 | box cs =>
  obtain⟨gh,g,vs,e,hi,hgv,hblk,hh,hsz,hcell,iy,hge⟩:=h;have aci:=hilt id gh g hi hblk;have hd:=Qx rfl gh g hi hblk;refine⟨gh,g,vs,e,hext _ _ hi,hgv,hblk,(hp.frame g aci hd).trans hh,hsz,fun j v c hv hc=>⟨(hcell j v c hv hc).1,mono _ _ (hcell j v c hv hc).2⟩,fun o hr=>?_,hge⟩;rcases hp.fresh g o hr with h | h | ⟨id',o',bD,hu,Qy,hk'⟩
  ·exact iy o h
  ·omega
  ·exact hd id' o' bD hu Qy hk'
 | tail live =>
  intro hlive;obtain⟨gh,xs,hi,hown,iy⟩:=h hlive;have hd:=fun k hk=>Qx hlive gh k hi hk
  refine⟨gh,xs,hext _ _ hi,?_,fun g hg o ho hr=>?_⟩
  ·exact hown.frame fun g hg=>hp.frame g (hilt id gh g hi hg) (hd g hg)
  ·rcases hp.fresh g o hr with h | h | ⟨id',o',bD,hu,Qy,hk'⟩
   ·exact iy g hg o ho h
   ·have:=hilt id gh g hi hg;omega
   ·exact hd g hg id' o' bD hu Qy hk'
 | arr t l fz =>
  obtain⟨hagg,gh,g,vs,e,hi,hgv,hblk,hh,hsz,hcell,iy,hge⟩:=h;have aci:=hilt id gh g hi hblk;have hd:=Qx rfl gh g hi hblk;refine⟨hagg,gh,g,vs,e,hext _ _ hi,hgv,hblk,(hp.frame g aci hd).trans hh,hsz,fun j v c hv hc=>⟨(hcell j v c hv hc).1,mono _ _ (hcell j v c hv hc).2⟩,⟨fun hf o hr=>?_,fun hf o ho=>hp.mono _ _ (iy.2 hf o ho)⟩,hge⟩;rcases hp.fresh g o hr with h | h | ⟨id',o',bD,hu,Qy,hk'⟩
  ·exact iy.1 hf o h
  ·omega
  ·exact hd id' o' bD hu Qy hk'
 | Ji =>obtain⟨gh,g,hi,hblk,hh⟩:=h;exact⟨gh,g,hext _ _ hi,hblk,(hp.frame g (hilt id gh g hi hblk) (Qx rfl gh g hi hblk)).trans hh⟩
 | lp st pend n tm ps assign body =>
  obtain⟨gh,g,rec,hi,hblk,hh,hrec,M7⟩:=h;exact⟨gh,g,rec,hext _ _ hi,hblk,(hp.frame g (hilt id gh g hi hblk) (Qx rfl gh g hi hblk)).trans hh,hrec,fun t x hl=>by obtain⟨v,q1,q2⟩:=M7 t x hl;exact⟨v,q1,mono _ _ q2⟩⟩
 | mp K V l =>
  obtain⟨gh,g,es,hi,hgv,hblk,hh,hsz,hent⟩:=h;exact⟨gh,g,es,hext _ _ hi,hgv,hblk,(hp.frame g (hilt id gh g hi hblk) (Qx rfl gh g hi hblk)).trans hh,hsz,fun j e x he hx=>by obtain⟨k1,k2,k3,k4⟩:=hent j e x he hx;exact⟨k1,k2,k3,fun i v c hv hc=>⟨(k4 i v c hv hc).1,mono _ _ (k4 i v c hv hc).2⟩⟩⟩
 | row t l =>
  obtain⟨gh,xs,hi,hn,hge,hgs,hown,hrow,iy⟩:=h;have hd:=fun k hk=>Qx rfl gh k hi hk
  refine⟨gh,xs,hext _ _ hi,hn,hge,hgs,hown.frame fun g hg=>hp.frame g (hilt id gh g hi hg) (hd g hg),hrow.mono hp.mono hp.cell,fun g hg o hr=>?_⟩;rcases hp.fresh g o hr with h | h | ⟨id',o',bD,hu,Qy,hk'⟩
  ·exact iy g hg o h
  ·have:=hilt id gh g hi hg;omega
  ·exact hd g hg id' o' bD hu Qy hk'
theorem T9{objs:List (Nat×aS E)}{dY:Nat}{T:TypeId}{s x:AV E}{r:gF E}(h:Eh objs dY T s x=some r){id:Nat}{ob:aS E}(hu:r.upd=some (id,ob)):∃o',look objs id=some o'/\o'.live=true:=by
 unfold Eh at h;split at h
 ·split at h
  ·split at h
   ·split at h
    ·cases h;cases hu
    ·split at h
     ·rename_i hc bX;cases h;cases hu;exact⟨_,bX,rfl⟩
     ·cases h
    ·split at h
     ·rename_i t' l1 bX;split at h
      ·cases h;cases hu;exact⟨_,bX,rfl⟩
      ·cases h
     ·cases h
    ·cases h
   ·cases h
  ·cases h
 ·cases h
theorem auI{O:aI E}{S:av E}{asm:List (Nat×Bool)}{o:Op}{r:gF E}(h:kN O S asm o=some r){id:Nat}{ob:aS E}(hu:r.upd=some (id,ob)):∃o',look S.objs id=some o'/\o'.live=true:=by
 cases o with
 | store T x y =>
  simp only[kN]at h;split at h
  ·rename_i u hu';cases h;cases hu;unfold Hl at hu';split at hu'
   ·rename_i id' off hx;split at hu'
    ·rename_i cs bX;split at hu'
     ·split at hu'
      ·cases hu';exact⟨_,bX,rfl⟩
      ·cases hu'
     ·cases hu'
    ·cases hu'
   ·split at hu'
    ·rename_i t l bX;split at hu'
     ·split at hu'
      ·split at hu'
       ·split at hu'
        ·cases hu';exact⟨_,bX,rfl⟩
        ·cases hu'
       ·cases hu'
      ·cases hu'
     ·cases hu'
    ·cases hu'
   ·cases hu'
  ·split at h
   ·rename_i ok u hu';cases h;cases hu;unfold Qm at hu';split at hu'
    ·split at hu'
     ·rename_i bX;split at hu'
      ·split at hu'
       ·split at hu'
        ·cases hu';exact⟨_,bX,rfl⟩
        ·cases hu'
       ·cases hu'
      ·cases hu'
     ·cases hu'
    ·cases hu'
   ·cases h
 | lookup T x i ok =>
  simp only[kN]at h;split at h
  ·cases h;cases hu
  ·obtain⟨q,hq,rfl⟩:=fP h;cases hu
 | mapUpdate T m i x =>
  simp only[kN]at h;split at h
  ·rename_i u hu';cases h;cases hu;unfold Qs at hu';cases hu'
  ·cases h
 | makeMap T n =>
  cases n with
  | none =>simp only[kN]at h;unfold MZ at h;cases h
  | some _=>cases h
 | makeSlice T n c =>simp only[kN]at h;unfold Z8 at h;cases h
 | call cl =>
  obtain⟨callee,as,ts⟩:=cl;simp only[kN]at h;split at h
  ·split at h
   ·obtain⟨q,hq,rfl⟩:=fP h;cases hu
   ·cases h
  ·split at h
   ·split at h
    ·exact T9 h hu
    ·unfold MX at h;split at h
     ·split at h
      ·split at h
       ·split at h
        ·exact T9 h hu
        ·cases h
       ·cases h
      ·cases h
     ·cases h
   ·cases h
  ·split at h
   ·cases h;cases hu
   ·cases h;cases hu
   ·cases h
  ·split at h
   ·unfold Z6 at h;cases h
   ·cases h;cases hu
   ·cases h
  ·split at h
   ·cases h;cases hu
   ·cases h
  ·split at h
   ·cases h;cases hu
   ·cases h
  ·split at h
   ·cases h;cases hu
   ·cases h
  ·split at h
   ·split at h
    ·unfold Z9 at h;cases h
    ·cases h
   ·cases h
  ·split at h
   ·obtain⟨q,hq,rfl⟩:=fP h;cases hu
   ·cases h
  ·split at h
   ·obtain⟨q,hq,rfl⟩:=fP h;cases hu
   ·cases h
  ·split at h
   ·rename_i f hf;split at h
    ·rename_i q hq;cases h;rw[(ad8 hq).1]at hu;cases hu
    split at h
    ·rename_i q hq;cases h;unfold Wn at hq;split at hq
     ·cases hq
     ·split at hq
      ·split at hq
       ·rename_i bX;split at hq
        ·split at hq
         ·split at hq
          ·cases hq;cases hu;exact⟨_,bX,rfl⟩
          ·cases hq
         ·cases hq
        ·cases hq
       ·cases hq
      ·cases hq
    split at h
    ·rename_i q hq;cases h;unfold Wj at hq;cases hq
    split at h
    ·rename_i q hq;cases h;unfold Wu at hq;cases hq
    split at h
    ·rename_i q hq;cases h;unfold Wv at hq;split at hq
     ·split at hq
      ·rename_i t l bX;split at hq
       ·split at hq
        ·cases hq;cases hu;exact⟨_,bX,rfl⟩
        ·cases hq;cases hu;exact⟨_,bX,rfl⟩
        ·cases hq
       ·cases hq
      ·cases hq
     ·split at hq
      ·split at hq
       ·split at hq
        ·split at hq
         ·cases hq;cases hu
         ·cases hq
        ·cases hq
       ·cases hq
      ·cases hq
     ·cases hq
    split at h
    ·rename_i q hq;cases h;unfold Wq at hq;split at hq
     ·split at hq
      ·split at hq
       ·split at hq
        ·cases hq;cases hu
        ·cases hq
       ·cases hq
      ·cases hq
     ·cases hq
    ·split at h
     ·rename_i q hq;cases h;unfold Wo at hq;cases hq
     split at h
     ·rename_i q hq;cases h;unfold Ws at hq;split at hq
      ·split at hq
       ·split at hq
        ·cases hq;cases hu
        ·cases hq
       ·cases hq
      ·cases hq
     split at h
     ·rename_i q hq;cases h;unfold Wt at hq;cases hq
     ·unfold Z7 at h;split at h
      ·rename_i xs hxs;cases hfr:O.KR f with
       | true =>
        rw[hfr]at h;simp only[cond_true]at h;split at h
        ·cases h;cases hu
        ·cases h
       | false =>
        rw[hfr]at h;simp only[cond_false]at h;split at h
        ·cases h;cases hu
        ·cases h
      ·cases h
   ·split at h
    ·rw[(ad8 h).1]at hu;cases hu
    ·cases h
  ·cases h
 | alloc T =>
  simp only[kN]at h;split at h
  ·split at h
   ·cases h;cases hu
   ·cases h
  ·cases h
 | box T x =>
  simp only[kN]at h;split at h
  ·cases h;cases hu
  ·cases h
 | nilCheck x =>
  simp only[kN]at h;split at h
  ·cases h;cases hu
  ·cases h;cases hu
  ·cases h;cases hu
  ·cases h;cases hu
  ·cases h
 | makeFunc f x y =>
  simp only[kN]at h;split at h
  ·cases h;cases hu
  ·cases h
 | move x=>cases h;cases hu
 | assign x=>cases h;cases hu
 | pick x y z=>obtain⟨q,hq,rfl⟩:=fP h;cases hu
 | build T ps=>obtain⟨q,hq,rfl⟩:=fP h;cases hu
 | buildSlice T n ps =>
  simp only[kN]at h;split at h
  ·rename_i q hq;cases h;unfold FN at hq;split at hq
   ·split at hq
    ·split at hq
     ·cases hq;cases hu
     ·cases hq
    ·cases hq
   ·cases hq
  ·split at h
   ·cases h;cases hu
   ·unfold Kq at h;cases h
 | load T x =>
  simp only[kN]at h;split at h
  ·cases h;cases hu
  ·obtain⟨q,hq,rfl⟩:=fP h;cases hu
 | binOp op T x y T' =>
  simp only[kN]at h;split at h
  ·cases h;cases hu
  ·split at h
   ·cases h;cases hu
   ·obtain⟨q,hq,rfl⟩:=fP h;cases hu
 | unOp op T x=>obtain⟨q,hq,rfl⟩:=fP h;cases hu
 | convert s d x=>obtain⟨q,hq,rfl⟩:=fP h;cases hu
 | fieldAddr s x f=>obtain⟨q,hq,rfl⟩:=fP h;cases hu
 | field s x f=>obtain⟨q,hq,rfl⟩:=fP h;cases hu
 | indexAddr T x i =>
  simp only[kN]at h;split at h
  ·cases h;cases hu
  ·split at h
   ·cases h;cases hu
   ·obtain⟨q,hq,rfl⟩:=fP h;cases hu
 | index T x i =>
  simp only[kN]at h;split at h
  ·cases h;cases hu
  ·obtain⟨q,hq,rfl⟩:=fP h;cases hu
 | slice T x l hh m =>
  simp only[kN]at h;split at h
  ·cases h;cases hu
  ·split at h
   ·cases h;cases hu
   ·obtain⟨q,hq,rfl⟩:=fP h;cases hu
 | extract x i=>obtain⟨q,hq,rfl⟩:=fP h;cases hu
 | _=>cases h
theorem WC{O:aI E}{ops:Array Oper}{S:av E}{o:Oper}{r:gF E}(h:evG O ops S o=some r){id:Nat}{ob:aS E}(hu:r.upd=some (id,ob)):∃o',look S.objs id=some o'/\o'.live=true:=by
 unfold evG at h;split at h
 ·exact auI (TY h).1 hu
 grind
theorem Base.step{w0:Start}{aQ:Nat->Nat->Prop}(hb:Base w0 aQ a w ι ro){dY:Nat}{r:gF E}{val:Value}(hp:gT E w w' ι ι' ro ro' dY r val)(hfresh:ι dY=none)(d:Option Nat):Base w0 aQ (a.put d val) w' ι' ro' where
 below:=⟨hp.os.trans hb.below.os,hp.tape.trans hb.below.tape,hp.output.trans hb.below.output,Nat.le_trans hb.below.size hp.size,fun k hk hne=>(hp.frame k (aeJ hk hb.below.size) (fun id o gh _ hi hblk=>by
  rcases(hb.uE id gh k hi hblk).1 with h | h
  ·have h:w0.w.heap.size<=k:=h;omega
  ·exact hne h.symm)).trans (hb.below.block k hk hne)⟩
 aT:=hp.aT
 rE:=fun k o h=>by
  rcases hp.fresh k o h with h | h | ⟨id,o',gh,_,hi,hblk⟩
  ·exact hb.rE k o h
  ·exact .inr (.inl (Nat.le_trans hb.below.size h))
  ·exact .inr (hb.uE id gh k hi hblk).1
 uE:=fun id gh k hi hblk=>by
  by_cases hid:id=dY
  ·subst hid;obtain⟨h1,h2⟩:=hp.qR gh k hi hblk;refine⟨?_,h1⟩;rcases h2 with h | ⟨id',o',bD,_,_,hi',hblk'⟩
   ·exact .inl (Nat.le_trans hb.below.size h)
   ·exact(hb.uE id' bD k hi' hblk').1
  ·rw[hp.lF id hid]at hi;obtain⟨h1,h2⟩:=hb.uE id gh k hi hblk;exact⟨h1,aeJ h2 hp.size⟩
 defers:=by have:=hb.defers;cases d<;>exact this
 keep:=fun q hq=>by obtain⟨h1,h2⟩:=hb.keep q hq;refine⟨fun k o h=>⟨hp.mono k o (h1 k o h).1,(hp.cell k o (h1 k o h).1).trans (h1 k o h).2⟩,fun id gh h=>?_⟩;have h3:=h2 id gh h;rw[hp.lF id (fun e=>by subst e;rw[hfresh]at h3;cases h3)];exact h3
 held:=fun k o h=>by
  obtain⟨h1,h2⟩:=hb.held k o h;refine⟨(hp.frame k (Array.getElem?_eq_some_iff.1 h1).1 fun id o gh _ hi=>h2 id gh hi).trans h1,fun id gh hi hblk=>?_⟩;by_cases hid:id=dY
  ·subst hid;rcases(hp.qR gh k hi hblk).2 with h | ⟨id',o',bD,_,_,hi',hblk'⟩
   ·grind
   ·exact h2 id' bD hi' hblk'
  ·rw[hp.lF id hid]at hi;exact h2 id gh hi hblk
theorem FT:∀(loc:List (Nat×AV E)) (d:Nat),Ei d loc=true->∀t gs want u,(t,Ef.cond gs want u)∈loc->gs≠d
 | [],_,_,t,gs,want,u,h=>by cases h
 | (t0,x)::r,d,hc,t,gs,want,u,h=>by
  cases h with
  | head =>simp only[Ei,abG]at hc;intro e;subst e;simp at hc
  | tail _ h =>refine FT r d ?_ t gs want u h;cases x<;>simp only[Ei,abG]at hc<;>first | exact hc | exact hc.2
theorem EL{a:Act}{d:Option Nat}{val:Value}{t:Nat}(h:d≠some t):(a.put d val).tmps[t]? = a.tmps[t]? := by
 cases d with
 | none=>rfl
 | some d =>
  have:d≠t:=fun e=>h (by rw[e])
  simp[Act.put,Array.getElem?_setIfInBounds_ne this]
theorem Qz{a:Act}{d:Option Nat}{val:Value}:(a.put d val).tmps.size=a.tmps.size:=by cases d<;>simp[Act.put]
theorem Cr.tm{tm tm':Array Value}{v:Value}{x:AV E}(h:Cr E w ro ι tm v x)(he:∀gs want u,x = .cond gs want u->tm'[gs]? = tm[gs]?):Cr E w ro ι tm' v x:=by
 cases x with
 | cond gs want u =>have e:=he gs want u rfl;exact⟨fun hc=>h.1 (by rw[<- e];exact hc),fun hc=>h.2 (by rw[<- e];exact hc)⟩
 | _=>exact h
theorem xR.step{n:Nat}{loc glob:List (Nat×AV E)}(hsz:a.tmps.size=n)(M7:xR E w ro ι a (loc++glob))(hnc:aR glob){d:Option Nat}{x:AV E}{val:Value}(hd:Qw n d ((0,x)::loc)=true)
  (hr:∀k o,ro k o->ro' k o) (hc:∀k o,ro k o->w'.cell? ⟨k,o,none⟩=w.cell? ⟨k,o,none⟩) (hi:∀id gh,ι id=some gh->ι' id=some gh) (QA:ahp E w' ro' ι' a val x):xR E w' ro' ι' (a.put d val) (JN d x loc++glob):=by
 have old:∀t y,d≠some t->look (loc++glob) t=some y->∃v,(a.put d val).tmps[t]? = some v/\Cr E w' ro' ι' (a.put d val).tmps v y:=by
  intro t y hne hl;obtain⟨v,hv,hs⟩:=M7 t y hl;refine⟨v,(EL hne).trans hv,(hs.mono hr hc hi).tm fun gs want u e=>?_⟩;subst e;cases d with
  | none=>rfl
  | some d =>
   refine EL fun e=>?_
   cases e;have hmem:=jW _ _ _ hl;rcases List.mem_append.1 hmem with h | h
   ·unfold Qw at hd;simp only[abG]at hd;exact FT _ _ hd.2 t gs want u (aa6 _ h) rfl
   ·have:=hnc _ h;simp[d9]at this
 intro t y hl;cases d with
 | none=>exact old t y (fun e=>by cases e) hl
 | some d =>
  simp only[JN,ae0,aX]at hl;split at hl
  ·rename_i hdt;have hdt:=aax hdt;subst hdt;cases hl;unfold Qw at hd;simp only[abG]at hd;have hlt:d<a.tmps.size:=by rw[hsz];simpa using hd.1
   refine⟨val,by simp[Act.put,hlt],QA _ fun gs want u e=>?_⟩;subst e;exact EL fun e=>by cases e;exact FT _ _ hd.2 0 d want u aa1 rfl
  ·rename_i hdt;exact old t y (fun e=>by cases e;simp at hdt) hl
theorem NH:∀(loc:List (Nat×AV E)) (t:Nat) (y:AV E),look (sw loc) t=some y->∃x,look loc t=some x/\(y = .any\/(y=x/\d9 x=false))
 | [],t,y,h=>by cases h
 | (t0,x)::r,t,y,h=>by
  unfold sw at h;cases hx:d9 x with
  | true =>
   rw[hx]at h;simp only[cond_true,aX]at h ⊢;split at h
   ·grind
   ·rename_i hb;rw[if_neg hb];exact NH r t y h
  | false =>
   rw[hx]at h;simp only[cond_false,aX]at h ⊢;split at h
   ·grind
   ·rename_i hb;rw[if_neg hb];exact NH r t y h
theorem DN:∀(loc:List (Nat×AV E)),aR (sw loc)
 | []=>fun p h=>by cases h
 | (t,x)::r=>fun p h=>by
  unfold sw at h;cases hx:d9 x with
  | true =>
   rw[hx]at h;cases h with
   | head=>rfl
   | tail _ h=>exact DN r p h
  | false =>
   rw[hx]at h;cases h with
   | head=>exact hx
   | tail _ h=>exact DN r p h
theorem xR.clean{loc glob:List (Nat×AV E)}(M7:xR E w ro ι a (loc++glob)):xR E w ro ι a (sw loc++glob):=by
 intro t y hl;rw[ni]at hl;cases hu:look (sw loc) t with
 | none =>
  rw[hu]at hl;have hnone:look loc t=none:=by
   cases hlo:look loc t with
   | none=>rfl
   | some x =>
    exfalso;have:∀(loc:List (Nat×AV E)),look loc t=some x->∀h:look (sw loc) t=none,False:=by
     intro loc
     induction loc with
     | nil=>intro h;cases h
     | cons p r ih =>
      obtain⟨t0,y0⟩:=p;intro h1 h2;unfold sw at h2;simp only[aX]at h1;split at h1
      ·rename_i hb;cases hx:d9 y0<;>rw[hx]at h2<;>simp[aX,hb]at h2
      ·rename_i hb;cases hx:d9 y0<;>rw[hx]at h2<;>simp only[cond_true,cond_false,aX,if_neg hb]at h2<;>exact ih h1 h2
    exact this loc hlo hu
  exact M7 t y (by rw[ni,hnone];exact hl)
 | some z =>
  rw[hu]at hl;cases hl;obtain⟨x,hx,h⟩:=NH loc t y hu;obtain⟨v,hv,hs⟩:=M7 t x (by rw[ni,hx]);refine⟨v,hv,?_⟩;rcases h with rfl | ⟨rfl,hc⟩
  ·exact .any _
  ·exact hs
theorem Jl{objs:List (Nat×aS E)}{dY:Nat}{r:gF E}{id:Nat}{o:aS E}(h:look (NG objs dY r) id=some o) :
  (r.new=some o/\id=dY)\/(r.upd=some (id,o)/\(id≠dY\/r.new=none))\/(look objs id=some o/\(id≠dY\/r.new=none)/\∀o',r.upd≠some (id,o')):=by
 unfold NG at h;have tail:∀(_:look ((match r.upd with | some u=>[u] | none=>[])++objs) id=some o),r.upd=some (id,o)\/(look objs id=some o/\∀o',r.upd≠some (id,o')):=by
  clear h;intro h;cases hu:r.upd with
  | none=>grind
  | some u =>
   obtain⟨i,ob⟩:=u;rw[hu]at h;simp only[ae0,aeK,aX]at h;by_cases hb:Nat.beq i id=true
   ·rw[if_pos hb]at h;have:=aax hb;subst this;cases h;exact .inl rfl
   ·rw[if_neg hb]at h;refine .inr ⟨h,fun o' e=>?_⟩;cases e;simp at hb
 cases hn:r.new with
 | none =>grind
 | some ob =>
  rw[hn]at h;simp only[ae0,aeK,aX]at h;split at h
  ·rename_i hb;have:=aax hb;grind
  ·rename_i hb;have hne:id≠dY:=fun e=>by subst e;simp at hb
   grind
end
end
end Go.Proofs.YtclnniijooeajaaGreatDoor.bA
namespace Go.Proofs.YtclnniijooeajaaGreatDoor.bA
open Go Go.RowKit
section
section
variable {P:Program} {E:Env P} {w w':World} {ro ro':Nat->Nat->Prop} {ι ι':Nat->Option Gh} {a:Act}
theorem ahq{objs:List (Nat×aS E)}{dY:Nat}{r:gF E}{val:Value}(hp:gT E w w' ι ι' ro ro' dY r val)(hinj:Inj E objs ι)(vY:∀id o,r.upd=some (id,o)->∃o',look objs id=some o'/\o'.live=true)
  (hilt:∀id gh k,ι id=some gh->gh.blk=some k->k<w.heap.size) (kX:∀id o,look objs id=some o->o.live=true->id≠dY) (mY:List (Nat×aS E))
  (hl:∀id o,look mY id=some o->(r.new=some o/\id=dY)\/r.upd=some (id,o)\/(look objs id=some o/\∀o',r.upd≠some (id,o'))):Inj E mY ι':=by
 have key:∀id id' o o' gh bD k,(r.new=some o/\id=dY)->o.live=true->o'.live=true->(r.upd=some (id',o')\/(look objs id'=some o'/\∀o',r.upd≠some (id',o'))) ->
   ι' id=some gh->ι' id'=some bD->gh.blk=some k->bD.blk=some k->False:=by
  intro id id' o o' gh bD k ⟨hnew,hid⟩ hlive ahr hother hi hi' hk hk';subst hid;obtain⟨q,hq,hql⟩:∃q,look objs id'=some q/\q.live=true:=by
   rcases hother with h | ⟨h,_⟩
   ·exact vY id' o' h
   ·exact⟨o',h,ahr⟩
  have hne:=kX id' q hq hql;rw[hp.lF id' hne]at hi';have aG4:=hilt id' bD k hi' hk';obtain⟨_,h⟩:=hp.qR gh k hi hk;rcases h with h | ⟨i0,ob,yK,hu,aCY,hi0,hk0⟩
  ·omega
  ·obtain⟨q0,hq0,aFe⟩:=vY i0 ob hu;have e:=hinj id' i0 q q0 bD yK k hq hq0 hql aFe hi' hi0 hk' hk0;subst e;rcases hother with h | ⟨_,h⟩
   ·rw[hu]at h;cases h;rw[aCY]at ahr;cases ahr
   ·exact h ob hu
 intro id id' o o' gh bD k h1 h2 l1 l2 i1 i2 b1 b2;have c1:=hl id o h1;have c2:=hl id' o' h2;rcases c1 with n1 | c1
 ·grind
 ·rcases c2 with n2 | c2
  ·exact(key id' id o' o bD gh k n2 l2 l1 c1 i2 i1 b2 b1).elim
  ·obtain⟨q1,hq1,hl1⟩:∃q,look objs id=some q/\q.live=true:=by
    rcases c1 with h | ⟨h,_⟩
    ·exact vY id o h
    ·exact⟨o,h,l1⟩
   obtain⟨q2,hq2,hl2⟩:∃q,look objs id'=some q/\q.live=true:=by
    rcases c2 with h | ⟨h,_⟩
    ·exact vY id' o' h
    ·exact⟨o',h,l2⟩
   rw[hp.lF id (kX id q1 hq1 hl1)]at i1;rw[hp.lF id' (kX id' q2 hq2 hl2)]at i2;exact hinj id id' q1 q2 gh bD k hq1 hq2 hl1 hl2 i1 i2 b1 b2
variable {w0:Start} {aQ:Nat->Nat->Prop} {n next:Nat} {loc glob:List (Nat×AV E)} {objs:List (Nat×aS E)}
theorem gT.ext{dY:Nat}{r:gF E}{val:Value}(hp:gT E w w' ι ι' ro ro' dY r val)(hfresh:ι dY=none):∀id gh,ι id=some gh->ι' id=some gh:=by intro i gh hi;rw[hp.lF i (fun e=>by subst e;rw[hfresh]at hi;cases hi)];exact hi
theorem auJ(hg:bN E w0 aQ ⟨n,loc++glob,objs,next⟩ a w ι ro)(hnc:aR glob){d:Option Nat}{r:gF E}{val:Value}(hd:Qw n d ((0,r.v)::loc)=true)
  (vY:∀id o,r.upd=some (id,o)->∃o',look objs id=some o'/\o'.live=true) (hp:gT E w w' ι ι' ro ro' next { r with v:=.any } val) (QA:ahp E w' ro' ι' a val r.v) :
  bN E w0 aQ ⟨n,JN d r.v loc++glob,NG objs next r,next+1⟩ (a.put d val) w' ι' ro':=by
 have hfresh:=hg.fresh next (abH _);have hilt:∀id gh k,ι id=some gh->gh.blk=some k->k<w.heap.size:=fun id gh k h1 h2=>(hg.base.uE id gh k h1 h2).2
 have kX:∀id o,look objs id=some o->id<next:=hg.ids;exact {
  base:=hg.base.step hp hfresh d
  size:=Qz.trans hg.size
  tmps:=xR.step hg.size hg.tmps hnc hd hp.mono hp.cell (hp.ext hfresh) QA
  objs:=fun id o hl=>by
   rcases Jl hl with⟨h1,h2⟩ | ⟨h1,_⟩ | ⟨h1,_,h3⟩
   ·subst h2;exact hp.new o h1
   ·exact hp.upd id o h1
   ·exact kr.step hp hfresh hg.inj vY hilt h1 (fun e=>by have:=kX id o h1;omega) h3 (hg.objs id o h1)
  inj:=ahq hp hg.inj vY hilt (fun id o h _ e=>by have:=kX id o h;omega) _ (fun id o hl=>by
   rcases Jl hl with h | ⟨h1,_⟩ | ⟨h1,_,h3⟩
   ·exact .inl h
   ·exact .inr (.inl h1)
   ·exact .inr (.inr ⟨h1,h3⟩))
  fresh:=fun id h=>by have h:next+1<=id:=h;rw[hp.lF id (by omega)];exact hg.fresh id (by show next<=id;omega)
  ids:=fun id o hl=>by
   show id<next+1;rcases Jl hl with⟨_,h2⟩ | ⟨h1,_⟩ | ⟨h1,_,_⟩
   ·omega
   ·grind
   ·have:=kX id o h1;omega }
theorem arA{I:Inl E}{S:av E}{ro:Nat->Nat->Prop}{ι:Nat->Option Gh}(c:Ctx E S [] a w ι ro){o:Oper}{f:FuncId}{args:List (AV E)}(h:aoW I S o=some (f,args)) :
  o.guard=none/\∃lu as ts vs us p q,o.op = .call { callee:=.value lu,args:=as,argTypes:=ts }/\a.eval lu = .func (.func f) vs us/\args=p++(cu S.tmps [] as++q) /\
   vs.size=p.length/\us.size=q.length/\(∀(j:Nat) v c,vs[j]? = some v->p[j]? = some c->aP E w ro ι v c)/\(∀(j:Nat) v c,us[j]? = some v->q[j]? = some c->aP E w ro ι v c):=by
 unfold aoW at h;split at h
 ·rename_i cc hg hop;obtain⟨callee,as,ts⟩:=cc;split at h
  ·rename_i x hx;have hx:callee = .value x:=hx;subst hx;split at h
   ·rename_i f' hf;have hfo:a.eval x = .func (.func f') #[] #[]:=by
     unfold Ww at hf;split at hf
     ·cases hf;rfl
     ·unfold funcOf at hf;split at hf
      ·rename_i heq;cases hf;have hx:=c.get x;rw[heq]at hx;exact hx.j6
      ·cases hf
    cases hh:I.has f' with
    | false=>rw[hh]at h;cases h
    | true =>rw[hh]at h;cases h;exact⟨hg,x,as,ts, #[], #[],[],[],hop,hfo,by simp,rfl,rfl,fun j v c hv=>by simp at hv,fun j v c hv=>by simp at hv⟩
   ·split at h
    ·rename_i f' p q heq;cases hh:I.has f' with
     | false=>rw[hh]at h;cases h
     | true =>
      rw[hh]at h;cases h;have hx:=c.get x;rw[heq]at hx;generalize gZ:a.eval x=vx at hx;cases hx with
      | fn _ vs us _ _ h1 h2 h3 h4=>grind
    ·cases h
  ·cases h
 ·cases h
theorem aAq(hg:bN E w0 aQ ⟨n,loc++glob,objs,next⟩ a w ι ro)(hnc:aR glob){d:Option Nat}{x:AV E}{val:Value}(hd:Qw n d ((0,x)::loc)=true)(hx:d9 x=false)(hv:aP E w' ro' ι' val x)
  {mY:List (Nat×aS E)} {next':Nat} (hb:Base w0 aQ a w' ι' ro') (ho:∀(id:Nat) o,look mY id=some o->kr E w' ro' ι' id o) (hi:Inj E mY ι') (hf:∀id,next'<=id->ι' id=none) (kX:∀id o,look mY id=some o->id<next')
  (hkeep:∀k o,ro k o->ro' k o/\w'.cell? ⟨k,o,none⟩=w.cell? ⟨k,o,none⟩) (hext:∀id gh,ι id=some gh->ι' id=some gh) :
  bN E w0 aQ ⟨n,JN d x loc++glob,mY,next'⟩ (a.put d val) w' ι' ro' where
 base:=⟨hb.below,hb.aT,hb.rE,hb.uE,(by have:=hb.defers;cases d<;>exact this),hb.keep,hb.held⟩
 size:=Qz.trans hg.size
 tmps:=xR.step hg.size hg.tmps hnc hd (fun k o h=>(hkeep k o h).1) (fun k o h=>(hkeep k o h).2) hext fun tm _=>by cases x<;>first | exact hv | cases hx
 objs:=ho
 inj:=hi
 fresh:=hf
 ids:=kX
theorem Iw{R:Type}{O:aI E}(hO:aL E O){ops:Array Oper}(hnc:aR glob){k:av E->Option R}{rr:R}{Q:Exit->Act->World->Prop}
  (hk:∀S' a' w' ι' ro',aR S'.tmps->bN E w0 aQ S' a' w' ι' ro'->S'.n=n->k S'=some rr->Q .normal a' w') :
  ∀(l:List Oper) (loc:List (Nat×AV E)) (objs:List (Nat×aS E)) (next:Nat) (a:Act) (w:World) (ι:Nat->Option Gh) (ro:Nat->Nat->Prop),bN E w0 aQ ⟨n,loc++glob,objs,next⟩ a w ι ro->ng O ops n glob l loc objs next k=some rr ->
   wpList P ops Q l a w
 | [],loc,objs,next,a,w,ι,ro,hg,h=>by
  unfold ng at h;refine wpList_nil (hk ⟨n,sw loc++glob,objs,next⟩ a w ι ro (fun p hp=>?_) ⟨hg.base,hg.size,hg.tmps.clean,hg.objs,hg.inj,hg.fresh,hg.ids⟩ rfl h);rcases List.mem_append.1 hp with hp | hp
  ·exact DN loc p hp
  ·exact hnc p hp
 | o::rest,loc,objs,next,a,w,ι,ro,hg,h=>by
  unfold ng at h;split at h
  ·rename_i f args hin;have c:Ctx E ⟨n,loc++glob,objs,next⟩ [] a w ι ro:=⟨hg.tmps,fun j b hb=>by simp[uD]at hb,hg.base.aT,hg.objs,hg.fresh _ (abH _)⟩
   obtain⟨hg0,lu,as,ts,vs,us,p,q,hop,hfo,rfl,hp1,hq1,hp2,hq2⟩:=arA c hin;obtain⟨hfn,mZ⟩:=hO.2.2.2.2.1 _ _ _ _ _ _ h;refine wpList_step fun K hK=>?_
   rw[if_pos (show Region.wanted o (yielded ops a.tmps)=true by simp[Region.wanted,hg0])];unfold Oper.wp;rw[ahk hop hfo hfn];refine(mZ w0 aQ a w ι ro _ hg.base hg.objs hg.inj hg.fresh hg.ids (by simp[cu,hp1,hq1]) fun i v x hv hx=>?_).mono fun e w' he=>?_
   ·refine WA (by simpa using hp1) (fun j v c h1 h2=>hp2 j v c (by simpa using h1) h2) (WA (by simp[cu]) (fun j v x h1 h2=>TT c as j v x (by simpa using h1) h2) fun j v c h1 h2=>hq2 j v c (by simpa using h1) h2) i v x hv hx
   ·obtain⟨v,x,mY,next',ι',ro',rfl,hk',hv,hb,ho,hi,hf,kX,hkeep,hext⟩:=he;split at hk'
    ·rename_i hd;simp only[abG,ajv]at hd;exact hK _ _ (Iw hO hnc hk rest _ _ _ _ _ _ _ (aAq hg hnc hd.1 hd.2 hv hb ho hi hf kX hkeep hext) hk')
    ·cases hk'
  split at h
  ·rename_i r hr;split at h
   ·rename_i hd;cases hok:r.ok with
    | false=>rw[hok]at h;cases h
    | true =>
     rw[hok]at h;simp only[cond_true]at h;refine wpList_step fun K hK=>?_
     refine ad9 (S:=⟨n,loc++glob,objs,next⟩) hg.base.aT hg.tmps hg.objs (hg.fresh _ (abH _)) hO hr hok fun val w' ι' ro' hp QA=>?_
     refine hK _ _ (Iw hO hnc hk rest _ _ _ _ _ _ _ (auJ hg hnc hd (fun id o hu=>WC hr hu) hp QA) h)
   ·cases h
  ·cases h
end
end
end Go.Proofs.YtclnniijooeajaaGreatDoor.bA
namespace Go.Proofs.YtclnniijooeajaaGreatDoor.bA
open Go Go.RowKit
section
section
variable {P:Program} (E:Env P)
structure gJ where
 i:Nat
 pr:Nat
 dst:Option Nat
 x:AV E
 pq:List (Nat×aS E)
 cls:Nat
end
section
variable {P:Program} {E:Env P}
def aan(O:aI E):Op->Nat
 | .makeSlice _ _ _=>1
 | .makeMap _ _=>1
 | .buildSlice _ n _=>(match n with | 0=>1 | _=>0)
 | .alloc _=>1
 | .box _ _=>1
 | .load _ _=>1
 | .store _ _ _=>2
 | .mapUpdate _ _ _ _=>2
 | .call c=>match c.callee with
  | .builtin .append=>2
  | .builtin .copy=>2
  | .builtin .unsafeString=>2
  | .value (.func f)=>bif O.awF f||(O.aus f).isSome||(match O.cc with | some (f',_)=>Nat.beq f' f | none=>false)then 2 else bif O.KR f||(O.grow f).isSome||O.inl.has f then 1 else 0
  | _=>0
 | _=>0
def acj:List (gJ E)->Nat->Option Nat
 | [],_=>none
 | e::r,j=>if Nat.beq e.i j then some e.pr else acj r j
def Ht(ents:List (gJ E)):List Edge->Option Nat
 | []=>some 0
 | e::r=>match Ht ents r with
  | none=>none
  | some m=>match Region.binds .any e with
   | false=>some m
   | true=>match acj ents e.on with
    | some p=>some (m ||| (p ||| 2 ^ e.on))
    | none=>none
def Ai(D:Nat->Bool):List (gJ E)->List (Nat×AV E)
 | []=>[]
 | e::r=>bif D e.i then JN e.dst e.x (Ai D r)else Ai D r
def jo(D:Nat->Bool)(objs:List (Nat×aS E)):List (gJ E)->List (Nat×aS E)
 | []=>objs
 | e::r=>bif D e.i then e.pq++jo D objs r else jo D objs r
def Ku(dY:Nat)(r:gF E):List (Nat×aS E):=NG [] dY r
def aao(c pr:Nat):List (gJ E)->Bool
 | []=>true
 | e::r=>(match c,e.cls with
  | 0,_=>true
  | _,0=>true
  | 1,_=>true
  | _,_=>Nat.testBit pr e.i)&&aao c pr r
def WE(c:Nat)(r:gF E):Bool:=match c,r.upd,r.new with
 | 0,none,none=>true
 | 0,_,_=>false
 | 1,none,_=>true
 | 1,_,_=>false
 | _,_,_=>true
def aap(n:Nat)(d:Option Nat)(x:AV E)(ents:List (gJ E)):Bool:=match d with
 | none=>true
 | some d=>Nat.blt d n&&Ei d [(0,x)]&&ents.all fun e=>match e.dst with | some d'=>!Nat.beq d' d | none=>true
def K6:Nat->Bool:=fun _=>true
def OV(acc:List (Nat×Nat)):List Edge->Nat
 | []=>0
 | e::r=>match Region.binds .any e with
  | false=>OV acc r
  | true=>match look acc e.on with
   | some p=>OV acc r ||| (p ||| 2 ^ e.on)
   | none=>OV acc r
def QB:List Oper->Nat->List (Nat×Nat)->List (Nat×Nat)
 | [],_,acc=>acc
 | o::r,i,acc=>QB r (i+1) ((i,OV acc o.after.toList)::acc)
def QC(ops:Array Oper):List (Nat×Nat):=QB ops.toList 0 []
def QD(l:List Oper)(j:Nat):Bool:=l.any fun o=>match o.guard with | some (g,_)=>Nat.beq g j | none=>false
def ahs(tab:List (Nat×Nat))(i j:Nat):Bool:=match look tab j with
 | some p=>Nat.testBit p i
 | none=>false
def DR(tab:List (Nat×Nat))(all:List Oper)(i:Nat):List Oper->Nat->List (Nat×AV E)
 | [],_=>[]
 | o::r,j=>match ahs tab i j && !(QD all j)with
  | true=>DR tab all i r (j+1)
  | false=>JN o.dst .any (DR tab all i r (j+1))
def aht:List (gJ E)->Bool
 | []=>false
 | e::r=>(match e.cls with | 0=>false | 1=>false | _=>true)||aht r
def aaq:List (gJ E)->List Nat
 | []=>[]
 | e::r=>e.pq.map (·.1)++aaq r
def mem1:List Nat->Nat->Bool
 | [],_=>false
 | i::r,j=>Nat.beq i j||mem1 r j
def aar(ids:List Nat):List (Nat×aS E)->List (Nat×aS E)
 | []=>[]
 | (i,o)::r=>match mem1 ids i with
  | true=>aar ids r
  | false=>(i,o)::aar ids r
def Jm(c pr:Nat)(objs:List (Nat×aS E))(ents:List (gJ E)):List (Nat×aS E):=match c with
 | 0=>[]
 | 1=>(match aht ents with
  | true=>aar (aaq ents) objs
  | false=>jo (Nat.testBit pr) objs ents)
 | _=>jo (Nat.testBit pr) objs ents
def Kv(O:aI E)(ops:Array Oper)(n:Nat)(glob:List (Nat×AV E))(next i:Nat)(o:Oper)(pr:Nat)(ents:List (gJ E)):Nat:=match o.op with
 | .load _ _=>(match evG O ops ⟨n,Ai (Nat.testBit pr) ents++(DR (QC ops) ops.toList i ops.toList 0++glob),[],next+i⟩ o with
  | some r=>(match WE 0 r with | true=>0 | false=>1)
  | none=>1)
 | op=>aan O op
theorem auK(O:aI E)(o:Op):aan O o=0\/aan O o=1\/aan O o=2:=by unfold aan;grind
theorem auL{O:aI E}{ops:Array Oper}{n:Nat}{glob:List (Nat×AV E)}{next i:Nat}{o:Oper}{pr:Nat}{ents:List (gJ E)}:Kv O ops n glob next i o pr ents=0\/Kv O ops n glob next i o pr ents=1\/Kv O ops n glob next i o pr ents=2:=by
 unfold Kv;split
 ·split
  ·split<;>simp
  ·simp
 ·exact auK _ _
def K7{R:Type}(O:aI E)(ops:Array Oper)(n:Nat)(glob:List (Nat×AV E))(objs:List (Nat×aS E))(next:Nat):List Oper->List (gJ E)->Nat->(av E->Option R)->Option R
 | [],ents,i,k=>k ⟨n,sw (Ai K6 ents)++glob,jo K6 objs ents,next+i⟩
 | o::rest,ents,i,k=>match Ht ents o.after.toList with
  | none=>none
  | some pr=>match aao (Kv O ops n glob next i o pr ents) pr ents with
   | false=>none
   | true=>match evG O ops ⟨n,Ai (Nat.testBit pr) ents++(DR (QC ops) ops.toList i ops.toList 0++glob),(Jm (Kv O ops n glob next i o pr ents) pr objs ents),next+i⟩ o with
    | none=>none
    | some r=>match WE (Kv O ops n glob next i o pr ents) r&&aap n o.dst r.v ents with
     | false=>none
     | true=>bif r.ok then K7 O ops n glob objs next rest (⟨i,pr,o.dst,r.v,Ku (next+i) r,Kv O ops n glob next i o pr ents⟩::ents) (i+1) k else none
def ze(n:Nat)(ops:Array Oper)(glob:List (Nat×AV E))(objs:List (Nat×aS E))(c pr dY i:Nat)(ents:List (gJ E)):av E :=
 ⟨n,Ai (Nat.testBit pr) ents++(DR (QC ops) ops.toList i ops.toList 0++glob),(Jm c pr objs ents),dY⟩
def DT(O:aI E)(ops:Array Oper)(n:Nat)(glob:List (Nat×AV E))(objs:List (Nat×aS E))(next:Nat)(e:gJ E)(r:List (gJ E)):Prop :=
 e.i=r.length/\∃o res,ops[e.i]? = some o/\Ht r o.after.toList=some e.pr/\aao e.cls e.pr r=true/\evG O ops (ze n ops glob objs e.cls e.pr (next+e.i) e.i r) o=some res /\
  WE e.cls res=true/\aap n o.dst res.v r=true/\res.ok=true/\e.dst=o.dst/\e.x=res.v/\e.pq=Ku (next+e.i) res/\(e.cls=0\/e.cls=1\/e.cls=2)
def gG(O:aI E)(ops:Array Oper)(n:Nat)(glob:List (Nat×AV E))(objs:List (Nat×aS E))(next:Nat):List (gJ E)->Prop
 | []=>True
 | e::r=>gG O ops n glob objs next r/\DT O ops n glob objs next e r
section
variable {O:aI E} {ops:Array Oper} {n next:Nat} {glob:List (Nat×AV E)} {objs:List (Nat×aS E)}
theorem Xz{R:Type}{k:av E->Option R}{rr:R}:∀(rest pre:List Oper) (ents:List (gJ E)) (i:Nat),ops.toList=pre++rest->pre.length=i->ents.length=i->gG O ops n glob objs next ents ->
  K7 O ops n glob objs next rest ents i k=some rr->∃L,gG O ops n glob objs next L/\L.length=ops.size/\k ⟨n,sw (Ai K6 L)++glob,jo K6 objs L,next+ops.size⟩=some rr
 | [],pre,ents,i,hl,hi,he,hok,h=>by unfold K7 at h;grind
 | o::rest,pre,ents,i,hl,hi,he,hok,h=>by
  unfold K7 at h;split at h
  ·cases h
  ·rename_i pr hpr;split at h
   ·cases h
   ·rename_i hcls;split at h
    ·cases h
    ·rename_i r hr;split at h
     ·cases h
     ·rename_i hres;simp only[abG]at hres;cases hk:r.ok with
      | false=>rw[hk]at h;cases h
      | true =>
       rw[hk]at h;simp only[cond_true]at h;have ho:ops[i]? = some o:=by rw[<- Array.getElem?_toList,hl,aeD (by omega),hi,Nat.sub_self];rfl
       exact Xz rest (pre++[o]) (⟨i,pr,o.dst,r.v,Ku (next+i) r,Kv O ops n glob next i o pr ents⟩::ents) (i+1) (by rw[hl];simp) (by simp[hi]) (by simp[he])
        ⟨hok,he.symm,o,r,ho,hpr,hcls,hr,hres.1,hres.2,hk,rfl,rfl,rfl,auL⟩ h
theorem gG.split{pre r:List (gJ E)}{e:gJ E}(h:gG O ops n glob objs next (pre++e::r)):gG O ops n glob objs next (e::r):=by
 induction pre with
 | nil=>exact h
 | cons p pre ih=>exact ih h.1
theorem gG.lt{L:List (gJ E)}(h:gG O ops n glob objs next L):∀e∈L,e.i<L.length:=by
 induction L with
 | nil=>intro e he;cases he
 | cons p r ih =>
  intro e he;simp only[List.length_cons];cases he with
  | head=>have:=h.2.1;omega
  | tail _ he=>have:=ih h.1 e he;omega
theorem gG.uniq{L:List (gJ E)}(h:gG O ops n glob objs next L):∀e∈L, ∀e'∈L,e.i=e'.i->e=e':=by
 induction L with
 | nil=>intro e he;cases he
 | cons p r ih =>
  intro e he e' he' hi;cases he with
  | head =>
   cases he' with
   | head=>rfl
   | tail _ he'=>have:=h.1.lt e' he';have:=h.2.1;omega
  | tail _ he =>
   cases he' with
   | head=>have:=h.1.lt e he;have:=h.2.1;omega
   | tail _ he'=>exact ih h.1 e he e' he' hi
theorem gG.has{L:List (gJ E)}(h:gG O ops n glob objs next L):∀j,j<L.length->∃e∈L,e.i=j:=by
 induction L with
 | nil=>intro j hj;simp at hj
 | cons p r ih =>
  intro j hj;simp only[List.length_cons]at hj;by_cases hjr:j<r.length
  ·obtain⟨e,he,hi⟩:=ih h.1 j hjr;exact⟨e,aa6 _ he,hi⟩
  ·exact⟨p,aa1,by have:=h.2.1;omega⟩
theorem ahu:∀{r:List (gJ E)} {j p:Nat},acj r j=some p->∃e∈r,e.i=j/\e.pr=p
 | [],_,_,h=>by cases h
 | e::r,j,p,h=>by
  unfold acj at h;split at h
  ·rename_i hb;cases h;exact⟨e,aa1,aax hb,rfl⟩
  ·obtain⟨e',he',h1,h2⟩:=ahu h;grind
theorem NI:∀{r:List (gJ E)} {es:List Edge} {m:Nat},Ht r es=some m ->
  (∀j,Nat.testBit m j=true->∃ed∈es,Region.binds .any ed=true/\∃e∈r,e.i=ed.on/\(j=ed.on\/Nat.testBit e.pr j=true))/\(∀ed∈es,Region.binds .any ed=true->Nat.testBit m ed.on=true/\∃e∈r,e.i=ed.on)
 | r,[],m,h=>by cases h;grind
 | r,ed::es,m,h=>by
  unfold Ht at h;split at h
  ·cases h
  ·rename_i m' hm;obtain⟨h1,h2⟩:=NI hm;split at h
   ·grind
   ·rename_i hb;split at h
    ·rename_i p hp;cases h;obtain⟨e,he,hei,hep⟩:=ahu hp;grind
    ·cases h
theorem QE{d:Nat}{x:AV E}{ents:List (gJ E)}(h:aap n (some d) x ents=true):d<n/\(∀gs want u,x = .cond gs want u->gs≠d)/\∀e∈ents,e.dst≠some d:=by
 unfold aap at h;simp only[abG,afe]at h;obtain⟨⟨h1,h2⟩,h3⟩:=h;refine⟨by simpa using h1,fun gs want u e=>?_,fun e he hd=>?_⟩
 ·subst e;exact FT _ _ h2 0 gs want u aa1
 ·have:=h3 e he;rw[hd]at this;simp at this
theorem gG.ahv{L:List (gJ E)}(h:gG O ops n glob objs next L):∀e∈L, ∀e'∈L, ∀d,e.dst=some d->e'.dst=some d->e=e':=by
 induction L with
 | nil=>intro e he;cases he
 | cons p r ih =>
  have key:∀e'∈r, ∀d,p.dst=some d->e'.dst=some d->False:=by intro e' he' d hd hd';obtain⟨hi,o,res,ho,hpr,_,_,_,hdn,_,hdst,_⟩:=h.2;rw[hdst]at hd;rw[hd]at hdn;exact(QE hdn).2.2 e' he' hd'
  intro e he e' he' d hd hd';cases he with
  | head =>grind
  | tail _ he =>
   cases he' with
   | head=>exact(key e he d hd' hd).elim
   | tail _ he'=>exact ih h.1 e he e' he' d hd hd'
theorem aea{d:Option Nat}{x y:AV E}{loc:List (Nat×AV E)}{t:Nat}(h:look (JN d x loc) t=some y):(d=some t/\y=x)\/(d≠some t/\look loc t=some y):=by
 cases d with
 | none=>exact .inr ⟨(fun e=>by cases e),h⟩
 | some d =>
  simp only[JN,aX]at h;split at h
  ·rename_i hb;have:=aax hb;grind
  ·rename_i hb;exact .inr ⟨(fun e=>by cases e;simp at hb),h⟩
theorem Jo{D:Nat->Bool}:∀{L:List (gJ E)} {t:Nat} {x:AV E},look (Ai D L) t=some x->∃e∈L,D e.i=true/\e.dst=some t/\x=e.x
 | [],_,_,h=>by cases h
 | e::r,t,x,h=>by
  unfold Ai at h;cases hd:D e.i with
  | false =>rw[hd]at h;obtain⟨e',he',rest⟩:=Jo h;grind
  | true =>
   rw[hd]at h;rcases aea h with⟨h1,h2⟩ | ⟨_,h⟩
   ·grind
   ·obtain⟨e',he',rest⟩:=Jo h;grind
theorem Hu{D:Nat->Bool}:∀{L:List (gJ E)} {t:Nat},look (Ai D L) t=none->∀e∈L,D e.i=true->e.dst≠some t
 | [],_,_,e,he,_=>by cases he
 | p::r,t,h,e,he,hD=>by
  unfold Ai at h;cases hd:D p.i with
  | false =>
   rw[hd]at h;cases he with
   | head=>rw[hd]at hD;cases hD
   | tail _ he=>exact Hu h e he hD
  | true =>
   rw[hd]at h;simp only[cond_true]at h;have h2:p.dst≠some t/\look (Ai D r) t=none:=by
    cases hp:p.dst with
    | none=>rw[hp]at h;exact⟨(fun e=>by cases e),h⟩
    | some d =>
     rw[hp]at h;simp only[JN,aX]at h;split at h
     ·cases h
     ·rename_i hb;exact⟨(fun e=>by cases e;simp at hb),h⟩
   cases he with
   | head=>exact h2.1
   | tail _ he=>exact Hu h2.2 e he hD
theorem Kw{tab:List (Nat×Nat)}{all:List Oper}{i:Nat}:∀{l:List Oper} {j t:Nat} {x:AV E},look (DR tab all i l j) t=some x->x = .any/\∃o∈l,o.dst=some t
 | [],_,_,_,h=>by cases h
 | o::r,j,t,x,h=>by
  unfold DR at h;split at h
  ·obtain⟨h1,o',ho',h2⟩:=Kw h;grind
  ·rcases aea h with⟨h1,h2⟩ | ⟨_,h⟩
   ·exact⟨h2,o,aa1,h1⟩
   ·obtain⟨h1,o',ho',h2⟩:=Kw h;grind
theorem zP{tab:List (Nat×Nat)}{all:List Oper}{i:Nat}:∀{l:List Oper} {j t:Nat},look (DR (E:=E) tab all i l j) t=none->∀(m:Nat) o,l[m]? = some o->o.dst=some t->ahs tab i (j+m)=true/\QD all (j+m)=false
 | [],_,_,_,m,o,hm,_=>by simp at hm
 | p::r,j,t,h,m,o,hm,hd=>by
  unfold DR at h;split at h
  ·rename_i hb;simp only[abG,ajv]at hb;cases m with
   | zero=>exact hb
   | succ m =>have:=zP h m o (by simpa using hm) hd;grind
  ·have h2:p.dst≠some t/\look (DR (E:=E) tab all i r (j+1)) t=none:=by
    cases hp:p.dst with
    | none=>rw[hp]at h;exact⟨(fun e=>by cases e),h⟩
    | some d =>
     rw[hp]at h;simp only[JN,aX]at h;split at h
     ·cases h
     ·rename_i hb;exact⟨(fun e=>by cases e;simp at hb),h⟩
   cases m with
   | zero=>simp at hm;subst hm;exact absurd hd h2.1
   | succ m =>have:=zP h2.2 m o (by simpa using hm) hd;grind
theorem ahw:∀(a b:List Oper) (i:Nat) (acc:List (Nat×Nat)),QB (a++b) i acc=QB b (i+a.length) (QB a i acc)
 | [],b,i,acc=>by simp[QB]
 | o::a,b,i,acc=>by simp only[ae0,QB,List.length_cons];rw[ahw a b];congr 1;omega
def OW(L:List (gJ E)):List (Nat×Nat):=L.map fun e=>(e.i,e.pr)
theorem ahx:∀(L:List (gJ E)) (j:Nat),acj L j=look (OW L) j
 | [],_=>rfl
 | e::r,j=>by
  simp only[acj,OW,ae6,aX];split
  ·rfl
  ·exact ahx r j
theorem XA(L:List (gJ E)):∀(es:List Edge) (p:Nat),Ht L es=some p->OV (OW L) es=p
 | [],p,h=>by cases h;rfl
 | e::r,p,h=>by
  unfold Ht at h;unfold OV;split at h
  ·cases h
  ·rename_i m hm;have ih:=XA L r m hm;split at h
   ·cases h;exact ih
   ·rename_i hb;split at h
    ·rename_i q hq;cases h;rw[ahx]at hq;rw[hq];simp only[ih]
    ·cases h
theorem ahy:∀(L:List (gJ E)),gG O ops n glob objs next L->L.length<=ops.size->QB (ops.toList.take L.length) 0 []=OW L
 | [],_,_=>rfl
 | e::r,h,hl=>by
  obtain⟨h1,hi,o,res,ho,hpr,_⟩:=h;have hl':r.length<ops.size:=by rw[List.length_cons]at hl;omega
  have ih:=ahy r h1 (by omega);rw[hi]at ho;have ho':ops.toList[r.length]? = some o:=by simpa using ho
  have hlt:r.length<ops.toList.length:=by simpa using hl'
  rw[List.length_cons,ag8 hlt,ahw,ih];have hog:ops.toList[r.length]=o:=by rw[aac hlt]at ho';exact Option.some.inj ho'
  rw[hog];simp only[QB,aeb,aeY];rw[Nat.min_eq_left (by omega),XA r _ _ hpr,<- hi];rfl
theorem gG.tab{L:List (gJ E)}(h:gG O ops n glob objs next L)(hlen:L.length=ops.size):∀e∈L,look (QC ops) e.i=some e.pr:=by
 have ht:=ahy L h (by omega);rw[hlen,aeM (by simp)]at ht;unfold QC;rw[ht];have key:∀(M:List (gJ E)),gG O ops n glob objs next M->∀e∈M,look (OW M) e.i=some e.pr:=by
  intro M
  induction M with
  | nil=>intro _ e he;cases he
  | cons p r ih =>
   intro hM e he;simp only[OW,ae6,aX];rcases amG.1 he with rfl | he
   ·rw[if_pos (by simp)]
   ·have h1:=hM.1.lt e he;have h2:=hM.2.1;rw[if_neg (by simp;omega)];exact ih hM.1 e he
 exact key L h
end
end
end
end Go.Proofs.YtclnniijooeajaaGreatDoor.bA
namespace Go.Proofs.YtclnniijooeajaaGreatDoor.bA
open Go Go.RowKit
section
section
variable {P:Program} {E:Env P} {O:aI E} {ops:Array Oper} {n next:Nat} {glob:List (Nat×AV E)} {objs:List (Nat×aS E)}
theorem QF{e:gJ E}{r:List (gJ E)}(h:DT O ops n glob objs next e r)(hc:e.cls=0):e.pq=[]:=by
 obtain⟨hi,o,res,ho,hpr,_,_,hres,hdn,_,hdst,_,heff,hcls⟩:=h;rw[hc]at hres;rw[heff];cases hu:res.upd with
 | some u=>simp[WE,hu]at hres
 | none =>
  cases hn:res.new with
  | some o=>simp[WE,hu,hn]at hres
  | none=>simp[Ku,NG,hu,hn]
theorem ahz{e:gJ E}{r:List (gJ E)}(h:DT O ops n glob objs next e r)(hc:e.cls=1):e.pq=[]\/∃o,e.pq=[(next+e.i,o)]:=by
 obtain⟨hi,o,res,ho,hpr,_,_,hres,hdn,_,hdst,_,heff,hcls⟩:=h;rw[hc]at hres;rw[heff];cases hu:res.upd with
 | some u=>simp[WE,hu]at hres
 | none =>
  cases hn:res.new with
  | none=>left;simp[Ku,NG,hu,hn]
  | some o=>right;exact⟨o,by simp[Ku,NG,hu,hn]⟩
theorem ayg{e:gJ E}{r:List (gJ E)}(h:DT O ops n glob objs next e r):e.cls=0\/e.cls=1\/e.cls=2:=by obtain⟨hi,o,res,ho,hpr,_,_,hres,hdn,_,hdst,_,heff,hcls⟩:=h;exact hcls
theorem M8:∀{c pr:Nat} {r:List (gJ E)},aao c pr r=true->∀e∈r,c=2->e.cls≠0->Nat.testBit pr e.i=true
 | _,_,[],_,e,he=>by cases he
 | c,pr,p::r,h,e,he=>by
  unfold aao at h;simp only[abG]at h;cases he with
  | tail _ he=>exact M8 h.2 e he
  | head =>grind
theorem ahA:∀{r:List (gJ E)},aht r=false->∀e∈r,e.cls=0\/e.cls=1
 | [],_,e,he=>by cases he
 | p::r,h,e,he=>by
  unfold aht at h;simp only[Bool.or_eq_false_iff]at h;cases he with
  | tail _ he=>exact ahA h.2 e he
  | head =>grind
theorem arB{l:List Nat}{i:Nat}(h:i∈l):mem1 l i=true:=by
 induction l with
 | nil=>cases h
 | cons a t ih =>
  unfold mem1;cases h with
  | head=>simp
  | tail _ h=>rw[ih h,ahV]
theorem Bt{ids:List Nat}:∀{l:List (Nat×aS E)} {id:Nat} {o:aS E},look (aar ids l) id=some o->look l id=some o/\mem1 ids id=false
 | [],_,_,h=>by cases h
 | (i,x)::r,id,o,h=>by
  unfold aar at h;cases hm:mem1 ids i with
  | true =>
   rw[hm]at h;obtain⟨h1,h2⟩:=Bt h;refine⟨?_,h2⟩;rw[aX];have hne:Nat.beq i id=false:=by
    cases hb:Nat.beq i id with
    | false=>rfl
    | true=>have:=aax hb;subst this;rw[hm]at h2;cases h2
   rw[hne];exact h1
  | false =>
   rw[hm]at h;rw[aX]at h ⊢;split at h
   ·rename_i hb;have:=aax hb;grind
   ·rename_i hb;rw[if_neg hb];exact Bt h
theorem K8:∀{l:List (Nat×aS E)} {id:Nat},id∉l.map (·.1)->look l id=none
 | [],_,_=>rfl
 | (i,x)::r,id,h=>by rw[aX];rw[if_neg (fun hb=>h (by have:=aax hb;subst this;exact aa1))];exact K8 (fun hm=>h (aa6 _ hm))
theorem aoY{r:List (gJ E)}{x:gJ E}(hx:x∈r){id:Nat}(h:id∈x.pq.map (·.1)):id∈aaq r:=by
 induction r with
 | nil=>cases hx
 | cons p r ih =>unfold aaq;grind
theorem Hw{D:Nat->Bool}{id:Nat}{r:List (gJ E)}:∀{pre:List (gJ E)},(∀x∈pre,D x.i=true->look x.pq id=none)->look (jo D objs (pre++r)) id=look (jo D objs r) id
 | [],_=>rfl
 | p::pre,h=>by
  have ih:=Hw (r:=r) (pre:=pre) (fun x hx=>h x (aa6 _ hx));simp only[ae0,jo];cases hd:D p.i with
  | false=>exact ih
  | true =>simp only[cond_true];rw[ni,h p aa1 hd];exact ih
theorem gG.at_{pre r:List (gJ E)}{e:gJ E}(h:gG O ops n glob objs next (pre++e::r)):DT O ops n glob objs next e r:=h.split.2
theorem gG.Iy{L:List (gJ E)}(h:gG O ops n glob objs next L){e:gJ E}(he:e∈L):∃pre r,L=pre++e::r/\DT O ops n glob objs next e r:=by obtain⟨pre,r,rfl⟩:=ant he;exact⟨pre,r,rfl,h.at_⟩
theorem ahB{D:Nat->Bool}:∀{pre l:List (gJ E)},(∀e∈pre,D e.i=true->e.pq=[])->jo D objs (pre++l)=jo D objs l
 | [],l,_=>rfl
 | p::pre,l,h=>by simp only[ae0,jo];rw[ahB (pre:=pre) (fun e he=>h e (aa6 _ he))];grind
theorem KA{D D':Nat->Bool}:∀{r:List (gJ E)},(∀e∈r,e.pq≠[]->D e.i=D' e.i)->jo D objs r=jo D' objs r
 | [],_=>rfl
 | p::r,h=>by simp only[jo];rw[KA (r:=r) (fun e he=>h e (aa6 _ he))];grind
theorem XB{D D':Nat->Bool}{e:gJ E}{r:List (gJ E)}:∀{pre:List (gJ E)} (_:∀x∈pre,D' x.i=D x.i) (_:∀x∈r,D' x.i=D x.i) (_:D e.i=false) (_:D' e.i=true)
  (_:∀x∈pre,D x.i=true->∀p∈x.pq, ∀q∈e.pq,p.1≠q.1) (id:Nat),look (jo D' objs (pre++e::r)) id=(match look e.pq id with | some o=>some o | none=>look (jo D objs (pre++e::r)) id)
 | [],_,hr,he,he',_,id=>by simp only[aeK,jo,he,he',cond_true,cond_false];rw[KA (D:=D') (D':=D) (fun x hx _=>hr x hx),ni];cases look e.pq id<;>rfl
 | p::pre,hp,hr,he,he',hd,id=>by
  have ih:=XB (D:=D) (D':=D') (e:=e) (r:=r) (pre:=pre) (fun x hx=>hp x (aa6 _ hx)) hr he he' (fun x hx=>hd x (aa6 _ hx)) id;simp only[ae0,jo];rw[hp p aa1];cases hD:D p.i with
  | false=>simpa using ih
  | true =>
   simp only[cond_true];rw[ni,ni,ih];cases hpe:look p.pq id with
   | none=>rfl
   | some o =>
    have hm:=jW _ _ _ hpe;cases hq:look e.pq id with
    | none=>rfl
    | some q =>have hm':=jW _ _ _ hq;grind
theorem Ua{D:Nat->Bool}:∀{L:List (gJ E)},(∀e∈L,D e.i=true->e.pq=[]\/∃o,e.pq=[(next+e.i,o)])->∀{id:Nat} {o:aS E},look (jo D objs L) id=some o ->
  (∃e∈L,D e.i=true/\e.pq=[(id,o)])\/look objs id=some o
 | [],_,id,o,h=>.inr h
 | p::r,hs,id,o,h=>by
  have ih:=Ua (D:=D) (L:=r) (fun e he=>hs e (aa6 _ he)) (id:=id) (o:=o);have lift:((∃e∈r,D e.i=true/\e.pq=[(id,o)])\/look objs id=some o)->(∃e∈p::r,D e.i=true/\e.pq=[(id,o)])\/look objs id=some o:=by grind
  simp only[jo]at h;cases hd:D p.i with
  | false=>rw[hd]at h;exact lift (ih h)
  | true =>
   rw[hd]at h;simp only[cond_true]at h;rcases hs p aa1 hd with he | ⟨ob,he⟩
   ·rw[he]at h;exact lift (ih h)
   ·rw[he]at h;simp only[ae0,aeK,aX]at h;split at h
    ·rename_i hb;have:=aax hb;grind
    ·exact lift (ih h)
theorem gG.pairwise{L:List (gJ E)}(h:gG O ops n glob objs next L):L.Pairwise fun e e'=>e.i≠e'.i:=by
 induction L with
 | nil=>exact .nil
 | cons p r ih=>exact .cons (fun e he=>by have:=h.1.lt e he;have:=h.2.1;omega) (ih h.1)
theorem Ub{D:Nat->Bool}:∀{L:List (gJ E)},(∀e∈L,D e.i=true->e.pq=[]\/∃o,e.pq=[(next+e.i,o)])->L.Pairwise (fun e e'=>e.i≠e'.i)->(∀id o,look objs id=some o->id<next) ->
  ∀{id:Nat} {o:aS E},((∃e∈L,D e.i=true/\e.pq=[(id,o)])\/look objs id=some o)->look (jo D objs L) id=some o
 | [],_,_,_,id,o,h=>by
  rcases h with⟨e,he,_⟩ | h
  ·cases he
  ·exact h
 | p::r,hs,hu,kX,id,o,h=>by
  cases hu with
  | cons hu1 hu2 =>
   have ih:=Ub (D:=D) (L:=r) (fun e he=>hs e (aa6 _ he)) hu2 kX (id:=id) (o:=o);simp only[jo];have hrest:(p.pq=[(id,o)]/\D p.i=true)\/(((∃e∈r,D e.i=true/\e.pq=[(id,o)])\/look objs id=some o)):=by grind
   cases hd:D p.i with
   | false =>grind
   | true =>
    simp only[cond_true];rcases hrest with⟨h,_⟩ | h
    ·rw[h];simp[aX]
    ·rcases hs p aa1 hd with he | ⟨ob,he⟩
     ·rw[he];exact ih h
     ·rw[he];simp only[ae0,aeK,aX];rw[if_neg]
      ·exact ih h
      ·intro hb;have hid:=aax hb;grind
theorem K9{L:List (gJ E)}(hL:gG O ops n glob objs next L)(kX:∀id o,look objs id=some o->id<next)(D:Nat->Bool):∀id o,look (jo D objs L) id=some o->id<next+L.length:=by
 induction L generalizing D with
 | nil=>intro id o h;have:=kX id o h;simp;omega
 | cons p r ih =>
  intro id o h;simp only[jo]at h;simp only[List.length_cons];cases hd:D p.i with
  | false=>rw[hd]at h;have:=ih hL.1 D id o h;omega
  | true =>
   rw[hd]at h;simp only[cond_true]at h;rw[ni]at h;cases hp:look p.pq id with
   | none=>rw[hp]at h;have:=ih hL.1 D id o h;omega
   | some q =>
    obtain⟨hi,op,res,_,_,_,hev,_,_,_,_,_,heff,_⟩:=hL.2;rw[heff]at hp;rcases Jl hp with⟨_,h2⟩ | ⟨h1,_⟩ | ⟨h1,_⟩
    ·omega
    ·obtain⟨o',h2,_⟩:=WC hev h1;simp only[ze,Jm]at h2;split at h2
     ·cases h2
     ·split at h2
      ·have:=kX id o' (Bt h2).1;omega
      ·have:=ih hL.1 _ id o' h2;omega
     ·have:=ih hL.1 _ id o' h2;omega
    ·cases h1
theorem arC{r:List (gJ E)}(hLr:gG O ops n glob objs next r)(kX:∀id o,look objs id=some o->id<next){c pr id:Nat}{o:aS E}(h:look (Jm c pr objs r) id=some o):id<next+r.length:=by
 unfold Jm at h;split at h
 ·cases h
 ·split at h
  ·have:=kX id o (Bt h).1;omega
  ·exact K9 hLr kX _ id o h
 ·exact K9 hLr kX _ id o h
theorem arD{dY:Nat}{r:gF E}{q:Nat×aS E}(h:q∈Ku dY r):q.1=dY\/∃o,r.upd=some (q.1,o):=by unfold Ku NG at h;grind
theorem aoZ{L:List (gJ E)}(hL:gG O ops n glob objs next L){pre r:List (gJ E)}{e:gJ E}(hsplit:L=pre++e::r)(he:DT O ops n glob objs next e r){D:Nat->Bool}(hD:D e.i=false)(kX:∀id o,look objs id=some o->id<next)
  (hclosed:∀x∈L,D x.i=true->∀j,Nat.testBit x.pr j=true->D j=true) (hpr:∀j,Nat.testBit e.pr j=true->D j=true) {id:Nat} {o:aS E} (h:look (Jm e.cls e.pr objs r) id=some o) :
  look (jo D objs L) id=some o:=by
 have he0:=he;obtain⟨hi,op,res,ho,aG5,hck,_,_,_,_,_,_,_,hcl⟩:=he;have hck:=M8 hck;have hLr:gG O ops n glob objs next r:=by rw[hsplit]at hL;exact hL.split.1
 have hcls:e.cls≠0:=fun h0=>by rw[h0]at h;cases h
 have hid:id<next+e.i:=by
  rw[hi];unfold Jm at h;split at h
  ·cases h
  ·split at h
   ·have:=kX id o (Bt h).1;omega
   ·exact K9 hLr kX _ id o h
  ·exact K9 hLr kX _ id o h
 have hsub:∀x∈r,x∈L:=fun x hx=>by rw[hsplit];exact anB _ (aa6 _ hx)
 have ahC:∀x∈L,x.cls=0\/x.cls=1->x.pq=[]\/∃o,x.pq=[(next+x.i,o)]:=by
  intro x hx hc;obtain⟨p1,p2,_,hx'⟩:=hL.Iy hx;rcases hc with hc | hc
  ·exact .inl (QF hx' hc)
  ·exact ahz hx' hc
 have hpre:∀x∈pre,D x.i=true->look x.pq id=none:=by
  intro x hx G7;have hxL:x∈L:=by rw[hsplit];exact List.mem_append_left _ hx
  obtain⟨p1,p2,rfl⟩:=ant hx;have hx':DT O ops n glob objs next x (p2++e::r):=by refine gG.at_ (pre:=p1) ?_;rw[hsplit]at hL;simpa using hL
  have hxi:=hx'.1;simp only[List.length_append,List.length_cons]at hxi;obtain⟨_,op',res',_,_,aAr,_,_,_,_,_,_,_,hcl'⟩:=hx';have aAr:=M8 aAr e (by simp);obtain⟨_,_,_,hx''⟩:=hL.Iy hxL;have aF6:x.cls=0\/x.cls=1->look x.pq id=none:=by
   intro hc;rcases ahC x hxL hc with h | ⟨o',h⟩
   ·rw[h];rfl
   ·rw[h];exact K8 (by simp;omega)
  grind
 rw[hsplit,Hw hpre];simp only[jo,hD,cond_false];by_cases h2:e.cls=2
 ·
  rw[h2]at h;have h:look (jo (Nat.testBit e.pr) objs r) id=some o:=h;rw[KA (D:=D) (D':=Nat.testBit e.pr) (fun x hx hne=>?_)]
  ·exact h
  ·have hb:=hck x hx h2 (fun hc=>hne (by
    obtain⟨p1,p2,_,hx'⟩:=hL.Iy (hsub x hx);exact QF hx' hc))
   rw[hb,hpr _ hb]
 ·have h1:e.cls=1:=by
   grind
  rw[h1]at h;simp only[Jm]at h;cases h2:aht r with
  | false =>
   rw[h2]at h;have hr1:=ahA h2;have hpw:r.Pairwise (fun e e'=>e.i≠e'.i):=hLr.pairwise;refine Ub (D:=D) (L:=r) (fun x hx _=>ahC x (hsub x hx) (hr1 x hx)) hpw kX ?_;rcases Ua (D:=Nat.testBit e.pr) (L:=r) (fun x hx _=>ahC x (hsub x hx) (hr1 x hx)) h with⟨x,hx,hb,heff⟩ | h
   ·exact .inl ⟨x,hx,hpr _ hb,heff⟩
   ·exact .inr h
  | true =>
   rw[h2]at h;obtain⟨h3,h4⟩:=Bt h;have:=Hw (D:=D) (objs:=objs) (id:=id) (r:=[]) (pre:=r) (fun x hx _=>K8 (fun hm=>by rw[arB (aoY hx hm)]at h4;cases h4))
   rw[abR]at this;rw[this];exact h3
end
end
end Go.Proofs.YtclnniijooeajaaGreatDoor.bA
namespace Go.Proofs.YtclnniijooeajaaGreatDoor.bA
open Go Go.RowKit
section
section
variable {P:Program} {E:Env P} {O:aI E} {ops:Array Oper} {n next:Nat} {glob:List (Nat×AV E)} {objs:List (Nat×aS E)} {w0:Start} {aQ:Nat->Nat->Prop}
structure Inv (E:Env P) (w0:Start) (aQ:Nat->Nat->Prop) (ops:Array Oper) (n next:Nat) (glob:List (Nat×AV E)) (objs:List (Nat×aS E)) (L:List (gJ E)) (D:Nat->Bool) (a:Act) (w:World) (ι:Nat->Option Gh) (ro:Nat->Nat->Prop):Prop where
 base:Base w0 aQ a w ι ro
 size:a.tmps.size=n
 slots:∀e∈L,D e.i=true->∀t,e.dst=some t->∃v,a.tmps[t]? = some v/\Cr E w ro ι a.tmps v e.x
 gl:∀t x,look glob t=some x->(∀e∈L,e.dst=some t->D e.i=false)->∃v,a.tmps[t]? = some v/\Cr E w ro ι a.tmps v x
 ob:∀id o,look (jo D objs L) id=some o->kr E w ro ι id o
 inj:Inj E (jo D objs L) ι
 fresh:∀id,next<=id->ι id≠none->∃e∈L,D e.i=true/\id=next+e.i
 closed:∀e∈L,D e.i=true->∀j,Nat.testBit e.pr j=true->D j=true
theorem kr.ayh{w:World}{ro:Nat->Nat->Prop}{ι:Nat->Option Gh}{id:Nat}{o:aS E}(h:o.live=false):kr E w ro ι id o:=by
 cases o with
 | dead=>trivial
 | box cs=>cases h
 | tail l=>intro hl;simp only[aS.live]at h;rw[h]at hl;cases hl
 | row t l=>cases h
 | mp _ _ _=>cases h
 | lp _ _ _ _ _ _ _=>cases h
 | Ji=>cases h
 | arr _ _ _=>cases h
theorem kr.ghost{w:World}{ro:Nat->Nat->Prop}{ι:Nat->Option Gh}{id:Nat}{o:aS E}(h:kr E w ro ι id o)(hl:o.live=true):ι id≠none:=by
 cases o with
 | dead=>cases hl
 | box cs=>obtain⟨gh,_,_,_,hi,_⟩:=h;rw[hi];simp
 | tail l=>obtain⟨gh,_,hi,_⟩:=h hl;rw[hi];simp
 | row t l=>obtain⟨gh,_,hi,_⟩:=h;rw[hi];simp
 | mp _ _ _=>obtain⟨gh,_,_,hi,_⟩:=h;rw[hi];simp
 | lp _ _ _ _ _ _ _=>obtain⟨gh,_,_,hi,_⟩:=h;rw[hi];simp
 | Ji=>obtain⟨gh,_,hi,_⟩:=h;rw[hi];simp
 | arr _ _ _=>obtain⟨_,gh,_,_,_,hi,_⟩:=h;rw[hi];simp
theorem ao0{e:gJ E}{r:List (gJ E)}(he:DT O ops n glob objs next e r){gs:Nat}{want:Bool}{u:AV E}(hx:e.x = .cond gs want u):∃g∈r,Nat.testBit e.pr g.i=true/\g.dst=some gs:=by
 obtain⟨hi,o,res,ho,hpr,_,hev,_,_,_,_,hex,_⟩:=he;rw[hex]at hx;unfold evG at hev;split at hev
 ·
  have h2:=(TY hev).2;rw[hx]at h2;cases h2
 ·rename_i j want' hg;split at hev
  ·cases hev
  ·rename_i gs' hgs;split at hev
   ·cases hev
   ·rename_i b asm hguard;split at hev
    ·cases hev;cases hx;have hl:∃y,look (ze n ops glob objs e.cls e.pr (next+e.i) e.i r).tmps gs=some y/\y ≠ .any:=by
      unfold guardOf at hguard;grind
     obtain⟨y,hy,hne⟩:=hl;simp only[ze]at hy;rw[ni]at hy;cases hs:look (Ai (Nat.testBit e.pr) r) gs with
     | some z =>obtain⟨g,hg1,hg2,hg3,_⟩:=Jo hs;exact⟨g,hg1,hg2,hg3⟩
     | none =>
      rw[hs,ni]at hy;simp only at hy;cases hh:look (DR (E:=E) (QC ops) ops.toList e.i ops.toList 0) gs with
      | some z =>rw[hh]at hy;cases hy;exact absurd (Kw hh).1 hne
      | none =>
       exfalso;unfold agr at hgs;cases hj:ops[j]? with
       | none=>rw[hj]at hgs;cases hgs
       | some oj =>
        rw[hj]at hgs;have h1:=(zP hh j oj (by simpa using hj) (by simpa using hgs)).2;rw[aeY]at h1;have h2:QD ops.toList j=true:=by unfold QD;rw[List.any_eq_true];exact⟨o,Array.mem_toList_iff.2 (Array.mem_of_getElem? ho),by rw[hg];simp⟩
        rw[h2]at h1;cases h1
    ·cases hev
theorem ayi{L:List (gJ E)}(hL:gG O ops n glob objs next L)(hlen:L.length=ops.size):∀o∈ops.toList, ∃e∈L,e.dst=o.dst/\∀t,o.dst=some t->t<n:=by
 intro o ho;obtain⟨j,hj⟩:=List.getElem?_of_mem ho;have hj':ops[j]? = some o:=by simpa using hj
 have hlt:j<ops.size:=(Array.getElem?_eq_some_iff.1 hj').1;obtain⟨e,he,hei⟩:=hL.has j (by omega);obtain⟨pre,r,_,hi,op,res,hop,_,_,_,_,hdn,_,hdst,_⟩:=hL.Iy he;rw[hei,hj']at hop;cases hop;refine⟨e,he,hdst,fun t ht=>?_⟩;rw[ht]at hdn;exact(QE hdn).1
theorem auM(hO:aL E O){L:List (gJ E)}(hL:gG O ops n glob objs next L)(hlen:L.length=ops.size)(hnc:aR glob)(kX:∀id o,look objs id=some o->id<next){D D':Nat->Bool}{a:Act}{w:World}{ι:Nat->Option Gh}{ro:Nat->Nat->Prop}
  (hinv:Inv E w0 aQ ops n next glob objs L D a w ι ro) {e:gJ E} (heL:e∈L) (hDe:D e.i=false) {o:Oper} (ho:ops[e.i]? = some o) (ahD:∀ed∈o.after.toList,Region.binds .any ed=true->D ed.on=true)
  (hD':∀j,D' j=true↔(D j=true\/j=e.i)) {K:Act->World->Prop} {Q:Exit->Act->World->Prop} (hK:∀a' w' ι' ro',Inv E w0 aQ ops n next glob objs L D' a' w' ι' ro'->K a' w') :
  if Region.wanted o (yielded ops a.tmps)=true then o.wp P a w K Q else K (a.put o.dst undef) w:=by
 obtain⟨pre,r,hsplit,hent⟩:=hL.Iy heL;have ao1:=hent;obtain⟨hi,o',res,ho',hpr,hck,hev,hres,hdn,hok,hdst,hex,heff,hcls⟩:=hent;rw[ho]at ho';cases ho';have hrL:∀x∈r,x∈L:=fun x hx=>by rw[hsplit];exact anB _ (aa6 _ hx)
 have auN:∀j,Nat.testBit e.pr j=true->D j=true:=by
  intro j hj;obtain⟨ed,hed,hb,x,hx,hxi,hj'⟩:=(NI hpr).1 j hj;have G7:D ed.on=true:=ahD ed hed hb;rcases hj' with rfl | hj'
  ·exact G7
  ·exact hinv.closed x (hrL x hx) (by rw[hxi];exact G7) j hj'
 have hfresh:ι (next+e.i)=none:=by
  cases hgh:ι (next+e.i)with
  | none=>rfl
  | some gh =>exfalso;obtain⟨x,hx,G7,hid⟩:=hinv.fresh (next+e.i) (by omega) (by rw[hgh];simp);have:=hL.uniq e heL x hx (by omega);subst this;rw[hDe]at G7;cases G7
 have M5:∀id ob,look (ze n ops glob objs e.cls e.pr (next+e.i) e.i r).objs id=some ob->look (jo D objs L) id=some ob:=by intro id ob hl;simp only[ze]at hl;exact aoZ hL hsplit ao1 hDe kX hinv.closed auN hl
 have M7:xR E w ro ι a (ze n ops glob objs e.cls e.pr (next+e.i) e.i r).tmps:=by
  intro t x hl;simp only[ze]at hl;rw[ni]at hl;cases hs:look (Ai (Nat.testBit e.pr) r) t with
  | some z =>rw[hs]at hl;cases hl;obtain⟨g,hg1,hg2,hg3,hg4⟩:=Jo hs;rw[hg4];exact hinv.slots g (hrL g hg1) (auN _ hg2) t hg3
  | none =>
   rw[hs,ni]at hl;simp only at hl;cases hh:look (DR (E:=E) (QC ops) ops.toList e.i ops.toList 0) t with
   | some z =>
    rw[hh]at hl;cases hl;obtain⟨hz,op,hop,aFf⟩:=Kw hh;subst hz;obtain⟨_,_,_,hlt⟩:=ayi hL hlen op hop;have hlt:=hlt t aFf;have hsz:t<a.tmps.size:=by rw[hinv.size];exact hlt
    exact⟨a.tmps[t],aeO hsz,.any _⟩
   | none =>
    rw[hh]at hl;refine hinv.gl t x hl fun x' hx' hd'=>?_
    obtain⟨p1,p2,aG6,hx2⟩:=hL.Iy hx';obtain⟨_,op,_,hop,_,_,_,_,_,_,hdd,_⟩:=hx2;have h1:=(zP hh x'.i op (by simpa using hop) (by rw[<- hdd];exact hd')).1;rw[aeY]at h1;unfold ahs at h1;rw[hL.tab hlen x' hx']at h1;cases G7:D x'.i with
    | false=>rfl
    | true =>have:=hinv.closed x' hx' G7 e.i h1;rw[hDe]at this;cases this
 refine ad9 (S:=ze n ops glob objs e.cls e.pr (next+e.i) e.i r) hinv.base.aT M7 (fun id ob hl=>hinv.ob id ob (M5 id ob hl)) hfresh hO hev hok fun val w' ι' ro' hp QA=>?_
 have vY:∀id ob,res.upd=some (id,ob)->∃o',look (jo D objs L) id=some o'/\o'.live=true:=by intro id ob hu;obtain⟨o',h1,h2⟩:=WC hev hu;exact⟨o',M5 id o' h1,h2⟩
 have hilt:∀id gh k,ι id=some gh->gh.blk=some k->k<w.heap.size:=fun id gh k h1 h2=>(hinv.base.uE id gh k h1 h2).2
 have hext:=hp.ext hfresh;have arE:∀x∈L,x.i≠e.i->D' x.i=D x.i:=by
  intro x _ hne;cases hd:D x.i with
  | true=>exact(hD' x.i).2 (.inl hd)
  | false =>
   cases hd':D' x.i with
   | false=>rfl
   | true =>
    rcases(hD' x.i).1 hd' with h | h
    ·rw[hd]at h;cases h
    ·exact absurd h hne
 have hlive:∀id ob,look (jo D objs L) id=some ob->ob.live=true->id≠next+e.i:=by intro id ob hl hlv he;subst he;exact(hinv.ob _ ob hl).ghost hlv hfresh
 have aAt:∀x∈L,x≠e->x.i≠e.i:=fun x hx hne hi=>hne (hL.uniq x hx e heL hi)
 have ao2:∀x∈pre,x.i≠e.i:=by intro x hx;have hp':=hL.pairwise;rw[hsplit,List.pairwise_append]at hp';exact hp'.2.2 x hx e aa1
 have hrI:∀x∈r,x.i≠e.i:=by
  intro x hx;have hp':=hL.pairwise;rw[hsplit,List.pairwise_append]at hp';cases hp'.2.1 with
  | cons h1 _=>exact fun h=>h1 x hx h.symm
 have awI:∀id ob,look (jo D' objs L) id=some ob->look e.pq id=some ob\/(look e.pq id=none/\look (jo D objs L) id=some ob):=by
  intro id ob hl;rw[hsplit]at hl;rw[XB (D:=D) (D':=D') (e:=e) (r:=r) (pre:=pre) (fun x hx=>arE x (by rw[hsplit];exact List.mem_append_left _ hx) (ao2 x hx)) (fun x hx=>arE x (hrL x hx) (hrI x hx)) hDe ((hD' e.i).2 (.inr rfl)) ?_ id]at hl
  ·rw[<- hsplit]at hl;cases hq:look e.pq id with
   | none=>rw[hq]at hl;exact .inr ⟨rfl,hl⟩
   | some q=>rw[hq]at hl;cases hl;exact .inl rfl
  ·
   intro x hx G7 p hp q hq heq;have hxL:x∈L:=by rw[hsplit];exact List.mem_append_left _ hx
   obtain⟨p1,p2,hsp,hx'⟩:=hL.Iy hxL;have hcl0:e.cls≠0:=by intro h0;rw[QF ao1 h0]at hq;cases hq
   have aAu:e∈p2:=by
    have h1:e∈p1++x::p2:=by rw[<- hsp];exact heL
    have hxe:x.i > e.i:=by
     obtain⟨q1,q2,rfl⟩:=ant hx;have hxx:DT O ops n glob objs next x (q2++e::r):=by refine gG.at_ (pre:=q1) ?_;rw[hsplit]at hL;simpa using hL
     have:=hxx.1;simp only[List.length_append,List.length_cons]at this;omega
    rcases List.mem_append.1 h1 with h | h
    ·exfalso;obtain⟨q1,q2,rfl⟩:=ant h;have hee:DT O ops n glob objs next e (q2++x::p2):=by
      refine gG.at_ (pre:=q1) ?_;rw[hsp]at hL;simpa using hL
     have h2:=hee.1;have h3:=hx'.1;simp only[List.length_append,List.length_cons]at h2;omega
    ·cases h with
     | head=>exact absurd rfl (ao2 _ hx)
     | tail _ h=>exact h
   have hgt:e.i<x.i:=by
    obtain⟨q1,q2,hq⟩:=ant aAu;have h1:gG O ops n glob objs next p2:=by rw[hsp]at hL;exact hL.split.1
    rw[hq]at h1;have h2:=h1.at_.1;have h3:=hx'.1;rw[hq]at h3;simp only[List.length_append,List.length_cons]at h3;omega
   obtain⟨_,opx,_,_,_,auO,_,_,_,_,_,_,_,aG7⟩:=hx';have auO:=M8 auO e aAu;obtain⟨_,_,_,hx''⟩:=hL.Iy hxL;rcases ayg hx'' with h | h | h
   ·rw[QF hx'' h]at hp;cases hp
   ·rcases ahz hx'' h with h1 | ⟨o1,h1⟩
    ·rw[h1]at hp;cases hp
    ·rw[h1]at hp;simp only[List.mem_singleton]at hp;have hxe2:=ao2 x hx;have hpq:p.1=next+x.i:=by rw[hp]
     rw[heff]at hq;rcases arD hq with hq1 | ⟨o1,hq1⟩
     ·omega
     ·obtain⟨o2,hq2,_⟩:=WC hev hq1;simp only[ze]at hq2;have:=arC (by rw[hsplit]at hL;exact hL.split.1) kX hq2;have:=ao1.1;omega
   ·have:=hinv.closed x hxL G7 e.i (auO h hcl0);rw[hDe]at this;cases this
 have awJ:∀id ob,look e.pq id=some ob->(res.new=some ob/\id=next+e.i)\/res.upd=some (id,ob):=by
  intro id ob hl;rw[heff]at hl;rcases Jl hl with h | ⟨h,_⟩ | ⟨h,_⟩
  ·exact .inl h
  ·exact .inr h
  ·cases h
 have awK:∀id,look e.pq id=none->(∀ob,res.upd≠some (id,ob))/\(id=next+e.i->res.new=none):=by
  intro id hl;rw[heff]at hl;unfold Ku NG at hl;refine⟨fun ob hu=>?_,fun hid=>?_⟩
  ·rw[hu]at hl;cases hn:res.new<;>rw[hn]at hl<;>simp[aX]at hl<;>(split at hl<;>cases hl)
  ·cases hn:res.new with
   | none=>rfl
   | some q=>rw[hn,hid]at hl;simp[aX]at hl
 refine hK _ w' ι' ro' {
  base:=hinv.base.step hp hfresh o.dst
  size:=Qz.trans hinv.size
  slots:=fun x hx G7 t ht=>?_
  gl:=fun t x hl hno=>?_
  ob:=fun id ob hl=>?_
  inj:=?_
  fresh:=fun id hid hgh=>?_
  closed:=fun x hx G7 j hj=>?_ }
 ·
  by_cases hxe:x=e
  ·subst hxe;rw[hdst]at ht;rw[ht]at hdn;obtain⟨hlt,hgs,hnew⟩:=QE hdn;have hsz:t<a.tmps.size:=by rw[hinv.size];exact hlt
   refine⟨val,by rw[ht];simp[Act.put,hsz],?_⟩;rw[hex];refine QA _ fun gs want u hc=>?_
   rw[ht];exact EL (fun h=>by cases h;exact hgs _ _ _ hc rfl)
  ·have ao3:D x.i=true:=by
    rcases(hD' x.i).1 G7 with h | h
    ·exact h
    ·exact absurd h (aAt x hx hxe)
   obtain⟨v,hv,hs⟩:=hinv.slots x hx ao3 t ht;have auP:o.dst≠some t:=fun h=>hxe (hL.ahv x hx e heL t ht (by rw[hdst];exact h))
   refine⟨v,(EL auP).trans hv,(hs.mono hp.mono hp.cell hext).tm fun gs want u hc=>?_⟩;obtain⟨p1,p2,hsp,hx'⟩:=hL.Iy hx;obtain⟨g,hg,hgb,hgd⟩:=ao0 hx' hc;refine EL fun h=>?_
   have hgL:g∈L:=by rw[hsp];exact anB _ (aa6 _ hg)
   have hge:=hL.ahv g hgL e heL gs hgd (by rw[hdst];exact h);subst hge;have:=hinv.closed x hx ao3 g.i hgb;rw[hDe]at this;cases this
 ·
  obtain⟨v,hv,hs⟩:=hinv.gl t x hl fun x' hx' hd'=>by
   cases G7:D x'.i with
   | false=>rfl
   | true =>have h1:=hno x' hx' hd';rw[(hD' x'.i).2 (.inl G7)]at h1;cases h1
  have auP:o.dst≠some t:=fun hd=>by have h1:=hno e heL (by rw[hdst];exact hd);rw[(hD' e.i).2 (.inr rfl)]at h1;cases h1
  refine⟨v,(EL auP).trans hv,(hs.mono hp.mono hp.cell hext).tm fun gs want u hc=>?_⟩;have:=hnc _ (jW _ _ _ hl);rw[hc]at this;cases this
 ·
  rcases awI id ob hl with h | ⟨h,h'⟩
  ·rcases awJ id ob h with⟨h1,h2⟩ | h
   ·subst h2;exact hp.new ob h1
   ·exact hp.upd id ob h
  ·cases hlv:ob.live with
   | false=>exact .ayh hlv
   | true=>exact kr.step hp hfresh hinv.inj vY hilt h' (hlive id ob h' hlv) (awK id h).1 (hinv.ob id ob h')
 ·refine ahq hp hinv.inj vY hilt hlive _ fun id ob hl=>?_
  rcases awI id ob hl with h | ⟨h,h'⟩
  ·rcases awJ id ob h with h | h
   ·exact .inl h
   ·exact .inr (.inl h)
  ·exact .inr (.inr ⟨h',(awK id h).1⟩)
 ·by_cases hne:id=next+e.i
  ·exact⟨e,heL,(hD' e.i).2 (.inr rfl),hne⟩
  ·rw[hp.lF id hne]at hgh;obtain⟨x,hx,G7,h⟩:=hinv.fresh id hid hgh;exact⟨x,hx,(hD' x.i).2 (.inl G7),h⟩
 ·by_cases hxe:x=e
  ·subst hxe;exact(hD' j).2 (.inl (auN j hj))
  ·have ao3:D x.i=true:=by
    rcases(hD' x.i).1 G7 with h | h
    ·exact h
    ·exact absurd h (aAt x hx hxe)
   exact(hD' j).2 (.inl (hinv.closed x hx ao3 j hj))
theorem Uc(listed:Array Bool)(i:Nat):i∈Region.ready .any ops listed↔i<ops.size/\listed.getD i true=false/\∃o,ops[i]? = some o/\∀ed∈o.after.toList,Region.binds .any ed=true->listed.getD ed.on false=true:=by
 unfold Region.ready;simp only[List.mem_filter,List.mem_range,abG,ajv];constructor
 ·rintro⟨h1,h2,h3⟩;refine⟨h1,h2,?_⟩;rw[aeO h1]at h3 ⊢;refine⟨_,rfl,fun ed hed hb=>?_⟩;simp only[aiM,am0,Array.all_eq_true_iff_forall_mem]at h3;grind
 grind
theorem auQ(listed:Array Bool){i j:Nat}(hi:i<listed.size):(listed.setIfInBounds i true).getD j false=true↔(listed.getD j false=true\/j=i):=by simp only[ah2,Array.getElem?_setIfInBounds];grind
theorem ao4{R:Type}(hO:aL E O){a:Act}{w:World}{ι:Nat->Option Gh}{ro:Nat->Nat->Prop}(hnc:aR glob)(hg:bN E w0 aQ ⟨n,glob,objs,next⟩ a w ι ro){k:av E->Option R}{rr:R}{Q:Exit->Act->World->Prop}
  (hk:∀S' a' w' ι' ro',aR S'.tmps->bN E w0 aQ S' a' w' ι' ro'->S'.n=n->k S'=some rr->Q .normal a' w') (h:K7 O ops n glob objs next ops.toList [] 0 k=some rr):wpAny P .any ops Q ops.size (Array.replicate ops.size false) a { w with drawn:=w.drawn+1 }:=by
 obtain⟨L,hL,hlen,hkL⟩:=Xz (ops:=ops) ops.toList [] [] 0 (by simp) rfl rfl trivial h;have kX:∀id o,look objs id=some o->id<next:=hg.ids;have done:∀(listed:Array Bool) (a:Act) (w:World) (ι:Nat->Option Gh) (ro:Nat->Nat->Prop),listed.size=ops.size->Inv E w0 aQ ops n next glob objs L (fun j=>listed.getD j false) a w ι ro->Region.ready .any ops listed=[]->Q .normal a w:=by
  intro listed a w ι ro hsz hinv ahD;have hall:∀j,j<ops.size->listed.getD j false=true:=by
   intro j
   induction j using Nat.strongRecOn with
   | ind j ih =>
    intro hj;cases hd:listed.getD j false with
    | true=>rfl
    | false =>
     exfalso;obtain⟨e,he,hei⟩:=hL.has j (by omega);obtain⟨pre,r,hsp,hent⟩:=hL.Iy he;obtain⟨hi,o,res,ho,hpr,_⟩:=hent;rw[hei]at ho;have hmem:j∈Region.ready .any ops listed:=(Uc listed j).2 ⟨hj,by
      simp only[ah2]at hd ⊢;rw[aeO (by omega)]at hd ⊢;simpa using hd,o,ho,fun ed hed hb=>by
       have hlt:ed.on<j:=by
        obtain⟨x,hx,hxi⟩:=((NI hpr).2 ed hed hb).2;obtain⟨q1,q2,rfl⟩:=ant hx;have hx':DT O ops n glob objs next x q2:=by refine gG.at_ (pre:=pre++e::q1) ?_;rw[hsp]at hL;simpa using hL
        have h1:=hx'.1;simp only[List.length_append,List.length_cons]at hi;omega
       exact ih ed.on hlt (by omega)⟩
     rw[ahD]at hmem;cases hmem
  have awL:∀e∈L,(fun j=>listed.getD j false) e.i=K6 e.i:=fun e he=>hall e.i (by have:=hL.lt e he;omega)
  have ags:jo (fun j=>listed.getD j false) objs L=jo K6 objs L:=KA (fun e he _=>awL e he);have aAv:=hinv.ob;have hinj:=hinv.inj;rw[ags]at aAv hinj;refine hk ⟨n,sw (Ai K6 L)++glob,jo K6 objs L,next+ops.size⟩ a w ι ro (fun p hp=>?_) ⟨hinv.base,hinv.size,xR.clean (loc:=Ai K6 L) (glob:=glob) fun t x hl=>?_,aAv,hinj,fun id hid=>?_,fun id o hl=>?_⟩ rfl hkL
  ·rcases List.mem_append.1 hp with hp | hp
   ·exact DN _ p hp
   ·exact hnc p hp
  ·rw[ni]at hl;cases hs:look (Ai K6 L) t with
   | some z =>rw[hs]at hl;cases hl;obtain⟨g,hg1,_,hg3,hg4⟩:=Jo hs;rw[hg4];exact hinv.slots g hg1 (awL g hg1) t hg3
   | none =>rw[hs]at hl;exact hinv.gl t x hl fun e he hd=>absurd hd (Hu hs e he rfl)
  ·cases hgh:ι id with
   | none=>rfl
   | some gh =>exfalso;have aG8:next+ops.size<=id:=hid;obtain⟨e,he,_,h⟩:=hinv.fresh id (by omega) (by rw[hgh];simp);have:=hL.lt e he;omega
  ·have:=K9 hL kX K6 id o hl;show id<next+ops.size;omega
 have key:∀(fuel:Nat) (listed:Array Bool) (a:Act) (w:World) (ι:Nat->Option Gh) (ro:Nat->Nat->Prop),listed.size=ops.size->(listed.toList.count false<=fuel)->Inv E w0 aQ ops n next glob objs L (fun j=>listed.getD j false) a w ι ro->wpAny P .any ops Q fuel listed a w:=by
  intro fuel
  induction fuel with
  | zero =>
   intro listed a w ι ro hsz hcount hinv;have hr:Region.ready .any ops listed=[]:=by
    rw[List.eq_nil_iff_forall_not_mem];intro i hi;obtain⟨h1,h2,_⟩:=(Uc listed i).1 hi;have hmem:false∈listed.toList:=by simp only[ah2]at h2;rw[aeO (by omega)]at h2;simp at h2;rw[<- h2];exact Array.mem_toList_iff.2 (Array.getElem_mem _)
    have:=List.count_pos_iff.2 hmem;omega
   exact⟨hr,done listed a w ι ro hsz hinv hr⟩
  | succ fuel ih =>
   intro listed a w ι ro hsz hcount hinv;refine⟨fun hr=>done listed a w ι ro hsz hinv hr,fun i hi=>?_⟩;obtain⟨h1,h2,o,ho,h3⟩:=(Uc listed i).1 hi;obtain⟨e,he,hei⟩:=hL.has i (by omega);subst hei;have hDe:listed.getD e.i false=false:=by simp only[ah2]at h2 ⊢;rw[aeO (by omega)]at h2 ⊢;simpa using h2
   have hst:=auM (K:=fun a' w'=>wpAny P .any ops Q fuel (listed.setIfInBounds e.i true) a' w') (Q:=Q) hO hL hlen hnc kX hinv he hDe ho h3 (D':=fun j=>(listed.setIfInBounds e.i true).getD j false) (fun j=>auQ listed (by omega))
    (fun a' w' ι' ro' aCZ=>ih _ a' w' ι' ro' (by simp[hsz]) ?_ aCZ)
   ·unfold wpOp;rw[ho];show if Region.wanted o (yielded ops a.tmps)=true then _ else _
    split
    ·rename_i hw;rw[if_pos hw]at hst;exact .inl hst
    ·rename_i hw;rw[if_neg hw]at hst;exact hst
   ·have hlt:e.i<listed.toList.length:=by rw[afd,hsz];exact h1
    have hget:listed.toList[e.i]=false:=by simp only[ah2]at hDe;rw[aeO (by omega)]at hDe;simpa using hDe
    grind
 refine key ops.size _ a _ ι ro (by simp) ?_ ?_
 ·simp
 ·have hfalse:∀j,(Array.replicate ops.size false).getD j false=false:=by
   intro j;simp only[ah2,Array.getElem?_replicate];split<;>rfl
  have ags:jo (fun j=>(Array.replicate ops.size false).getD j false) objs L=objs:=by have:jo (fun j=>(Array.replicate ops.size false).getD j false) objs (L++[])=jo (fun j=>(Array.replicate ops.size false).getD j false) objs []:=ahB (fun e _ hD=>by simp only[hfalse]at hD;cases hD);rw[abR]at this;exact this
  have drew:∀(v:Value) (x:AV E),Cr E w ro ι a.tmps v x->Cr E { w with drawn:=w.drawn+1 } ro ι a.tmps v x:=fun v x h=>Cr.mono (w:=w) (ι:=ι) (ro:=ro) (fun _ _ h=>h) (fun _ _ _=>rfl) (fun _ _ h=>h) h
  refine {
   base:=⟨⟨hg.base.below.os,hg.base.below.tape,hg.base.below.output,hg.base.below.size,hg.base.below.block⟩,hg.base.aT,hg.base.rE,hg.base.uE,hg.base.defers,hg.base.keep,hg.base.held⟩
   size:=hg.size
   slots:=fun e _ hD=>by simp only[hfalse]at hD;cases hD
   gl:=fun t x hl _=>by obtain⟨v,hv,hs⟩:=hg.tmps t x hl;exact⟨v,hv,drew v x hs⟩
   ob:=fun id o hl=>?_
   inj:=by rw[ags];exact hg.inj
   fresh:=fun id hid hgh=>absurd (hg.fresh id hid) hgh
   closed:=fun e _ hD=>by simp only[hfalse]at hD;cases hD }
  rw[ags]at hl;have:=hg.objs id o hl;cases o with
  | dead=>trivial
  | box cs =>obtain⟨gh,g,vs,ty,h1,h2,hb,h3,h4,h5,h6⟩:=this;exact⟨gh,g,vs,ty,h1,h2,hb,h3,h4,fun j v c hv hc=>⟨(h5 j v c hv hc).1,aP.mono (w:=w) (ι:=ι) (ro:=ro) (fun _ _ h=>h) (fun _ _ _=>rfl) (fun _ _ h=>h) (h5 j v c hv hc).2⟩,h6⟩
  | tail l=>exact this
  | Ji=>exact this
  | arr t l fz =>obtain⟨h0,gh,g,vs,ty,h1,h2,hb,h3,h4,h5,h6⟩:=this;exact⟨h0,gh,g,vs,ty,h1,h2,hb,h3,h4,fun j v c hv hc=>⟨(h5 j v c hv hc).1,aP.mono (w:=w) (ι:=ι) (ro:=ro) (fun _ _ h=>h) (fun _ _ _=>rfl) (fun _ _ h=>h) (h5 j v c hv hc).2⟩,h6⟩
  | lp st pend n tm ps assign body =>
   obtain⟨gh,g,rec,h1,h2,h3,h4,h5⟩:=this;exact⟨gh,g,rec,h1,h2,h3,h4,fun t x hl=>by obtain⟨v,q1,q2⟩:=h5 t x hl;exact⟨v,q1,aP.mono (w:=w) (ι:=ι) (ro:=ro) (fun _ _ h=>h) (fun _ _ _=>rfl) (fun _ _ h=>h) q2⟩⟩
  | mp K V l =>
   obtain⟨gh,g,es,h1,h2,h3,h4,h5,h6⟩:=this;exact⟨gh,g,es,h1,h2,h3,h4,h5,fun j e x he hx=>by obtain⟨k1,k2,k3,k4⟩:=h6 j e x he hx;exact⟨k1,k2,k3,fun i v c hv hc=>⟨(k4 i v c hv hc).1,aP.mono (w:=w) (ι:=ι) (ro:=ro) (fun _ _ h=>h) (fun _ _ _=>rfl) (fun _ _ h=>h) (k4 i v c hv hc).2⟩⟩⟩
  | row t l =>obtain⟨gh,xs,h1,h2,h3,h4,h5,h6,h7⟩:=this;exact⟨gh,xs,h1,h2,h3,h4,tL.frame (w:=w) h5 fun _ _=>rfl,mX.mono (w:=w) (w':={ w with drawn:=w.drawn+1 }) (ro:=ro) (fun _ _ h=>h) (fun _ _ _=>rfl) h6,h7⟩
theorem ahE{R:Type}(hO:aL E O)(dN:P.follows .mixedOrders=true){a:Act}{w:World}{ι:Nat->Option Gh}{ro:Nat->Nat->Prop}(hnc:aR glob)(hg:bN E w0 aQ ⟨n,glob,objs,next⟩ a w ι ro){k:av E->Option R}{rr:R}{Q:Exit->Act->World->Prop}
  (hk:∀S' a' w' ι' ro',aR S'.tmps->bN E w0 aQ S' a' w' ι' ro'->S'.n=n->k S'=some rr->Q .normal a' w') (h:K7 O ops n glob objs next ops.toList [] 0 k=some rr) {id:Nat}:(Code.region id ops true).wp P Q a w :=
 wp_region_any dN (ao4 hO hnc hg hk h)
end
def ahF{P:Program}{E:Env P}{R:Type}(_:aI E)(_:Array Oper)(_:av E)(_:av E->Option R):Option R:=none
section
variable {P:Program} {Q:Exit->Act->World->Prop}
end
section
variable {P:Program} {E:Env P} {O:aI E} {ops:Array Oper} {w0:Start} {aQ:Nat->Nat->Prop}
theorem ahG{R:Type}(_:aL E O)(_:P.follows .mixedOrders=true){S:av E}{a:Act}{w:World}{ι:Nat->Option Gh}{ro:Nat->Nat->Prop}(_:aR S.tmps)(_:bN E w0 aQ S a w ι ro){k:av E->Option R}{rr:R}{Q:Exit->Act->World->Prop}
  (_:∀S' a' w' ι' ro',aR S'.tmps->bN E w0 aQ S' a' w' ι' ro'->S'.n=S.n->k S'=some rr->Q .normal a' w') (h:ahF O ops S k=some rr) {id:Nat}:(Code.region id ops true).wp P Q a w:=by
 unfold ahF at h;cases h
end
end
end Go.Proofs.YtclnniijooeajaaGreatDoor.bA
