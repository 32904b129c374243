/- Part 1 of a proof: the texts F64 MirA MirB MirC MirD MirE MirF MirG MirH, one behind the other. -/
import Derived.Laws.FloatArith
import Derived.Laws.ComplexArith
import Derived.Maps.AppendAt
import Derived.Below
import Derived.KernelRfl
import Derived.LoopN
import Derived.Maps.Keyed
import Derived.Orders
import Derived.WalkKit
import Derived.Laws.Entries
import Derived.Laws.Tables
import Derived.Laws.Cover1
import Derived.Laws.Strings
import Derived.WalkLawsBesides
import Derived.Deep.AppendSrc
import Derived.Laws.Concat
import Derived.Lib.Strings
import Derived.Laws.Cover2
import Derived.Laws.BytesArg
import Derived.Laws.StructEq
import Derived.ChangeKeysEq
theorem aae:type_of% @List.getElem?_eq_getElem:=@List.getElem?_eq_getElem
theorem aah:type_of% @List.length_singleton:=@List.length_singleton
theorem aav:type_of% @List.mem_cons_of_mem:=@List.mem_cons_of_mem
theorem ab1:type_of% @List.mem_cons_self:=@List.mem_cons_self
theorem ab5:type_of% @Nat.eq_of_beq_eq_true:=@Nat.eq_of_beq_eq_true
theorem ab7:type_of% @Int.toNat_natCast:=@Int.toNat_natCast
theorem ab8:type_of% @Nat.zero_le:=@Nat.zero_le
theorem ace:type_of% @List.drop_eq_nil_of_le:=@List.drop_eq_nil_of_le
theorem ach:type_of% @Bool.and_eq_true:=@Bool.and_eq_true
theorem aci:type_of% @List.getElem_cons_drop:=@List.getElem_cons_drop
theorem acj:type_of% @List.length_cons:=@List.length_cons
theorem acn:type_of% @Bool.not_true:=@Bool.not_true
theorem acy:type_of% @Nat.le_trans:=@Nat.le_trans
theorem acJ:type_of% @decide_eq_true_eq:=@decide_eq_true_eq
theorem acK:type_of% @Bool.and_self:=@Bool.and_self
theorem acM:type_of% @Nat.le_refl:=@Nat.le_refl
theorem acN:type_of% @List.append_assoc:=@List.append_assoc
theorem acO:type_of% @Bool.not_false:=@Bool.not_false
theorem acP:type_of% @List.append_nil:=@List.append_nil
theorem acR:type_of% @Bool.true_or:=@Bool.true_or
theorem acS:type_of% @List.getElem?_map:=@List.getElem?_map
theorem acT:type_of% @List.getElem?_append_right:=@List.getElem?_append_right
theorem acU:type_of% @List.map_cons:=@List.map_cons
theorem acV:type_of% @List.length_take:=@List.length_take
theorem acW:type_of% @List.length_drop:=@List.length_drop
theorem acY:type_of% @List.getElem?_append_left:=@List.getElem?_append_left
theorem acZ:type_of% @Array.getElem?_eq_getElem:=@Array.getElem?_eq_getElem
theorem ac0:type_of% @List.getElem_mem:=@List.getElem_mem
theorem ac1:type_of% @List.eq_nil_of_length_eq_zero:=@List.eq_nil_of_length_eq_zero
theorem ac6:type_of% @Nat.mul_le_mul_right:=@Nat.mul_le_mul_right
theorem ac7:type_of% @List.nil_append:=@List.nil_append
theorem ac8:type_of% @List.take_of_length_le:=@List.take_of_length_le
theorem adg:type_of% @Nat.lt_of_lt_of_le:=@Nat.lt_of_lt_of_le
theorem adh:type_of% @List.cons_append:=@List.cons_append
theorem ado:type_of% @List.map_congr_left:=@List.map_congr_left
theorem adr:type_of% @Nat.zero_add:=@Nat.zero_add
theorem adZ:type_of% @List.getElem?_drop:=@List.getElem?_drop
theorem agr:type_of% @List.drop_zero:=@List.drop_zero
theorem ags:type_of% @List.getElem?_take_of_lt:=@List.getElem?_take_of_lt
theorem agN:type_of% @List.all_cons:=@List.all_cons
theorem agS:type_of% @Array.length_toList:=@Array.length_toList
theorem agU:type_of% @List.length_map:=@List.length_map
theorem agY:type_of% @List.all_eq_true:=@List.all_eq_true
theorem ag2:type_of% @List.take_succ_eq_append_getElem:=@List.take_succ_eq_append_getElem
theorem ag3:type_of% @List.mem_of_getElem?:=@List.mem_of_getElem?
theorem ag4:type_of% @List.length_nil:=@List.length_nil
theorem ag5:type_of% @List.take_append_drop:=@List.take_append_drop
theorem ahw:type_of% @List.sum_cons:=@List.sum_cons
theorem ahx:type_of% @Nat.lt_or_ge:=@Nat.lt_or_ge
theorem ahG:type_of% @List.map_nil:=@List.map_nil
theorem ahH:type_of% @Bool.or_true:=@Bool.or_true
theorem ahJ:type_of% @Array.getD_eq_getD_getElem?:=@Array.getD_eq_getD_getElem?
theorem ahK:type_of% @Option.isSome_some:=@Option.isSome_some
theorem ahL:type_of% @Nat.mul_one:=@Nat.mul_one
theorem ahM:type_of% @Int.le_refl:=@Int.le_refl
theorem ahP:type_of% @Bool.true_and:=@Bool.true_and
theorem ahR:type_of% @List.nodup_nil:=@List.nodup_nil
theorem ahU:type_of% @List.filter_cons_of_pos:=@List.filter_cons_of_pos
theorem ahZ:type_of% @List.getElem?_of_mem:=@List.getElem?_of_mem
theorem ah7:type_of% @Nat.add_zero:=@Nat.add_zero
theorem ah8:type_of% @Bool.and_false:=@Bool.and_false
theorem aia:type_of% @beq_eq_false_iff_ne:=@beq_eq_false_iff_ne
theorem ak3:type_of% @Array.eq_empty_of_size_eq_zero:=@Array.eq_empty_of_size_eq_zero
theorem ak4:type_of% @List.getElem?_cons_zero:=@List.getElem?_cons_zero
theorem ale:type_of% @Option.map_some:=@Option.map_some
theorem alh:type_of% @Nat.add_assoc:=@Nat.add_assoc
theorem ali:type_of% @List.mem_append_right:=@List.mem_append_right
theorem alo:type_of% @Bool.false_and:=@Bool.false_and
theorem alq:type_of% @List.singleton_append:=@List.singleton_append
theorem alr:type_of% @Nat.mul_comm:=@Nat.mul_comm
theorem als:type_of% @Bool.false_or:=@Bool.false_or
theorem alu:type_of% @Nat.shiftLeft_eq:=@Nat.shiftLeft_eq
theorem alv:type_of% @List.drop_drop:=@List.drop_drop
theorem alx:type_of% @List.map_toArray:=@List.map_toArray
theorem aly:type_of% @List.filter_cons:=@List.filter_cons
theorem alz:type_of% @Nat.shiftLeft_zero:=@Nat.shiftLeft_zero
theorem alA:type_of% @List.append_of_mem:=@List.append_of_mem
theorem alB:type_of% @Nat.two_pow_pos:=@Nat.two_pow_pos
theorem alC:type_of% @Bool.or_eq_true:=@Bool.or_eq_true
theorem alE:type_of% @Array.getElem?_toList:=@Array.getElem?_toList
theorem alF:type_of% @Array.getElem?_append:=@Array.getElem?_append
theorem alG:type_of% @List.any_cons:=@List.any_cons
theorem alH:type_of% @Nat.succ_mul:=@Nat.succ_mul
theorem alI:type_of% @Nat.sub_zero:=@Nat.sub_zero
abbrev alJ:=List UInt8
noncomputable section
namespace Go.Proofs.YtibpdjmikfmmaaaGreat.kH
open Ieee
def Dat(d:Datum)(n:Int):Prop:=∃(s:Bool) (m k:Nat),d = .number s m (-(k:Int))/\signed s m 0=n*2 ^ k
theorem xX(s:Bool)(m k:Nat):signed s m k=signed s m 0*2 ^ k:=by unfold signed;cases s<;>simp[alu,Int.neg_mul]
theorem Ww(T:Int)(b:Bool):signed (if T=0 then b else decide (T<0)) T.natAbs 0=T:=by
 unfold signed;by_cases h0:T=0
 ·subst h0;simp
 ·rw[if_neg h0];by_cases h:T<0
  ·simp[h,alu];omega
  ·simp[h,alu];omega
theorem amC{d e:Datum}{a b:Int}(hd:Dat d a)(he:Dat e b):∃f,d.sum e=some f/\Dat f (a+b):=by
 obtain⟨s,m,k,rfl,h1⟩:=hd;obtain⟨t,n,j,rfl,h2⟩:=he;simp only[Datum.sum];refine⟨_,rfl,?_⟩;have hb:min (-(k:Int)) (-(j:Int)) = -((max k j:Nat):Int):=by omega
 rw[hb];have e1:(-(k:Int) - -((max k j:Nat):Int)).toNat=max k j-k:=by omega
 have e2:(-(j:Int) - -((max k j:Nat):Int)).toNat=max k j-j:=by omega
 rw[e1,e2,xX s m,xX t n,h1,h2];have e3:a*2 ^ k*2 ^ (max k j-k)=a*2 ^ (max k j):=by rw[Int.mul_assoc,<- Int.pow_add];congr 2;omega
 have e4:b*2 ^ j*2 ^ (max k j-j)=b*2 ^ (max k j):=by rw[Int.mul_assoc,<- Int.pow_add];congr 2;omega
 rw[e3,e4,<- Int.add_mul];generalize hT:(a+b)*2 ^ (max k j)=T;refine⟨_,_,max k j,rfl,?_⟩;rw[hT];exact Ww T _
theorem agc{d e:Datum}{a b:Int}(hd:Dat d a)(he:Dat e b):d.order e=some (compare a b):=by
 obtain⟨s,m,k,rfl,h1⟩:=hd;obtain⟨t,n,j,rfl,h2⟩:=he;simp only[Datum.order];have hb:min (-(k:Int)) (-(j:Int)) = -((max k j:Nat):Int):=by omega
 rw[hb];have e1:(-(k:Int) - -((max k j:Nat):Int)).toNat=max k j-k:=by omega
 have e2:(-(j:Int) - -((max k j:Nat):Int)).toNat=max k j-j:=by omega
 rw[e1,e2,xX s m,xX t n,h1,h2];have e3:a*2 ^ k*2 ^ (max k j-k)=a*2 ^ (max k j):=by rw[Int.mul_assoc,<- Int.pow_add];congr 2;omega
 have e4:b*2 ^ j*2 ^ (max k j-j)=b*2 ^ (max k j):=by rw[Int.mul_assoc,<- Int.pow_add];congr 2;omega
 rw[e3,e4];have hp:(0:Int)<2 ^ (max k j):=Int.pow_pos (by omega);congr 1;rw[Int.compare_eq_ite_lt,Int.compare_eq_ite_lt];simp only[Int.mul_lt_mul_right hp]
theorem QF(c k:Nat)(hc:c≠0):(c*2 ^ k).log2=c.log2+k:=by
 have hp:0<2 ^ k:=alB k;have hne:c*2 ^ k≠0:=Nat.mul_ne_zero hc (by omega);rw[Nat.log2_eq_iff hne];have h1:=Nat.log2_self_le hc;have h2:=@Nat.lt_log2_self c;constructor
 ·rw[Nat.pow_add];exact ac6 _ h1
 ·rw[show c.log2+k+1=(c.log2+1)+k from by omega,Nat.pow_add];exact Nat.mul_lt_mul_of_pos_right h2 hp
theorem KS(way:Toward)(neg:Bool)(c k:Nat):way.cut neg (c*2 ^ k) k=c:=by
 unfold Toward.cut;by_cases hc:c=0
 ·subst hc;have hg:0<1 <<< min k ((0*2 ^ k).log2+2):=by rw[Nat.one_shiftLeft];exact alB _
  generalize 1 <<< min k ((0*2 ^ k).log2+2)=g at hg;cases way<;>simp<;>omega
 ·rw[QF c k hc,show min k (c.log2+k+2)=k from by omega,Nat.one_shiftLeft];have hp:0<2 ^ k:=alB k;have h1:c*2 ^ k / 2 ^ k=c:=Nat.mul_div_cancel _ hp;have h2:c*2 ^ k%2 ^ k=0:=Nat.mul_mod_left _ _;simp only[h1,h2];cases way<;>simp<;>omega
theorem QG{s:Bool}{m k:Nat}{a:Int}(h:signed s m 0=a*2 ^ k):m=a.natAbs*2 ^ k:=by have:=congrArg Int.natAbs h;rw[Int.natAbs_mul,Int.natAbs_pow]at this;rw[show(2:Int).natAbs=2 from rfl]at this;rw[<- this];unfold signed;cases s<;>simp[alu]
theorem agd{d:Datum}{a:Int}(hd:Dat d a):d.toInt .zero=some a:=by
 obtain⟨s,m,k,rfl,h1⟩:=hd;have e1:(-(-(k:Int))).toNat=k:=by omega
 have e2:(-(k:Int)).toNat=0:=by omega
 have hm:=QG h1;simp only[Datum.toInt,Datum.integral,e1,e2,alz];rw[hm,KS];subst hm;congr 1;have hp:(0:Int)<2 ^ k:=Int.pow_pos (by omega);unfold signed at h1 ⊢;have hc:((a.natAbs*2 ^ k:Nat):Int)=(a.natAbs:Int)*2 ^ k:=by simp
 cases s
 ·simp only[alz,Bool.false_eq_true,if_false]at h1 ⊢;rw[hc]at h1;exact Int.eq_of_mul_eq_mul_right (by omega) h1
 ·simp only[alz,if_true]at h1 ⊢;rw[hc,<- Int.neg_mul]at h1;exact Int.eq_of_mul_eq_mul_right (by omega) h1
theorem log2_lt{c:Nat}(hc:c<2 ^ 53):c.log2<=52:=by
 by_cases h0:c=0
 ·subst h0;decide
 ·have:=(Nat.log2_lt h0).2 hc;omega
theorem least:double.leastPlace = -1074:=by decide
theorem XD:double.binade=2 ^ 52:=rfl
theorem ak0:double.infRung=2047*2 ^ 52:=rfl
theorem vY(neg:Bool)(c k:Nat)(hc:c<2 ^ 53)(h0:c≠0) :
  double.nearest neg (c*2 ^ k) (-(k:Int))=double.word neg ((c.log2+1022)*2 ^ 52+c*2 ^ (52-c.log2)):=by
 have hl:=log2_lt hc;have hp:0<2 ^ k:=alB k;unfold Format.nearest;rw[if_neg (Nat.mul_ne_zero h0 (by omega)),QF c k h0,least,XD,ak0];have hlast:max (-(k:Int)+((c.log2+k:Nat):Int)-(double.fractionBits:Int)) (-1074)=(c.log2:Int)-52:=by rw[show(double.fractionBits:Int)=52 from rfl];omega
 simp only[hlast];have hk:Toward.even.cut neg ((c*2 ^ k) <<< (-(k:Int)-((c.log2:Int)-52)).toNat) ((c.log2:Int)-52 - -(k:Int)).toNat=c*2 ^ (52-c.log2):=by
  by_cases hge:k<=52-c.log2
  ·have e1:(-(k:Int)-((c.log2:Int)-52)).toNat=52-c.log2-k:=by omega
   have e2:((c.log2:Int)-52 - -(k:Int)).toNat=0:=by omega
   rw[e1,e2,alu,Nat.mul_assoc,<- Nat.pow_add,show k+(52-c.log2-k)=52-c.log2 from by omega];have:=KS .even neg (c*2 ^ (52-c.log2)) 0;simpa using this
  ·have e1:(-(k:Int)-((c.log2:Int)-52)).toNat=0:=by omega
   have e2:((c.log2:Int)-52 - -(k:Int)).toNat=k-(52-c.log2):=by omega
   rw[e1,e2,alz,show k=(52-c.log2)+(k-(52-c.log2))from by omega,Nat.pow_add,<- Nat.mul_assoc,
    show(52-c.log2)+(k-(52-c.log2))-(52-c.log2)=k-(52-c.log2)from by omega]
   exact KS .even neg _ _
 rw[hk,show((c.log2:Int)-52 - -1074).toNat=c.log2+1022 from by omega];have h2:c*2 ^ (52-c.log2)<2 ^ 53:=by
  have:=@Nat.lt_log2_self c
  calc c*2 ^ (52-c.log2)<2 ^ (c.log2+1)*2 ^ (52-c.log2):=Nat.mul_lt_mul_of_pos_right this (alB _)
   _=2 ^ 53:=by rw[<- Nat.pow_add];congr 1;omega
 congr 1;omega
theorem agf(neg:Bool)(L m:Nat)(hL:L<=52)(h1:2 ^ 52<=m)(h2:m<2 ^ 53) :
  double.read (double.word neg ((L+1022)*2 ^ 52+m)) = .number neg m (-((52-L:Nat):Int)):=by
 have hs:double.signWeight=2 ^ 63:=rfl;unfold Format.read Format.word;rw[XD,ak0,least,hs];have hneg:((if neg then 2 ^ 63+((L+1022)*2 ^ 52+m)else(L+1022)*2 ^ 52+m) / 2 ^ 63%2==1)=neg:=by cases neg<;>simp<;>omega
 have hr:(if neg then 2 ^ 63+((L+1022)*2 ^ 52+m)else(L+1022)*2 ^ 52+m)%2 ^ 63=(L+1022)*2 ^ 52+m:=by cases neg<;>simp<;>omega
 simp only[hneg,hr];rw[if_neg (by omega),if_pos (by omega)];congr 1<;>omega
theorem agh(neg:Bool):double.read (double.word neg 0) = .number neg 0 (-((1074:Nat):Int)):=by cases neg<;>decide
def qC(b:Nat)(n:Int):Prop:=∃s:Bool,b=double.nearest s n.natAbs 0/\(n≠0->s=decide (n<0))
theorem xY(s:Bool)(p:Int):double.nearest s 0 p=double.word s 0:=by unfold Format.nearest;simp
theorem Oo{c:Nat}(hc:c<2 ^ 53)(h0:c≠0):2 ^ 52<=c*2 ^ (52-c.log2)/\c*2 ^ (52-c.log2)<2 ^ 53:=by
 have hl:=log2_lt hc;have h1:=Nat.log2_self_le h0;have h2:=@Nat.lt_log2_self c;constructor
 ·calc 2 ^ 52=2 ^ c.log2*2 ^ (52-c.log2):=by rw[<- Nat.pow_add];congr 1;omega
   _<=c*2 ^ (52-c.log2):=ac6 _ h1
 ·calc c*2 ^ (52-c.log2)<2 ^ (c.log2+1)*2 ^ (52-c.log2):=Nat.mul_lt_mul_of_pos_right h2 (alB _)
   _=2 ^ 53:=by rw[<- Nat.pow_add];congr 1;omega
theorem Ga{b:Nat}{n:Int}(h:qC b n)(hn:n.natAbs<2 ^ 53):Dat (double.read b) n:=by
 obtain⟨s,rfl,hs⟩:=h;by_cases h0:n=0
 ·subst h0;rw[show(0:Int).natAbs=0 from rfl,xY,agh];exact⟨s,0,1074,rfl,by rw[Int.zero_mul];unfold signed;cases s<;>rfl⟩
 ·have h0':n.natAbs≠0:=by omega
  have e:=vY s n.natAbs 0 hn h0';rw[Nat.pow_zero,ahL,show -((0:Nat):Int)=0 from rfl]at e;obtain⟨h1,h2⟩:=Oo hn h0';rw[e,agf s _ _ (log2_lt hn) h1 h2];refine⟨s,_,_,rfl,?_⟩;generalize 52-n.natAbs.log2=k;rw[hs h0];unfold signed;by_cases hlt:n<0
  ·simp[hlt,alu];rw[<- Int.neg_mul];congr 1;omega
  ·simp[hlt,alu];congr 1;omega
theorem agi{d:Datum}{n:Int}(h:Dat d n)(hn:n.natAbs<2 ^ 53):qC (double.write d) n:=by
 obtain⟨s,m,k,rfl,h1⟩:=h;have hm:=QG h1;subst hm;refine⟨s,?_,fun h0=>?_⟩
 ·show double.nearest s _ _=_;by_cases h0:n=0
  ·subst h0;simp[xY]
  ·have h0':n.natAbs≠0:=by omega
   rw[vY s n.natAbs k hn h0'];have e:=vY s n.natAbs 0 hn h0';rw[Nat.pow_zero,ahL,show -((0:Nat):Int)=0 from rfl]at e;exact e.symm
 ·have hp:0<2 ^ k:=alB k;have hpi:(0:Int)<2 ^ k:=Int.pow_pos (by omega);unfold signed at h1;have hc:((n.natAbs*2 ^ k:Nat):Int)=(n.natAbs:Int)*2 ^ k:=by simp
  cases s
  ·simp only[alz,Bool.false_eq_true,if_false]at h1;rw[hc]at h1;have:=Int.eq_of_mul_eq_mul_right (by omega) h1;simp;omega
  ·simp only[alz,if_true]at h1;rw[hc,<- Int.neg_mul]at h1;have:=Int.eq_of_mul_eq_mul_right (by omega) h1;simp;omega
theorem SL{x y:Nat}{a b:Int}(hx:qC x a)(hy:qC y b)(ha:a.natAbs<2 ^ 52)(hb:b.natAbs<2 ^ 52):∃r,floatBits .add .f64 x y=some r/\qC r (a+b):=by obtain⟨f,hf,hd⟩:=amC (Ga hx (by omega)) (Ga hy (by omega));refine⟨double.write f,?_,agi hd (by omega)⟩;show double.add x y=_;unfold Format.add;rw[hf];rfl
theorem KT{x y:Nat}{a b:Int}(hx:qC x a)(hy:qC y b)(ha:a.natAbs<2 ^ 53)(hb:b.natAbs<2 ^ 53):FloatKind.f64.format.order x y=some (compare a b) :=
 agc (Ga hx ha) (Ga hy hb)
theorem agj(n:Int):qC (floatOfInt .f64 n) n:=⟨decide (n<0),rfl,fun _=>rfl⟩
theorem U0{x:Nat}{a:Int}(hx:qC x a)(ha:a.natAbs<2 ^ 53):floatToIntVal .f64 x .i64=some a:=by unfold floatToIntVal;have:(FloatKind.f64.decode x).toInt .zero=some a:=agd (Ga hx ha);rw[this];simp[IntKind.min,IntKind.max,IntKind.signed,IntKind.bits];omega
theorem amD(r:Nat)(hr:r<2 ^ 63):r ^^^ 2 ^ 63=2 ^ 63+r:=by
 apply Nat.eq_of_testBit_eq;intro j;rw[Nat.testBit_xor,Nat.testBit_two_pow];rcases Nat.lt_trichotomy j 63 with h | h | h
 ·rw[Nat.testBit_two_pow_add_gt h,show decide (63=j)=false from decide_eq_false (by omega),Bool.xor_false]
 ·subst h;rw[Nat.testBit_two_pow_add_eq];simp
 ·have h2:2 ^ 64<=2 ^ j:=Nat.pow_le_pow_right (by omega) (by omega);rw[Nat.testBit_lt_two_pow (x:=r) (by omega),Nat.testBit_lt_two_pow (x:=2 ^ 63+r) (by omega),show decide (63=j)=false from decide_eq_false (by omega)];rfl
theorem XE(s:Bool)(r:Nat)(hr:r<2 ^ 63):double.word s r ^^^ 2 ^ 63=double.word (!s) r:=by
 have hs:double.signWeight=2 ^ 63:=rfl;unfold Format.word;rw[hs];have h1:=amD r hr;cases s
 ·simpa using h1
 ·simp only[if_true,acn,Bool.false_eq_true,if_false];rw[<- h1,Nat.xor_assoc,Nat.xor_self,Nat.xor_zero]
theorem abX{x:Nat}{a:Int}(hx:qC x a)(ha:a.natAbs<2 ^ 53):qC (Op.negFloat .f64 x) (-a):=by
 obtain⟨s,rfl,hs⟩:=hx;refine⟨!s,?_,fun h0=>by have:=hs (by omega);rw[this];by_cases h:a<0<;>simp[h]<;>omega⟩;show double.nearest s a.natAbs 0 ^^^ 2 ^ 63=_;rw[Int.natAbs_neg];by_cases h0:a=0
 ·subst h0;rw[show(0:Int).natAbs=0 from rfl,xY,xY];exact XE s 0 (by omega)
 ·have h0':a.natAbs≠0:=by omega
  have e:=fun s=>vY s a.natAbs 0 ha h0'
  simp only[Nat.pow_zero,ahL,show -((0:Nat):Int)=0 from rfl]at e;obtain⟨h1,h2⟩:=Oo ha h0';have hl:=log2_lt ha;rw[e,e];exact XE s _ (by omega)
#print axioms abX
#print axioms SL
#print axioms U0
def H9(b:Nat):Nat :=
 bif Nat.beq (b%2 ^ 63) 0 then 0 else bif Nat.ble 1075 (b%2 ^ 63 / 2 ^ 52)then(2 ^ 52+b%2 ^ 63%2 ^ 52)*2 ^ (b%2 ^ 63 / 2 ^ 52-1075)else(2 ^ 52+b%2 ^ 63%2 ^ 52) / 2 ^ (1075-b%2 ^ 63 / 2 ^ 52)
def whole(b:Nat):Option Int :=
 bif Nat.beq (double.nearest (Nat.ble (2 ^ 63) b) (H9 b) 0) b then some (bif Nat.ble (2 ^ 63) b then -(H9 b:Int)else(H9 b:Int))else none
theorem KU{b:Nat}{n:Int}(h:whole b=some n):qC b n:=by
 unfold whole at h;generalize H9 b=mag at h;generalize Nat.ble (2 ^ 63) b=neg at h;cases hb:Nat.beq (double.nearest neg mag 0) b with
 | false=>rw[hb]at h;cases h
 | true =>
  rw[hb]at h;have hb:=ab5 hb;simp only[cond_true,Option.some.injEq]at h;refine⟨neg,?_,fun hn=>?_⟩
  ·rw[<- hb,<- h];cases neg<;>simp
  ·subst h;cases neg with
   | true=>simp only[cond_true]at hn ⊢;symm;simp only[acJ];omega
   | false=>simp only[cond_false]at hn ⊢;symm;simp only[decide_eq_false_iff_not];omega
end Go.Proofs.YtibpdjmikfmmaaaGreat.kH
namespace Go.Proofs.YtibpdjmikfmmaaaGreat.bB
open Go Go.RowKit
def look{α:Type}(l:List (Nat×α))(j:Nat):Option α :=
 List.rec (motive:=fun _=>Option α) none (fun p _ ih=>Bool.rec (motive:=fun _=>Option α) ih (some p.2) (Nat.beq p.1 j)) l
theorem look_nil{α:Type}(j:Nat):look ([]:List (Nat×α)) j=none:=rfl
theorem aQ{α:Type}(i j:Nat)(x:α)(r:List (Nat×α)):look ((i,x)::r) j=if Nat.beq i j then some x else look r j:=by show Bool.rec (motive:=fun _=>Option α) (look r j) (some x) (Nat.beq i j)=_;cases Nat.beq i j<;>rfl
inductive bE {Ty:Type} (Den:Ty->Type) where
 | bool (b:Bool)
 | int (k:IntKind) (n:Int)
 | str (s:alJ)
 | raw (v:Value)
 | flt (n:Int)
 | uX (a b:Int)
 | slice (t:Ty) (l:List (Den t))
inductive wD {Ty:Type} (Den:Ty->Type) where
 | any
 | d (c:bE Den)
 | st (t:Ty) (x:Den t)
 | agg (cs:List (wD Den))
 | ni (vs:List (wD Den))
 | grow (t:Ty) (l:List (Den t)) (id:Nat)
 | ptr (id off:Nat)
 | iF (cs:List (bE Den))
 | row (t:Ty) (n id:Nat)
 | elt (id i off:Nat)
 | fn (f:FuncId) (a b:List (wD Den))
 | Cv (n id:Nat)
 | mp (id:Nat)
 | ent (id:Nat)
 | yl (id:Nat)
 | mk (T:TypeId) (id:Nat)
 | sd (t:Ty) (l:List (Den t)) (id:Nat)
 | cond (j:Nat) (want:Bool) (v:wD Den)
def KV{Ty:Type}{Den:Ty->Type}(c e:bE Den):Prop:=c=e\/(c = .raw (.slice none 0 0)/\∃t,e = .slice t [])
def Cw{Ty:Type}{Den:Ty->Type}:List (bE Den)->List (bE Den)->Prop
 | [],[]=>True
 | a::as,b::bs=>KV a b/\Cw as bs
 | _,_=>False
def Cx(P:Program)(t:TypeId):Bool:=match P.underlying t with | some (.struct _)=>true | some (.array _ _)=>true | _=>false
def vZ{Ty:Type}{Den:Ty->Type}:bE Den->Bool
 | .bool _=>true
 | .int _ _=>true
 | .str _=>true
 | _=>false
def dV{Ty:Type}{Den:Ty->Type}:bE Den->Value
 | .bool b=>.bool b
 | .int k n=>.int k n
 | .str s=>.string ⟨s.toArray⟩
 | _=>undef
def kvC{Ty:Type}{Den:Ty->Type}(agg:Bool)(cs:List (bE Den)):Value:=match agg,cs with
 | true,cs=>.agg (cs.map dV).toArray
 | false,[c]=>dV c
 | false,_=>undef
structure ad2 (P:Program) {Ty:Type} (Den:Ty->Type) (T:TypeId) (agg:Bool) (t:Ty) (cells:Den t->List (bE Den)) (q:(Den t->Den t->Bool)×(Den t->Bool)):Prop where
 keyed:Maps.Keyed P T
 eq:∀x y,q.1 x y=true↔x=y
 flat:∀x,(cells x).all vZ=true
 inj:∀x y,cells x=cells y->x=y
 lit:∀x,q.2 x=true->∃l,keyOf P T (kvC agg (cells x))=some l
structure Env (P:Program) where
 Ty:Type
 dec:DecidableEq Ty
 Den:Ty->Type
 tid:Ty->TypeId
 code:TypeId->Option Ty
 agg:Ty->Bool
 size:Ty->Nat
 bytes:Ty->Nat
 cells:(t:Ty)->Den t->List (bE Den)
 fold:(t:Ty)->List (bE Den)->Option (Den t)
 Cm:∀i t,code i=some t->i=tid t
 tZ:∀t, ∃i z,P.info? (tid t)=some i/\i.size=size t/\i.bytes=bytes t/\i.zero=some z/\z.cells.size=size t
 XF:∀t,Cx P (tid t)=agg t
 XG:∀t,(P.underlying (tid t)).isSome=true
 size_pos:∀t,0<size t
 KW:∀t,0<bytes t
 one:∀t,agg t=false->size t=1
 fA:∀t x,(cells t x).length=size t
 dflt:(t:Ty)->Den t
 o8:∀t cs x,fold t cs=some x->Cw cs (cells t x)
 Na:(t:Ty)->Option (Den t->Int)
 Nb:∀t f,Na t=some f->∀x,cells t x=[.int .u8 (f x)]
 Nc:(t:Ty)->Option (Int->Den t)
 Ia:∀t g,Nc t=some g->∀n,cells t (g n)=[.int .u8 n]
 Cy:(t:Ty)->Option ((Den t->Den t->Bool)×(Den t->Bool)):=fun _=>none
 wU:∀t q,Cy t=some q->ad2 P Den (tid t) (agg t) t (cells t) q:=by intro t q h;cases h
section
variable {P:Program} (E:Env P) (w:World) (ro:Nat->Nat->Prop)
inductive cu:Value->bE E.Den->Prop
 | bool (b:Bool):cu (.bool b) (.bool b)
 | int (k:IntKind) (n:Int):cu (.int k n) (.int k n)
 | str (s:alJ):cu (.string ⟨s.toArray⟩) (.str s)
 | raw (v:Value):v.oneCell'=true->cu v (.raw v)
 | flt (b:Nat) (n:Int):kH.qC b n->cu (.float .f64 b) (.flt n)
 | uX (x y:Nat) (a b:Int):kH.qC x a->kH.qC y b->cu (.complex .f64 x y) (.uX a b)
 | nil (t:E.Ty) (a:Option Addr) (cap:Nat):cu (.slice a 0 cap) (.slice t [])
 | slice (t:E.Ty) (l:List (E.Den t)) (g off cap:Nat) (f:Nat->Nat->Value):l.length<=cap ->
   (∀i x j c,l[i]? = some x->(E.cells t x)[j]? = some c->ro g (off+i*E.size t+j)/\w.cell? ⟨g,off+i*E.size t+j,none⟩=some (f i j)) ->
   (∀i x j c,l[i]? = some x->(E.cells t x)[j]? = some c->cu (f i j) c) ->
   cu (.slice (some ⟨g,off,none⟩) l.length cap) (.slice t l)
def jP(vs:Array Value)(cs:List (bE E.Den)):Prop :=
 vs.size=cs.length/\∀(j:Nat) v c,vs[j]? = some v->cs[j]? = some c->cu E w ro v c
def jQ(v:Value)(t:E.Ty)(x:E.Den t):Prop :=
 (E.agg t=true/\∃vs,v = .agg vs/\jP E w ro vs (E.cells t x))\/(E.agg t=false/\∃c,E.cells t x=[c]/\cu E w ro v c)
structure Gh where
 v:Value
 n:Nat
 e:TypeId
 sz:Nat
 blk:Option Nat
variable (ι:Nat->Option Gh)
inductive aJ:Value->wD E.Den->Prop
 | any (v:Value):aJ v .any
 | d (v:Value) (c:bE E.Den):cu E w ro v c->aJ v (.d c)
 | st (vs:Array Value) (t:E.Ty) (x:E.Den t):E.agg t=true->jP E w ro vs (E.cells t x)->aJ (.agg vs) (.st t x)
 | agg (vs:Array Value) (cs:List (wD E.Den)):vs.size=cs.length->(∀(j:Nat) v c,vs[j]? = some v->cs[j]? = some c->aJ v c)->aJ (.agg vs) (.agg cs)
 | ni (vs:Array Value) (cs:List (wD E.Den)):vs.size=cs.length->(∀(j:Nat) v c,vs[j]? = some v->cs[j]? = some c->aJ v c)->aJ (.tuple vs) (.ni cs)
 | grow (gh:Gh) (t:E.Ty) (l:List (E.Den t)) (id:Nat):ι id=some gh->gh.n=l.length->gh.e=E.tid t->gh.sz=E.size t->cu E w ro gh.v (.slice t l)->aJ gh.v (.grow t l id)
 | ptr (gh:Gh) (g id off:Nat):ι id=some gh->gh.v = .pointer (some ⟨g,0,none⟩)->aJ (.pointer (some ⟨g,off,none⟩)) (.ptr id off)
 | iF (g off:Nat) (f:Nat->Value) (cs:List (bE E.Den)) :
   (∀j c,cs[j]? = some c->ro g (off+j)/\w.cell? ⟨g,off+j,none⟩=some (f j))->(∀j c,cs[j]? = some c->cu E w ro (f j) c) ->
   aJ (.pointer (some ⟨g,off,none⟩)) (.iF cs)
 | row (gh:Gh) (t:E.Ty) (id:Nat) (ad:Option Addr) (cap:Nat):ι id=some gh->gh.e=E.tid t->gh.sz=E.size t->gh.v = .slice ad gh.n cap->(0<gh.n->∃g,ad=some ⟨g,0,none⟩)->aJ gh.v (.row t gh.n id)
 | elt (gh:Gh) (g id i off cap:Nat):ι id=some gh->gh.v = .slice (some ⟨g,0,none⟩) gh.n cap->i<gh.n->aJ (.pointer (some ⟨g,i*gh.sz+off,none⟩)) (.elt id i off)
 | fn (f:FuncId) (vs us:Array Value) (a b:List (wD E.Den)):vs.size=a.length->us.size=b.length->(∀(j:Nat) v c,vs[j]? = some v->a[j]? = some c->aJ v c)->(∀(j:Nat) v c,us[j]? = some v->b[j]? = some c->aJ v c)->aJ (.func (.func f) vs us) (.fn f a b)
 | Cv (gh:Gh) (g id n cap:Nat):ι id=some gh->gh.v = .pointer (some ⟨g,0,none⟩)->aJ (.slice (some ⟨g,0,none⟩) n cap) (.Cv n id)
 | yl (gh:Gh) (l id:Nat):ι id=some gh->gh.blk=some l->aJ (.func (.yield l) #[] #[]) (.yl id)
 | mp (gh:Gh) (g id:Nat):ι id=some gh->gh.v = .map (some g)->aJ (.map (some g)) (.mp id)
 | ent (gh:Gh) (id:Nat):ι id=some gh->aJ gh.v (.ent id)
 | mk (gh:Gh) (v:Value) (g:Nat) (T:TypeId) (id:Nat):ι id=some gh->gh.v = .pointer (some ⟨g,0,none⟩)->gh.e=T->(v = .pointer none\/v = .pointer (some ⟨g,0,none⟩))->aJ v (.mk T id)
 | sd (gh:Gh) (t:E.Ty) (l:List (E.Den t)) (id:Nat) (ad:Addr) (cap:Nat):ι id=some gh->gh.v = .slice (some ad) l.length cap->gh.n=l.length->gh.e=E.tid t->gh.sz=E.size t->cu E w ro gh.v (.slice t l)->aJ (.pointer (some ad)) (.sd t l id)
def uN(tm:Array Value)(v:Value):wD E.Den->Prop
 | .cond j want u=>(tm[j]? = some (.bool want)->aJ E w ro ι v u)/\(tm[j]? ≠ some (.bool want)->v=undef)
 | x=>aJ E w ro ι v x
end
section
variable {P:Program} {E:Env P} {w w':World} {ro ro':Nat->Nat->Prop} {ι ι':Nat->Option Gh}
theorem cu.mono{v:Value}{c:bE E.Den}(hr:∀k o,ro k o->ro' k o)(hc:∀k o,ro k o->w'.cell? ⟨k,o,none⟩=w.cell? ⟨k,o,none⟩)(h:cu E w ro v c):cu E w' ro' v c:=by
 induction h with
 | bool b=>exact .bool b
 | int k n=>exact .int k n
 | str s=>exact .str s
 | raw v h=>exact .raw v h
 | flt b n h=>exact .flt b n h
 | uX x y a b h1 h2=>exact .uX x y a b h1 h2
 | nil t a cap=>exact .nil t a cap
 | slice t l g off cap f hl h1 _ ih =>refine .slice t l g off cap f hl (fun i x j c hx hj=>?_) ih;obtain⟨a,b⟩:=h1 i x j c hx hj;exact⟨hr _ _ a,(hc _ _ a).trans b⟩
theorem jP.mono{vs:Array Value}{cs:List (bE E.Den)}(hr:∀k o,ro k o->ro' k o)(hc:∀k o,ro k o->w'.cell? ⟨k,o,none⟩=w.cell? ⟨k,o,none⟩)(h:jP E w ro vs cs):jP E w' ro' vs cs :=
 ⟨h.1,fun j v c hv hj=>(h.2 j v c hv hj).mono hr hc⟩
theorem jQ.mono{v:Value}{t:E.Ty}{x:E.Den t}(hr:∀k o,ro k o->ro' k o)(hc:∀k o,ro k o->w'.cell? ⟨k,o,none⟩=w.cell? ⟨k,o,none⟩)(h:jQ E w ro v t x):jQ E w' ro' v t x:=by
 rcases h with⟨ha,vs,hv,hrow⟩ | ⟨ha,c,hcs,hd⟩
 ·exact .inl ⟨ha,vs,hv,hrow.mono hr hc⟩
 ·exact .inr ⟨ha,c,hcs,hd.mono hr hc⟩
theorem aJ.mono{v:Value}{c:wD E.Den}(hr:∀k o,ro k o->ro' k o)(hc:∀k o,ro k o->w'.cell? ⟨k,o,none⟩=w.cell? ⟨k,o,none⟩)(hi:∀id gh,ι id=some gh->ι' id=some gh)
  (h:aJ E w ro ι v c):aJ E w' ro' ι' v c:=by
 induction h with
 | any v=>exact .any v
 | d v c h=>exact .d v c (h.mono hr hc)
 | st vs t x ha h=>exact .st vs t x ha (h.mono hr hc)
 | agg vs cs hs _ ih=>exact .agg vs cs hs ih
 | ni vs cs hs _ ih=>exact .ni vs cs hs ih
 | grow gh t l id h1 hn he hs h2=>exact .grow gh t l id (hi _ _ h1) hn he hs (h2.mono hr hc)
 | ptr gh g id off h hv=>exact .ptr gh g id off (hi _ _ h) hv
 | iF g off f cs h1 h2 =>refine .iF g off f cs (fun j c hj=>?_) (fun j c hj=>(h2 j c hj).mono hr hc);obtain⟨a,b⟩:=h1 j c hj;exact⟨hr _ _ a,(hc _ _ a).trans b⟩
 | row gh t id ad cap h1 h2 h3 h4 h5=>exact .row gh t id ad cap (hi _ _ h1) h2 h3 h4 h5
 | elt gh g id i off cap h1 h2 h3=>exact .elt gh g id i off cap (hi _ _ h1) h2 h3
 | fn f vs us a b h1 h2 _ _ ih1 ih2=>exact .fn f vs us a b h1 h2 ih1 ih2
 | Cv gh g id n cap h1 h2=>exact .Cv gh g id n cap (hi _ _ h1) h2
 | mp gh g id h1 h2=>exact .mp gh g id (hi _ _ h1) h2
 | ent gh id h1=>exact .ent gh id (hi _ _ h1)
 | yl gh l id h1 h2=>exact .yl gh l id (hi _ _ h1) h2
 | mk gh v g T id h1 h2 h3 h4=>exact .mk gh v g T id (hi _ _ h1) h2 h3 h4
 | sd gh t l id ad cap h1 h2 h3 h4 h5 h6=>exact .sd gh t l id ad cap (hi _ _ h1) h2 h3 h4 h5 (h6.mono hr hc)
theorem uN.mono{tm:Array Value}{v:Value}{c:wD E.Den}(hr:∀k o,ro k o->ro' k o)(hc:∀k o,ro k o->w'.cell? ⟨k,o,none⟩=w.cell? ⟨k,o,none⟩)(hi:∀id gh,ι id=some gh->ι' id=some gh)
  (h:uN E w ro ι tm v c):uN E w' ro' ι' tm v c:=by
 cases c with
 | cond j want u=>exact⟨fun ht=>(h.1 ht).mono hr hc hi,h.2⟩
 | _=>exact aJ.mono hr hc hi h
theorem KV.rep{v:Value}{c e:bE E.Den}(h:KV c e)(hr:cu E w ro v c):cu E w ro v e:=by
 rcases h with rfl | ⟨rfl,t,rfl⟩
 ·exact hr
 ·cases hr;exact .nil t none 0
theorem Cw.len{Ty:Type}{Den:Ty->Type}:∀{cs ds:List (bE Den)},Cw cs ds->cs.length=ds.length
 | [],[],_=>rfl
 | _::_,_::_,h=>by simp[Cw.len h.2]
 | [],_::_,h=>h.elim
 | _::_,[],h=>h.elim
theorem Cw.at_{Ty:Type}{Den:Ty->Type}:∀{cs ds:List (bE Den)},Cw cs ds->∀(i:Nat) c e,cs[i]? = some c->ds[i]? = some e->KV c e
 | a::_,b::_,h,0,c,e,hc,he=>by simp at hc he;subst hc;subst he;exact h.1
 | a::_,b::_,h,i+1,c,e,hc,he=>Cw.at_ h.2 i c e (by simpa using hc) (by simpa using he)
 | [],_,_,i,c,e,hc,_=>by simp at hc
 | _::_,[],h,_,_,_,_,_=>h.elim
theorem jP.le{vs:Array Value}{cs ds:List (bE E.Den)}(h:Cw cs ds)(hr:jP E w ro vs cs):jP E w ro vs ds:=by
 have hl:=h.len;refine⟨hr.1.trans hl,fun j v e hv he=>?_⟩;have hj:j<cs.length:=by rw[hl];exact(List.getElem?_eq_some_iff.1 he).1
 exact(h.at_ j _ e (aae hj) he).rep (hr.2 j v _ hv (aae hj))
end
section
variable {P:Program} {E:Env P} {w:World} {ro:Nat->Nat->Prop} {ι:Nat->Option Gh}
theorem cu.one{v:Value}{c:bE E.Den}(h:cu E w ro v c):v.oneCell'=true:=by cases h<;>first | rfl | assumption
def nk(E:Env P)(t:E.Ty)(x:E.Den t):Value:=kvC (E.agg t) (E.cells t x)
theorem U1{v:Value}{c:bE E.Den}(h:cu E w ro v c)(hf:vZ c=true):v=dV c:=by cases h<;>first | rfl | cases hf
theorem ajh{v:Value}{t:E.Ty}{x:E.Den t}(h:jQ E w ro v t x)(hf:(E.cells t x).all vZ=true):v=nk E t x:=by
 unfold nk;rcases h with⟨ha,vs,rfl,hr⟩ | ⟨ha,c,hc,hd⟩
 ·rw[ha];show _=Value.agg ((E.cells t x).map dV).toArray;congr 1;apply Array.ext (by simpa using hr.1);intro i h1 h2;have h3:i<(E.cells t x).length:=by simpa using h2
  have:=U1 (hr.2 i _ _ (acZ h1) (aae h3)) (agY.1 hf _ (ac0 h3));simpa using this
 ·rw[ha,hc];rw[hc]at hf;exact U1 hd (by simpa using hf)
theorem agk{Ty:Type}{Den:Ty->Type}{c d:bE Den}(hc:vZ c=true)(hd:vZ d=true)(h:dV c=dV d):c=d:=by cases c<;>cases d<;>simp_all [dV,vZ]
theorem abY{Ty:Type}{Den:Ty->Type}:∀{cs ds:List (bE Den)},cs.all vZ=true->ds.all vZ=true->cs.map dV=ds.map dV->cs=ds
 | [],[],_,_,_=>rfl
 | [],_::_,_,_,h=>by cases h
 | _::_,[],_,_,h=>by cases h
 | c::cs,d::ds,h1,h2,h=>by simp only[agN,ach]at h1 h2;simp only[acU,List.cons.injEq]at h;rw[agk h1.1 h2.1 h.1,abY h1.2 h2.2 h.2]
theorem abZ{t:E.Ty}{q:(E.Den t->E.Den t->Bool)×(E.Den t->Bool)}(hq:E.Cy t=some q){x y:E.Den t}(h:nk E t x=nk E t y):x=y:=by
 have k:=E.wU t q hq;refine k.inj x y ?_;have hx:=k.flat x;have hy:=k.flat y;unfold nk at h;cases ha:E.agg t with
 | true =>
  rw[ha]at h;have h:Value.agg ((E.cells t x).map dV).toArray=Value.agg ((E.cells t y).map dV).toArray:=h;injection h with h
  exact abY hx hy (by simpa using congrArg Array.toList h)
 | false =>rw[ha]at h;obtain⟨c,hc⟩:=List.length_eq_one_iff.1 ((E.fA t x).trans (E.one t ha));obtain⟨d,hd⟩:=List.length_eq_one_iff.1 ((E.fA t y).trans (E.one t ha));rw[hc]at h hx ⊢;rw[hd]at h hy ⊢;rw[agk (by simpa using hx) (by simpa using hy) h]
theorem Value.cells_one{v:Value}(h:v.oneCell'=true):v.cells = #[v]:=by cases v<;>first | rfl | cases h
end
section
variable {P:Program} (E:Env P)
abbrev AV:=wD E.Den
inductive aH where
 | dead
 | box (cs:List (AV E))
 | tail (live:Bool)
 | row (t:E.Ty) (l:List (E.Den t))
 | mp (tk tv:E.Ty) (z:E.Den tv) (l:List (E.Den tk×E.Den tv)) (tok:Option (Nat×E.Den tk))
 | lp (st:LoopState) (pend:Option Code) (n:Nat) (tm:List (Nat×AV E)) (ps:Array Tmp) (assign body:Code)
 | QH
 | arr (t:E.Ty) (l:List (E.Den t)) (fz:Bool)
structure aD where
 n:Nat
 tmps:List (Nat×AV E)
 objs:List (Nat×aH E)
 next:Nat
structure dR where
 ok:Bool
 v:AV E
 upd:Option (Nat×aH E)
 new:Option (aH E)
end
section
variable {P:Program} {E:Env P}
def aH.live:aH E->Bool
 | .dead=>false
 | .box _=>true
 | .tail l=>l
 | .row _ _=>true
 | .mp _ _ _ _ _=>true
 | .lp _ _ _ _ _ _ _=>true
 | .QH=>true
 | .arr _ _ _=>true
def dR.pure(v:AV E):dR E:=⟨true,v,none,none⟩
def dR.test(ok:Bool)(v:AV E):dR E:=⟨ok,v,none,none⟩
def uY(v:Value):AV E:=match v with
 | .bool b=>.d (.bool b)
 | .int k n=>.d (.int k n)
 | .string s=>.d (.str s.data.toList)
 | .float .f64 b=>(match kH.whole b with | some n=>.d (.flt n) | none=>.d (.raw v))
 | .complex .f64 x y=>(match kH.whole x,kH.whole y with | some a,some b=>.d (.uX a b) | _,_=>.d (.raw v))
 | .agg _=>.any
 | .tuple _=>.any
 | v=>.d (.raw v)
def XH(v:Value):AV E:=match v with
 | .agg cs=>.agg (cs.toList.map uY)
 | v=>uY v
def rA:List (Nat×Bool)->Nat->Bool->Bool
 | [],_,_=>false
 | (i,b)::r,j,w=>(Nat.beq i j&&(b==w))||rA r j w
def QI(asm:List (Nat×Bool)):Option (AV E)->AV E
 | some (.cond j w u)=>if rA asm j w then u else .any
 | some v=>v
 | none=>.any
def aS(tm:List (Nat×AV E))(asm:List (Nat×Bool)):Operand->AV E
 | .tmp t=>QI asm (look tm t)
 | .const v=>XH v
 | .func f=>.d (.raw (.func (.func f) #[] #[]))
 | .global _=>.any
def Cz:AV E->Bool
 | .d _=>true
 | .grow _ _ _=>true
 | .ptr _ _=>true
 | .iF _=>true
 | .row _ _ _=>true
 | .elt _ _ _=>true
 | .fn _ _ _=>true
 | .Cv _ _=>true
 | .mp _=>true
 | .yl _=>true
 | .mk _ _=>true
 | .sd _ _ _=>true
 | _=>false
def zW:List (AV E)->Bool
 | []=>true
 | c::r=>Cz c&&zW r
def nK:AV E->Option (List (AV E))
 | .st t x=>some ((E.cells t x).map .d)
 | .agg cs=>if zW cs then some cs else none
 | v=>if Cz v then some [v]else none
def toD:AV E->Option (bE E.Den)
 | .d c=>some c
 | .grow t l _=>some (.slice t l)
 | _=>none
def toDs:List (AV E)->Option (List (bE E.Den))
 | []=>some []
 | c::r=>match toD c with
  | some x=>match toDs r with
   | some xs=>some (x::xs)
   | none=>none
  | none=>none
def Ec(t t':E.Ty)(x:E.Den t):Option (E.Den t'):=match E.dec t t' with
 | .isTrue h=>some (h▸x)
 | .isFalse _=>none
def ng(t:E.Ty):AV E->Option (E.Den t)
 | .st t' x=>match Ec t' t x with
  | some y=>some y
  | none=>if E.agg t then E.fold t (E.cells t' x)else none
 | .agg cs=>if E.agg t then(match toDs cs with | some ds=>E.fold t ds | none=>none)else none
 | v=>if E.agg t then none else(match toD v with | some c=>E.fold t [c] | none=>none)
def eD(t:E.Ty)(x:E.Den t):AV E:=if E.agg t then .st t x else match E.cells t x with
 | [c]=>.d c
 | _=>.any
def isNil:AV E->Bool
 | .d (.raw (.slice none 0 0))=>true
 | _=>false
def agl:List (AV E)->Bool
 | []=>false
 | c::r=>isNil c||agl r
def ak1:AV E->Bool
 | .agg cs=>agl cs
 | _=>false
def Xa(T:TypeId)(v:AV E):AV E:=bif ak1 v then v else(match E.code T with
 | some t=>match ng t v with
  | some x=>eD t x
  | none=>v
 | none=>v)
def sizeT(P:Program)(T:TypeId):Option Nat:=match P.info? T,P.underlying T with | some i,some _=>some i.size | _,_=>none
def takeA(T:TypeId)(cs:List (AV E)):Option (AV E):=match sizeT P T with
 | some n=>if Cx P T then(if n<=cs.length then some (Xa T (.agg (cs.take n)))else none)else cs[0]?
 | none=>none
def KX(objs:List (Nat×aH E))(T:TypeId)(a:AV E):Option (AV E):=match a with
 | .ptr id off=>match look objs id with
  | some (.box cs)=>takeA T (cs.drop off)
  | _=>none
 | .iF cs=>takeA T (cs.map .d)
 | .elt id i off=>match look objs id with
  | some (.row t l)=>takeA T (((E.cells t (l.getD i (E.dflt t))).drop off).map .d)
  | _=>none
 | _=>none
def cell1(t:E.Ty)(x:E.Den t):AV E:=.d ((E.cells t x).headD (.bool false))
def kI(t:E.Ty)(l:List (E.Den t)):List (AV E):=l.map (cell1 t)
def SN(objs:List (Nat×aH E))(T:TypeId)(a:AV E):Option (Bool×AV E):=match a with
 | .ptr id off=>(match look objs id with
  | some (.arr t l _)=>(match takeA T [cell1 t (l.getD off (E.dflt t))]with
   | some r=>some (Nat.blt off l.length,r)
   | none=>none)
  | _=>none)
 | _=>none
def Ib(objs:List (Nat×aH E))(T:TypeId)(a v:AV E):Option (Bool×Nat×aH E):=match a with
 | .ptr id off=>(match look objs id with
  | some (.arr t l false)=>(match nK v,sizeT P T with
   | some [c],some 1=>(match toD c with
    | some d=>(match E.fold t [d]with
     | some x=>some (Nat.blt off l.length,id,.arr t (l.set off x) false)
     | none=>none)
    | none=>none)
   | _,_=>none)
  | _=>none)
 | _=>none
def zu(objs:List (Nat×aH E))(T:TypeId)(a v:AV E):Option (Nat×aH E):=match a with
 | .ptr id off=>match look objs id with
  | some (.box cs)=>match nK v,sizeT P T with
   | some vs,some n=>if vs.length=n/\off+n<=cs.length/\zW vs then some (id,.box (cs.take off++vs++cs.drop (off+n)))else none
   | _,_=>none
  | _=>none
 | .elt id i off=>match look objs id with
  | some (.row t l)=>match nK v,sizeT P T with
   | some vs,some n=>match toDs vs with
    | some ds=>if ds.length=n/\off+n<=E.size t then(match E.fold t ((E.cells t (l.getD i (E.dflt t))).take off++ds++(E.cells t (l.getD i (E.dflt t))).drop (off+n))with
     | some x=>some (id,.row t (l.set i x))
     | none=>none)else none
    | none=>none
   | _,_=>none
  | _=>none
 | _=>none
def SQ(s:TypeId)(a:AV E)(f:Nat):Option (AV E):=match P.underlying s with
 | some (.struct fs)=>match fs[f]? with
  | some fl=>match sizeT P fl.type with
   | some (_+1)=>match a with
    | .ptr id off=>some (.ptr id (off+fl.offset))
    | .iF cs=>some (.iF (cs.drop fl.offset))
    | .elt id i off=>some (.elt id i (off+fl.offset))
    | _=>none
   | _=>none
  | none=>none
 | _=>none
def Pm(s:TypeId)(x:AV E)(f:Nat):Option (AV E):=match P.underlying s with
 | some (.struct fs)=>match fs[f]? with
  | some fl=>match nK x with
   | some cs=>match x with
    | .st _ _=>takeA fl.type (cs.drop fl.offset)
    | .agg _=>takeA fl.type (cs.drop fl.offset)
    | _=>none
   | none=>none
  | none=>none
 | _=>none
def BO(T:TypeId):Option (List (AV E)):=match P.info? T with
 | some i=>match i.zero with
  | some z=>some (z.cells.toList.map uY)
  | none=>none
 | none=>none
def QJ(place:Nat->Option (Nat×Nat))(cells:List (AV E)):List (Nat×AV E)->Option (List (AV E))
 | []=>some cells
 | (i,v)::rest=>match place i with
  | some (off,size)=>match nK v with
   | some vs=>if vs.length=size/\off+size<=cells.length then QJ place (cells.take off++vs++cells.drop (off+size)) rest else none
   | none=>none
  | none=>none
def QK(T:TypeId)(parts:List (Nat×AV E)):Option (List (AV E)):=match P.info? T,P.underlying T with
 | some it,some (.array _ e)=>match it.zero,P.info? e with
  | some z,some ie=>QJ (fun i=>some (i*ie.size,ie.size)) (z.cells.toList.map uY) parts
  | _,_=>none
 | some it,some (.struct fields)=>match it.zero,fields.toList.mapM (fun f=>(P.info? f.type).map fun i=>(f.offset,i.size))with
  | some z,some places=>QJ (places.toArray[·]?) (z.cells.toList.map uY) parts
  | _,_=>none
 | _,_=>none
def SV(T:TypeId)(parts:List (Nat×AV E)):Option (AV E):=match QK T parts with
 | some cs=>some (Xa T (.agg cs))
 | none=>none
def ad3(op:BinOp)(k:IntKind)(a b:Int):Option (Bool×AV E):=match op with
 | .add=>some (true,.d (.int k (k.wrap (a+b))))
 | .sub=>some (true,.d (.int k (k.wrap (a-b))))
 | .mul=>some (true,.d (.int k (k.wrap (a*b))))
 | .quo=>some (!(b==0),.d (.int k (k.wrap (a.tdiv b))))
 | .rem=>some (!(b==0),.d (.int k (a.tmod b)))
 | .eql=>some (true,.d (.bool (a==b)))
 | .neq=>some (true,.d (.bool (a != b)))
 | .lss=>some (true,.d (.bool (decide (a<b))))
 | .leq=>some (true,.d (.bool (decide (a<=b))))
 | .gtr=>some (true,.d (.bool (decide (b<a))))
 | .geq=>some (true,.d (.bool (decide (b<=a))))
 | .and=>some (true,.d (.int k (bits .and k a b)))
 | .or=>some (true,.d (.int k (bits .or k a b)))
 | .xor=>some (true,.d (.int k (bits .xor k a b)))
 | .andNot=>some (true,.d (.int k (bits .andNot k a b)))
 | _=>none
def aN:Nat:=2 ^ 62
def ad4(op:BinOp)(a b:alJ):Option (Bool×AV E):=match op with
 | .add=>some (decide (a.length+b.length<=aN),.d (.str (a++b)))
 | .eql=>some (true,.d (.bool (a==b)))
 | .neq=>some (true,.d (.bool !(a==b)))
 | .lss=>some (true,.d (.bool (Op.bytesLess a b)))
 | .leq=>some (true,.d (.bool (Op.bytesLess a b||a==b)))
 | .gtr=>some (true,.d (.bool !(Op.bytesLess a b||a==b)))
 | .geq=>some (true,.d (.bool !(Op.bytesLess a b)))
 | _=>none
def jd(n:Int):Bool:=decide (n.natAbs<9007199254740992)
def QL(n:Int):Bool:=decide (n.natAbs<4503599627370496)
def ad5(_:BinOp)(_ _:Int):Option (Bool×AV E):=none
def SX(P:Program)(T:TypeId):Bool:=match P.underlying T with | some .bool=>true | _=>false
def sameKind(k k':IntKind):Bool:=decide (k=k')
def anR(op:BinOp)(k:IntKind)(a b:Int):Option (Bool×AV E):=match op with
 | .shl=>some (decide (0<=b)&&decide (b<=(k.bits:Int)),.d (.int k (k.wrap (a*2 ^ b.toNat))))
 | .shr=>some (decide (0<=b)&&decide (b<=(k.bits:Int)),.d (.int k (a / 2 ^ b.toNat)))
 | _=>none
def ad6(op:BinOp)(T:TypeId)(x y:AV E):Option (Bool×AV E):=match x,y with
 | .d (.int k a),.d (.int k' b)=>(match anR op k a b with
  | some r=>some r
  | none=>if sameKind k k' then ad3 op k a b else none)
 | .d (.str a),.d (.str b)=>ad4 op a b
 | .d (.flt a),.d (.flt b)=>ad5 op a b
 | .d (.uX a b),.d (.uX c d)=>(match op with
  | .add=>some (QL a&&QL c&&(QL b&&QL d),.d (.uX (a+c) (b+d)))
  | .eql=>some (jd a&&jd c&&(jd b&&jd d),.d (.bool (a==c&&b==d)))
  | .neq=>some (jd a&&jd c&&(jd b&&jd d),.d (.bool !(a==c&&b==d)))
  | _=>none)
 | .d (.bool a),.d (.bool b)=>if SX P T then(match op with
  | .eql=>some (true,.d (.bool (a==b)))
  | .neq=>some (true,.d (.bool !(a==b)))
  | _=>none)else none
 | _,_=>none
def aji(op:UnOp)(x:AV E):Option (Bool×AV E):=match op,x with
 | .neg,.d (.int k n)=>some (true,.d (.int k (k.wrap (0-n))))
 | .xor,.d (.int k n)=>some (true,.d (.int k (bits .xor k (if k.signed then -1 else k.max) n)))
 | .neg,.d (.flt n)=>some (jd n,.d (.flt (-n)))
 | .not,.d (.bool b)=>some (true,.d (.bool !b))
 | _,_=>none
def Gb(P:Program)(T:TypeId):Option IntKind:=match P.underlying T with | some (.int k)=>some k | _=>none
def QM(P:Program)(T:TypeId):Bool:=match P.underlying T with | some (.float .f64)=>true | _=>false
def CB(P:Program)(T:TypeId):Bool:=match P.underlying T with | some .string=>true | _=>false
def xZ(P:Program)(T:TypeId):Option TypeId:=match P.underlying T with | some (.slice e)=>some e | _=>none
def Av(e:TypeId)(x:AV E):Option ((t:E.Ty)×List (E.Den t)):=match x with
 | .d (.slice t l)=>some ⟨t,l⟩
 | .grow t l _=>some ⟨t,l⟩
 | .d (.raw (.slice none 0 0))=>match E.code e with | some t=>some ⟨t,[]⟩ | none=>none
 | _=>none
def anS(P:Program)(T:TypeId):Bool:=match P.underlying T with | some (.int .u8)=>true | _=>false
def ab0(src dst:TypeId)(x:AV E):Option (AV E):=match CB P dst,xZ P src with
 | true,some e=>(match anS P e,Av e x with
  | true,some ⟨t,l⟩=>(match E.Na t with
   | some f=>some (.d (.str (l.map fun y=>UInt8.ofNat (f y).toNat)))
   | none=>none)
  | _,_=>none)
 | _,_=>none
def XI(src dst:TypeId)(x:AV E):Option (Bool×AV E):=match x with
 | .d (.int _ n)=>(match Gb P src,Gb P dst with
  | some _,some k=>some (true,.d (.int k (k.wrap n)))
  | some _,none=>if QM P dst then some (true,.d (.flt n))else none
  | _,_=>none)
 | .d (.flt n)=>(match Gb P dst with
  | some .i64=>if QM P src then some (jd n,.d (.int .i64 n))else none
  | _=>none)
 | x=>match ab0 src dst x with
  | some v=>some (true,v)
  | none=>none
def ad7(T:TypeId)(x:AV E):Option (AV E) :=
 if CB P T then(match x with | .d (.str s)=>some (.d (.int .i64 s.length)) | _=>none)
 else match xZ P T with
  | some e=>match x with
   | .row _ n _=>some (.d (.int .i64 n))
   | .Cv n _=>some (.d (.int .i64 n))
   | x=>match Av e x with
    | some ⟨_,l⟩=>some (.d (.int .i64 l.length))
    | none=>none
  | none=>none
def XJ(P:Program)(T:TypeId):Option (Nat×TypeId):=match P.underlying T with | some (.array n e)=>some (n,e) | _=>none
def Ic(T:TypeId)(x i:AV E):Option (Bool×AV E):=match XJ P T,i with
 | some (len,e),.d (.int _ n)=>match x with
  | .ptr id off=>match sizeT P e with
   | some size=>if Nat.ble 2 len then some (decide (0<=n)&&decide (n<len),.ptr id (off+n.toNat*size))else none
   | none=>none
  | _=>none
 | _,_=>none
def EW(T:TypeId)(x i:AV E):Option (Bool×AV E):=match xZ P T,i with
 | some e,.d (.int _ n)=>match x with
  | .row t len id=>if Nat.beq (E.tid t) e then some (decide (0<=n)&&decide (n<len),.elt id n.toNat 0)else none
  | x=>match Av e x with
  | some ⟨t,l⟩=>if Nat.beq (E.tid t) e then some (decide (0<=n)&&decide (n<l.length),.iF (E.cells t (l.getD n.toNat (E.dflt t))))else none
  | none=>none
 | _,_=>none
def Ie(_:TypeId)(_ _:AV E):Option (Bool×AV E):=none
def SY(T:TypeId)(x i:AV E):Option (Bool×AV E):=if CB P T then(match x,i with
 | .d (.str s),.d (.int _ n)=>some (decide (0<=n)&&decide (n<s.length),.d (.int .u8 (s.getD n.toNat 0).toNat))
 | _,_=>none)else none
def Nf(e:TypeId)(t:E.Ty)(sz:Nat):Nat->List (AV E)->Option (List (E.Den t))
 | 0,_=>some []
 | n+1,cs=>match takeA e cs with
  | some v=>match ng t v with
   | some x=>match Nf e t sz n (cs.drop sz)with
    | some xs=>some (x::xs)
    | none=>none
   | none=>none
  | none=>none
def Pn(T:TypeId)(x i:AV E):Option (Bool×AV E):=match XJ P T,i with
 | some (len,e),.d (.int _ n)=>match E.code e,sizeT P e,nK x with
  | some t,some sz,some cs=>match x with
   | .st _ _=>(match Nf e t sz len cs with
    | some xs=>some (decide (0<=n)&&decide (n<len),eD t (xs.getD n.toNat (E.dflt t)))
    | none=>none)
   | .agg _=>(match Nf e t sz len cs with
    | some xs=>some (decide (0<=n)&&decide (n<len),eD t (xs.getD n.toNat (E.dflt t)))
    | none=>none)
   | _=>none
  | _,_,_=>none
 | _,_=>none
def eqS(T:TypeId)(x y:AV E):Option (Bool×Bool):=match P.underlying T with
 | some .bool=>(match x,y with
  | .d (.bool a),.d (.bool b)=>some (true,a==b)
  | _,_=>none)
 | some (.int _)=>(match x,y with
  | .d (.int k a),.d (.int k' b)=>if sameKind k k' then some (true,a==b)else none
  | _,_=>none)
 | some .string=>(match x,y with
  | .d (.str a),.d (.str b)=>some (true,a==b)
  | _,_=>none)
 | some (.float _)=>(match x,y with
  | .d (.flt a),.d (.flt b)=>some (jd a&&jd b,a==b)
  | _,_=>none)
 | some (.complex _)=>(match x,y with
  | .d (.uX a b),.d (.uX c d)=>some (jd a&&jd c&&(jd b&&jd d),a==c&&b==d)
  | _,_=>none)
 | _=>none
def XK(rec:TypeId->AV E->AV E->Option (Bool×Bool)):List Field->List (AV E)->List (AV E)->Option (Bool×Bool)
 | [],_,_=>some (true,true)
 | f::r,xs,ys=>if f.name = "_" then XK rec r xs ys else(match takeA f.type (xs.drop f.offset),takeA f.type (ys.drop f.offset)with
  | some a,some b=>match rec f.type a b,XK rec r xs ys with
   | some (o1,b1),some (o2,b2)=>some (o1&&o2,b1&&b2)
   | _,_=>none
  | _,_=>none)
def ad8(rec:TypeId->AV E->AV E->Option (Bool×Bool))(e:TypeId)(sz:Nat):Nat->List (AV E)->List (AV E)->Option (Bool×Bool)
 | 0,_,_=>some (true,true)
 | n+1,xs,ys=>match takeA e xs,takeA e ys with
  | some a,some b=>match rec e a b,ad8 rec e sz n (xs.drop sz) (ys.drop sz)with
   | some (o1,b1),some (o2,b2)=>some (o1&&o2,b1&&b2)
   | _,_=>none
  | _,_=>none
def Po(x:AV E):Option (List (AV E)):=match x with
 | .st t y=>nK (.st t y)
 | .agg cs=>nK (.agg cs)
 | _=>none
def S9:Nat->TypeId->AV E->AV E->Option (Bool×Bool)
 | 0,_,_,_=>none
 | d+1,T,x,y=>match P.underlying T with
  | some (.struct fs)=>(match P.stoodInHeld T,Po x,Po y with
   | false,some xs,some ys=>XK (S9 d) fs.toList xs ys
   | _,_,_=>none)
  | some (.array n e)=>(match sizeT P e,Po x,Po y with
   | some sz,some xs,some ys=>ad8 (S9 d) e sz n xs ys
   | _,_,_=>none)
  | _=>eqS T x y
def Ta(op:BinOp)(T:TypeId)(x y:AV E):Option (Bool×AV E):=match P.eqGuardType P.depth T,Po x,Po y with
 | false,some _,some _=>(match op with
  | .eql=>(match S9 8 T x y with | some (o,b)=>some (o,.d (.bool b)) | none=>none)
  | .neq=>(match S9 8 T x y with | some (o,b)=>some (o,.d (.bool !b)) | none=>none)
  | _=>none)
 | _,_,_=>none
def agm:AV E->Option (Bool×Bool)
 | .d (.raw (.slice none 0 0))=>some (true,true)
 | .d (.slice _ l)=>some (!l.isEmpty,false)
 | .grow _ l _=>some (!l.isEmpty,false)
 | .row _ n _=>some (Nat.blt 0 n,false)
 | _=>none
def agn:AV E->Option (Bool×Bool)
 | .d (.raw .nilFunc)=>some (true,true)
 | .d (.raw (.func _ _ _))=>some (true,false)
 | .fn _ _ _=>some (true,false)
 | _=>none
def agp:AV E->Option (Bool×Bool)
 | .d (.raw (.map none))=>some (true,true)
 | .mp _=>some (true,false)
 | _=>none
def agq:AV E->Option (Bool×Bool)
 | .d (.raw (.pointer none))=>some (true,true)
 | .ptr _ _=>some (true,false)
 | .iF _=>some (true,false)
 | .elt _ _ _=>some (true,false)
 | _=>none
def ad9(T:TypeId)(x y:AV E):Option (Bool×Bool):=match P.underlying T,y with
 | some (.slice _),.d (.raw (.slice none 0 0))=>agm x
 | some (.func _ _ _),.d (.raw .nilFunc)=>agn x
 | some (.map _ _),.d (.raw (.map none))=>agp x
 | some (.pointer _),.d (.raw (.pointer none))=>agq x
 | _,_=>none
def aea(op:BinOp)(T:TypeId)(x y:AV E):Option (Bool×AV E):=match P.eqGuardType P.depth T,ad9 T x y with
 | false,some (ok,b)=>(match op with
  | .eql=>some (ok,.d (.bool b))
  | .neq=>some (ok,.d (.bool !b))
  | _=>none)
 | _,_=>none
def loA:Option (AV E)->Option Int
 | none=>some 0
 | some (.d (.int _ n))=>some n
 | _=>none
def hiA(len:Nat):Option (AV E)->Option Int
 | none=>some len
 | some (.d (.int _ n))=>some n
 | _=>none
def Tc(T:TypeId)(x:AV E)(lo hi mx:Option (AV E)):Option (Bool×AV E):=match mx with
 | some _=>none
 | none=>if CB P T then(match x with
   | .d (.str s)=>match loA lo,hiA s.length hi with
    | some l,some h=>some (decide (0<=l)&&decide (l<=h)&&decide (h<=s.length),.d (.str ((s.drop l.toNat).take (h.toNat-l.toNat))))
    | _,_=>none
   | _=>none)
  else match xZ P T with
   | some e=>match Av e x with
    | some ⟨t,l⟩=>if Nat.beq (E.tid t) e then(match loA lo,hiA l.length hi with
     | some a,some h=>some (decide (0<=a)&&decide (a<=h)&&decide (h<=l.length),.d (.slice t ((l.drop a.toNat).take (h.toNat-a.toNat))))
     | _,_=>none)else none
    | none=>none
   | none=>none
def QN(t:E.Ty):List (bE E.Den)->Option (List (E.Den t))
 | []=>some []
 | c::r=>match E.fold t [c]with
  | some x=>match QN t r with
   | some xs=>some (x::xs)
   | none=>none
  | none=>none
def Pp(_:TypeId)(_:AV E)(_ _ _:Option (AV E)):Option (Bool×AV E):=none
def Ig(objs:List (Nat×aH E))(T:TypeId)(x:AV E)(lo hi mx:Option (AV E)):Option (Bool×AV E):=match mx,XJ P T,x with
 | none,some (n,e),.ptr id 0=>(match look objs id with
  | some (.arr t l true)=>(match Nat.beq (E.tid t) e,loA lo,hiA n hi with
   | true,some a,some h=>some (Nat.beq l.length n&&(decide (0<=a)&&decide (a<=h)&&decide (h<=n)),.d (.slice t ((l.drop a.toNat).take (h.toNat-a.toNat))))
   | _,_,_=>none)
  | _=>none)
 | _,_,_=>none
def KY(x:AV E)(i:Nat):Option (AV E):=match x with
 | .ni vs=>match vs[i]? with
  | some (.cond _ _ _)=>none
  | some v=>some v
  | none=>none
 | _=>none
def XL(tm:List (Nat×AV E))(asm:List (Nat×Bool))(c a b:Operand):Option (AV E):=match c,aS tm asm c with
 | .tmp j,.d (.bool x)=>match aS tm ((j,true)::asm) a,aS tm ((j,false)::asm) b with
  | .d (.bool y),.d (.bool z)=>some (.d (.bool (bif x then y else z)))
  | _,_=>none
 | _,_=>none
structure XM (E:Env P) where
 has:FuncId->Bool
 run:{R:Type}->FuncId->List (AV E)->List (Nat×aH E)->Nat->(AV E->List (Nat×aH E)->Nat->Option R)->Option R
def XM.nil:XM E:=⟨fun _=>false,fun _ _ _ _ _=>none⟩
abbrev TV(E:Env P):=(t:E.Ty)×E.Den t
inductive Arg (E:Env P) where
 | v (x:TV E)
 | c (f:FuncId) (p q:List (TV E))
inductive rX (E:Env P) where
 | v (t:E.Ty)
 | c (f:FuncId) (ps qs:List E.Ty)
structure aK (E:Env P) where
 call:FuncId->List (TV E)->Option (Bool×List (TV E))
 Cn:FuncId->Bool
 ak2:FuncId->Bool
 fresh:FuncId->List (TV E)->Option (Bool×((t:E.Ty)×List (E.Den t)))
 grow:FuncId->Option E.Ty
 aeb:FuncId->(t:E.Ty)->List (E.Den t)->List (TV E)->Option (Bool×Bool×List (E.Den t))
 inl:XM E
 cc:Option (FuncId×TypeId):=none
 cl:FuncId->List (AV E)->Option (AV E):=fun _ _=>none
 ajj:FuncId->Option E.Ty:=fun _=>none
 cla:FuncId->List (List (rX E)×(List (Arg E)->Option (Bool×List (TV E)))):=fun _=>[]
 ajk:FuncId->(t:E.Ty)->E.Den t->List (TV E)->Option (Bool×E.Den t×List (TV E)):=fun _ _ _ _=>none
def KZ(O:aK E)(T:TypeId)(bU:Nat)(cs:List (AV E)):List (AV E):=match O.cc with
 | none=>cs
 | some (_,T')=>(match Nat.beq T' T,cs with
  | true,.d (.raw (.pointer none))::r=>.mk T bU::r
  | _,cs=>cs)
def Ng(_:aK E)(_:List (Nat×aH E))(_:FuncId)(_:List (AV E)):Option (dR E):=none
def QO(_:List (Nat×aH E))(_:TypeId)(t:E.Ty)(_:List (E.Den t))(_:Nat)(_:Int):Option (dR E):=none
def foldArgs:List TypeId->List (AV E)->Option (List (TV E))
 | [],[]=>some []
 | T::Ts,v::vs=>match E.code T with
  | some t=>match ng t v with
   | some x=>match foldArgs Ts vs with
    | some r=>some (⟨t,x⟩::r)
    | none=>none
   | none=>none
  | none=>none
 | _,_=>none
def Ih:List (TV E)->AV E
 | [⟨t,x⟩]=>eD t x
 | rs=>.ni (rs.map fun r=>eD r.1 r.2)
def K3:List E.Ty->List (AV E)->Option (List (TV E))
 | [],[]=>some []
 | t::ts,v::vs=>(match ng t v with
  | some x=>(match K3 ts vs with
   | some r=>some (⟨t,x⟩::r)
   | none=>none)
  | none=>none)
 | _,_=>none
def ajl:rX E->AV E->Option (Arg E)
 | .v t,x=>(match ng t x with
  | some y=>some (.v ⟨t,y⟩)
  | none=>none)
 | .c f ps qs,.fn f' a b=>(match Nat.beq f f',K3 ps a,K3 qs b with
  | true,some p,some q=>some (.c f p q)
  | _,_,_=>none)
 | .c f [] [],.d (.raw (.func (.func f') ⟨[]⟩ ⟨[]⟩))=>(match Nat.beq f f' with
  | true=>some (.c f [] [])
  | false=>none)
 | _,_=>none
def Nh:List (rX E)->List (AV E)->Option (List (Arg E))
 | [],[]=>some []
 | s::ss,v::vs=>(match ajl s v with
  | some x=>(match Nh ss vs with
   | some r=>some (x::r)
   | none=>none)
  | none=>none)
 | _,_=>none
def Pq(args:List (AV E)):List (List (rX E)×(List (Arg E)->Option (Bool×List (TV E))))->Option (dR E)
 | []=>none
 | p::r=>(match Nh p.1 args with
  | some xs=>(match p.2 xs with
   | some (ok,res)=>some ⟨ok,Ih res,none,none⟩
   | none=>Pq args r)
  | none=>Pq args r)
def Td(O:aK E)(f:FuncId)(args:List (AV E)):Option (dR E):=Pq args (O.cla f)
def Xb(t:E.Ty)(cs:List (AV E)):Option (E.Den t):=match toDs cs with
 | some ds=>E.fold t ds
 | none=>none
def Ni(O:aK E)(objs:List (Nat×aH E))(f:FuncId)(ts:List TypeId)(args:List (AV E)):Option (dR E):=match O.ajj f with
 | none=>none
 | some t=>(match ts,args with
  | _::ts,.ptr id 0::args=>(match look objs id with
   | some (.box cs)=>(match Xb t cs with
    | some x=>(match foldArgs ts args with
     | some xs=>(match O.ajk f t x xs with
      | some (ok,y,res)=>some ⟨ok,Ih res,some (id,.box ((E.cells t y).map .d)),none⟩
      | none=>none)
     | none=>none)
    | none=>none)
   | _=>none)
  | _,_=>none)
def QS(O:aK E)(bU:Nat)(f:FuncId)(ts:List TypeId)(args:List (AV E)):Option (dR E):=match foldArgs ts args with
 | some xs=>bif O.Cn f then(match O.fresh f xs with
   | some (ok,⟨t,l⟩)=>some ⟨ok,.row t l.length bU,none,some (.row t l)⟩
   | none=>none)
  else(match O.call f xs with
   | some (ok,r)=>some ⟨ok,Ih r,none,none⟩
   | none=>none)
 | none=>none
def Nj(_:aK E)(_:List (Nat×aH E))(_:FuncId)(_:List TypeId)(_:List (AV E)):Option (dR E):=none
def Nk:List (TV E)->Bool
 | []=>true
 | ⟨t,x⟩::r=>(E.cells t x).all vZ&&Nk r
def aec(objs:List (Nat×aH E))(v:AV E):AV E:=match v with
 | .row t n id=>(match look objs id with
  | some (.row t' l)=>.d (.slice t' l)
  | _=>.row t n id)
 | v=>v
def agt(objs:List (Nat×aH E))(v:AV E):AV E:=match v with
 | .agg cs=>.agg (cs.map (aec objs))
 | v=>aec objs v
def isRow:AV E->Bool
 | .row _ _ _=>true
 | _=>false
def agu:List (AV E)->Bool
 | []=>false
 | v::r=>(match v with | .agg cs=>cs.any isRow | v=>isRow v)||agu r
def Nl(O:aK E)(objs:List (Nat×aH E))(f:FuncId)(ts:List TypeId)(args:List (AV E)):Option (dR E):=match agu args,O.Cn f with
 | true,false=>(match foldArgs ts (args.map (agt objs))with
  | some xs=>(match O.call f xs with
   | some (ok,r)=>(match Nk r with
    | true=>some ⟨ok,Ih r,none,none⟩
    | false=>none)
   | none=>none)
  | none=>none)
 | _,_=>none
def XO:List (AV E)->Option (List (bE E.Den))
 | []=>some []
 | .d c::r=>(match XO r with
  | some l=>some (c::l)
  | none=>none)
 | _::_=>none
def Ii(objs:List (Nat×aH E)):List (AV E)->Option (List (AV E))
 | []=>some []
 | .ptr id off::r=>(match look objs id with
  | some (.box cs)=>(match XO cs with
   | some ds=>(match Ii objs r with
    | some l=>some (.iF (ds.drop off)::l)
    | none=>none)
   | none=>none)
  | _=>none)
 | .d c::r=>(match Ii objs r with
  | some l=>some (.d c::l)
  | none=>none)
 | .st t x::r=>(match Ii objs r with
  | some l=>some (.st t x::l)
  | none=>none)
 | .agg cs::r=>(match XO cs,Ii objs r with
  | some _,some l=>some (.agg cs::l)
  | _,_=>none)
 | _::_=>none
def Xc(v:AV E)(_:List (Nat×aH E))(_:Nat):Option (dR E):=match v with
 | .d c=>(match vZ c with
  | true=>some ⟨true,.d c,none,none⟩
  | false=>none)
 | _=>none
def Nn(O:aK E)(objs:List (Nat×aH E))(f:FuncId)(args:List (AV E)):Option (dR E):=match O.inl.has f with
 | true=>(match Ii objs args with
  | some xs=>(match O.inl.run f xs [] 0 Xc with
   | some ⟨ok,v,none,none⟩=>some ⟨ok,v,none,none⟩
   | _=>none)
  | none=>none)
 | false=>none
def Np(_:aK E)(_:FuncId)(_:List (AV E)):Option (dR E):=none
def Nq(O:aK E)(bU:Nat)(f:FuncId)(args:List (AV E)):Option (dR E):=match O.grow f,args with
 | some t,[.d (.raw (.slice none 0 0)),.d (.int .i64 n)]=>some ⟨decide (0<=n)&&decide (n*(E.bytes t:Int)<=140737488355328),.row t 0 bU,none,some (.row t [])⟩
 | _,_=>none
def Nr(O:aK E)(objs:List (Nat×aH E))(bU:Nat)(f:FuncId)(ts:List TypeId)(args:List (AV E)):Option (dR E):=match ts,args with
 | _::ts,.row _ _ id::args=>(match look objs id with
  | some (.row t l)=>(match foldArgs ts args with
   | some xs=>(match O.aeb f t l xs with
    | some (ok,true,l')=>some ⟨ok,.row t l'.length bU,some (id,.dead),some (.row t l')⟩
    | some (ok,false,l')=>some ⟨ok,.any,some (id,.row t l'),none⟩
    | none=>none)
   | none=>none)
  | _=>none)
 | T::ts,.d (.raw (.slice none 0 0))::args=>(match xZ P T with
  | some e=>(match E.code e with
   | some t=>(match foldArgs ts args with
    | some xs=>(match O.aeb f t [] xs with
     | some (ok,true,l')=>some ⟨ok,.row t l'.length bU,none,some (.row t l')⟩
     | _=>none)
    | none=>none)
   | none=>none)
  | none=>none)
 | _,_=>none
def aL:Nat:=140737488355328
def zX(t t':E.Ty)(x:List (E.Den t)):Option (List (E.Den t')):=match E.dec t t' with
 | .isTrue h=>some (h▸x)
 | .isFalse _=>none
def wE(objs:List (Nat×aH E))(bU:Nat)(T:TypeId)(s x:AV E):Option (dR E):=match xZ P T with
 | some e=>match Av e x with
  | some ⟨t,l2⟩=>if Nat.beq (E.tid t) e then(match s with
   | .d (.raw (.slice none 0 0))=>some ⟨decide (l2.length*E.bytes t<=aL),.grow t l2 bU,none,some (.tail true)⟩
   | .grow t' l1 id=>match zX t t' l2,look objs id with
    | some Oq,some (.tail true)=>some ⟨decide ((l1.length+Oq.length)*E.bytes t'<=aL),.grow t' (l1++Oq) bU,some (id,.dead),some (.tail true)⟩
    | _,_=>none
   | .row _ _ id=>match look objs id with
    | some (.row t' l1)=>(match zX t t' l2 with
     | some Oq=>some ⟨decide ((l1.length+Oq.length)*E.bytes t'<=aL),.row t' (l1.length+Oq.length) bU,some (id,.dead),some (.row t' (l1++Oq))⟩
     | none=>none)
    | _=>none
   | _=>none)else none
  | none=>none
 | none=>none
def Ed(objs:List (Nat×aH E))(bU:Nat)(T T':TypeId)(s x:AV E):Option (dR E):=match CB P T',xZ P T with
 | true,some e=>(match x with
  | .d (.str l)=>(match E.code e with
   | some t=>(match E.Nc t with
    | some g=>wE objs bU T s (.d (.slice t (l.map fun b=>g (b.toNat:Int))))
    | none=>none)
   | none=>none)
  | _=>none)
 | _,_=>none
def QT(_:Nat)(_:TypeId)(_ _:AV E):Option (dR E):=none
def QU(_:List (Nat×aH E))(_:TypeId)(_ _:AV E):Option (dR E):=none
def aed(P:Program)(T:TypeId):Option (TypeId×TypeId):=match P.underlying T with | some (.map k v)=>some (k,v) | _=>none
def mg{K V:Type}(q:K->K->Bool)(z:V):List (K×V)->K->V
 | [],_=>z
 | p::r,k=>bif q k p.1 then p.2 else mg q z r k
def aee(T:TypeId)(t:E.Ty):Option (E.Den t):=match P.info? T with
 | some i=>(match i.zero with
  | some v=>ng t (XH v)
  | none=>none)
 | none=>none
def Ee(bU:Nat)(T:TypeId):Option (dR E):=match aed P T with
 | some (K,V)=>(match E.code K,E.code V with
  | some tk,some tv=>(match E.Cy tk,aee V tv with
   | some _,some z=>some ⟨true,.mp bU,none,some (.mp tk tv z [] none)⟩
   | _,_=>none)
  | _,_=>none)
 | none=>none
structure MpO (E:Env P) where
 id:Nat
 tk:E.Ty
 tv:E.Ty
 z:E.Den tv
 l:List (E.Den tk×E.Den tv)
 tok:Option (Nat×E.Den tk)
 q:(E.Den tk->E.Den tk->Bool)×(E.Den tk->Bool)
def Ij(objs:List (Nat×aH E))(T:TypeId)(x:AV E):Option (MpO E):=match aed P T,x with
 | some (K,V),.mp id=>(match look objs id with
  | some (.mp tk tv z l tok)=>(match E.Cy tk,Nat.beq (E.tid tk) K&&Nat.beq (E.tid tv) V with
   | some q,true=>some ⟨id,tk,tv,z,l,tok,q⟩
   | _,_=>none)
  | _=>none)
 | _,_=>none
def Pt(objs:List (Nat×aH E))(T:TypeId)(x i:AV E):Option (Bool×AV E):=match Ij objs T x with
 | some m=>(match ng m.tk i with
  | some k=>some (m.q.2 k,eD m.tv (mg m.q.1 m.z m.l k))
  | none=>none)
 | none=>none
def Ik(objs:List (Nat×aH E))(T:TypeId)(m i x:AV E):Option (Bool×Nat×aH E):=match Ij objs T m with
 | some m=>(match ng m.tk i,ng m.tv x with
  | some k,some v=>some (m.q.2 k,m.id,.mp m.tk m.tv m.z ((k,v)::m.l) none)
  | _,_=>none)
 | none=>none
def uf(objs:List (Nat×aH E))(bU:Nat)(T:TypeId)(m i:AV E):Option (dR E):=match Ij objs T m with
 | some ⟨id,tk,tv,z,l,none,q⟩=>(match ng tk i with
  | some k=>some ⟨q.2 k,.ni [.any,.ent bU],some (id,.mp tk tv z l (some (bU,k))),some .dead⟩
  | none=>none)
 | _=>none
def x9(objs:List (Nat×aH E))(T:TypeId)(m s x:AV E):Option (Nat×aH E):=match Ij objs T m,s with
 | some ⟨id,tk,tv,z,l,some (n,k),_⟩,.ent n'=>(match Nat.beq n n',ng tv x with
  | true,some v=>some (id,.mp tk tv z ((k,v)::l) none)
  | _,_=>none)
 | _,_=>none
def K4(_:TypeId)(_ _:AV E)(_:Bool):Option (Bool×AV E):=none
def Xd(big:Bool)(T:TypeId)(x y:AV E):Option (AV E):=match Gb P T,x,y with
 | some _,.d (.int k a),.d (.int k' b)=>if sameKind k k' then some (.d (.int k (bif big then(bif decide (a<b)then b else a)else(bif decide (b<a)then b else a))))else none
 | _,_,_=>none
def K5(t:E.Ty):Nat->List (Nat×AV E)->Option (List (E.Den t))
 | _,[]=>some []
 | k,(i,v)::r=>if Nat.beq i k then(match ng t v with
  | some x=>match K5 t (k+1) r with
   | some xs=>some (x::xs)
   | none=>none
  | none=>none)else none
def CF(T:TypeId)(len:Nat)(parts:List (Nat×AV E)):Option (AV E):=match xZ P T with
 | some e=>match E.code e with
  | some t=>match K5 t 0 parts with
   | some xs=>if xs.length=len/\len*E.size t<=16777216 then some (.d (.slice t xs))else none
   | none=>none
  | none=>none
 | none=>none
def BP(_:Nat)(_:TypeId)(_:Nat)(_:List (Nat×AV E)):Option (dR E):=none
def K6(f:FuncId)(a b:List (AV E)):AV E:=match a,b with
 | [],[]=>.d (.raw (.func (.func f) #[] #[]))
 | a,b=>.fn f a b
def yc(bU:Nat)(T:TypeId)(len:Nat)(parts:List (Nat×AV E)):Option (dR E):=match len,parts with
 | 0,[]=>(match xZ P T with
  | some e=>(match E.code e with
   | some t=>some ⟨true,.row t 0 bU,none,some (.row t [])⟩
   | none=>none)
  | none=>none)
 | _,_=>none
def kJ(tm:List (Nat×AV E))(asm:List (Nat×Bool)):Option Operand->Option (AV E)
 | none=>none
 | some x=>some (aS tm asm x)
def mG(tm:List (Nat×AV E))(asm:List (Nat×Bool))(ps:Array (Nat×Operand)):List (Nat×AV E):=ps.toList.map fun p=>(p.1,aS tm asm p.2)
def bI(tm:List (Nat×AV E))(asm:List (Nat×Bool))(ps:Array Operand):List (AV E):=ps.toList.map (aS tm asm)
def funcOf:AV E->Option FuncId
 | .d (.raw (.func (.func f) ⟨[]⟩ ⟨[]⟩))=>some f
 | _=>none
def Ns(g:Operand->AV E):Operand->Option FuncId
 | .func f=>some f
 | x=>funcOf (g x)
def gJ(O:aK E)(S:aD E)(asm:List (Nat×Bool))(o:Op):Option (dR E) :=
 let g:=aS S.tmps asm
 match o with
 | .move x=>some (.pure (g x))
 | .assign x=>some (.pure (g x))
 | .pick c a b=>(XL S.tmps asm c a b).map .pure
 | .alloc T=>(match BO T with | some cs=>if zW cs then some ⟨true,.ptr S.next 0,none,some (.box (KZ O T S.next cs))⟩else none | none=>none)
 | .box _ x=>(match nK (g x)with | some cs=>some ⟨true,.ptr S.next 0,none,some (.box cs)⟩ | none=>none)
 | .build T ps=>(SV T (mG S.tmps asm ps)).map .pure
 | .buildSlice T n ps=>(match yc S.next T n (mG S.tmps asm ps)with
  | some r=>some r
  | none=>(match CF T n (mG S.tmps asm ps)with
   | some r=>some (.pure r)
   | none=>BP S.next T n (mG S.tmps asm ps)))
 | .makeFunc f x y=>(match f with
  | .func f=>some (.pure (K6 f (bI S.tmps asm x) (bI S.tmps asm y)))
  | _=>none)
 | .load T a=>(match KX S.objs T (g a)with
  | some r=>some (.pure r)
  | none=>(SN S.objs T (g a)).map fun r=>.test r.1 r.2)
 | .store T a v=>(match zu S.objs T (g a) (g v)with
  | some u=>some ⟨true,.any,some u,none⟩
  | none=>(match Ib S.objs T (g a) (g v)with
   | some (ok,u)=>some ⟨ok,.any,some u,none⟩
   | none=>none))
 | .nilCheck x=>(match g x with | .ptr id off=>some (.pure (.ptr id off)) | .iF cs=>some (.pure (.iF cs)) | .elt id i off=>some (.pure (.elt id i off)) | .fn f a b=>some (.pure (.fn f a b)) | _=>none)
 | .makeSlice T n c=>QT S.next T (g n) (g c)
 | .makeMap T none=>Ee S.next T
 | .mapUpdate T m i x=>(match Ik S.objs T (g m) (g i) (g x)with | some (ok,u)=>some ⟨ok,.any,some u,none⟩ | none=>none)
 | .lookup T x i ok=>(match K4 T (g x) (g i) ok with
  | some (b,v)=>some (.test b v)
  | none=>(match ok with
   | false=>(match Pt S.objs T (g x) (g i)with
    | some (b,v)=>some (.test b v)
    | none=>none)
   | true=>none))
 | .mapEntry T m i=>uf S.objs S.next T (g m) (g i)
 | .entryStore T m s x=>(match x9 S.objs T (g m) (g s) (g x)with | some u=>some ⟨true,.any,some u,none⟩ | none=>none)
 | .binOp op T x y _=>(match ad6 op T (g x) (g y)with
  | some r=>some (.test r.1 r.2)
  | none=>(match Ta op T (g x) (g y)with
   | some r=>some (.test r.1 r.2)
   | none=>(aea op T (g x) (g y)).map fun r=>.test r.1 r.2))
 | .unOp op _ x=>(aji op (g x)).map fun r=>.test r.1 r.2
 | .convert s d x=>(XI s d (g x)).map fun r=>.test r.1 r.2
 | .fieldAddr s x f=>(SQ s (g x) f).map .pure
 | .field s x f=>(Pm s (g x) f).map .pure
 | .indexAddr T x i=>(match EW T (g x) (g i)with
  | some r=>some (.test r.1 r.2)
  | none=>(match Ic T (g x) (g i)with
   | some r=>some (.test r.1 r.2)
   | none=>(Ie T (g x) (g i)).map fun r=>.test r.1 r.2))
 | .index T x i=>(match SY T (g x) (g i)with
  | some r=>some (.test r.1 r.2)
  | none=>(Pn T (g x) (g i)).map fun r=>.test r.1 r.2)
 | .slice T x l h m=>(match Tc T (g x) (kJ S.tmps asm l) (kJ S.tmps asm h) (kJ S.tmps asm m)with
  | some r=>some (.test r.1 r.2)
  | none=>(match Pp T (g x) (kJ S.tmps asm l) (kJ S.tmps asm h) (kJ S.tmps asm m)with
   | some r=>some (.test r.1 r.2)
   | none=>(Ig S.objs T (g x) (kJ S.tmps asm l) (kJ S.tmps asm h) (kJ S.tmps asm m)).map fun r=>.test r.1 r.2))
 | .extract x i=>(KY (g x) i).map .pure
 | .call c=>match c.callee with
  | .builtin .len=>(match bI S.tmps asm c.args,c.argTypes.toList with
   | [x],[T]=>(ad7 T x).map .pure
   | _,_=>none)
  | .builtin .append=>(match bI S.tmps asm c.args,c.argTypes.toList with
   | [s,x],[T,T']=>if Nat.beq T T' then wE S.objs S.next T s x else Ed S.objs S.next T T' s x
   | _,_=>none)
  | .builtin .unsafeSliceData=>(match bI S.tmps asm c.args with
   | [.grow t l id]=>some (.test (!l.isEmpty) (.sd t l id))
   | [.d (.raw (.slice none 0 0))]=>some (.pure (.d (.raw (.pointer none))))
   | _=>none)
  | .builtin .unsafeString=>(match bI S.tmps asm c.args,c.argTypes.toList with
   | [.sd t l id,.d (.int .i64 n)],[pt,_]=>QO S.objs pt t l id n
   | [.d (.raw (.pointer none)),.d (.int .i64 n)],[_,_]=>some (.test (n==0) (.d (.str [])))
   | _,_=>none)
  | .builtin .real=>(match bI S.tmps asm c.args with
   | [.d (.uX a _)]=>some (.pure (.d (.flt a)))
   | _=>none)
  | .builtin .imag=>(match bI S.tmps asm c.args with
   | [.d (.uX _ b)]=>some (.pure (.d (.flt b)))
   | _=>none)
  | .builtin .complex=>(match bI S.tmps asm c.args with
   | [.d (.flt a),.d (.flt b)]=>some (.pure (.d (.uX a b)))
   | _=>none)
  | .builtin .copy=>(match bI S.tmps asm c.args,c.argTypes.toList with
   | [d,s],[T,T']=>if Nat.beq T T' then QU S.objs T d s else none
   | _,_=>none)
  | .builtin .min=>(match bI S.tmps asm c.args,c.argTypes.toList with
   | [x,y],[T,_]=>(Xd false T x y).map .pure
   | _,_=>none)
  | .builtin .max=>(match bI S.tmps asm c.args,c.argTypes.toList with
   | [x,y],[T,_]=>(Xd true T x y).map .pure
   | _,_=>none)
  | .value x=>(match Ns g x with
   | some f=>(match Td O f (bI S.tmps asm c.args)with
    | some r=>some r
    | none=>(match Ni O S.objs f c.argTypes.toList (bI S.tmps asm c.args)with
    | some r=>some r
    | none=>(match Ng O S.objs f (bI S.tmps asm c.args)with
    | some r=>some r
    | none=>(match Nq O S.next f (bI S.tmps asm c.args)with
    | some r=>some r
    | none=>(match Nr O S.objs S.next f c.argTypes.toList (bI S.tmps asm c.args)with
    | some r=>some r
    | none=>(match Nl O S.objs f c.argTypes.toList (bI S.tmps asm c.args)with
     | some r=>some r
     | none=>(match Nj O S.objs f c.argTypes.toList (bI S.tmps asm c.args)with
      | some r=>some r
      | none=>(match Nn O S.objs f (bI S.tmps asm c.args)with
       | some r=>some r
       | none=>(match Np O f (bI S.tmps asm c.args)with
        | some r=>some r
        | none=>QS O S.next f c.argTypes.toList (bI S.tmps asm c.args))))))))))
   | none=>(match g x with
    | .fn f p q=>Td O f (p++(bI S.tmps asm c.args++q))
    | _=>none))
  | _=>none
 | _=>none
end
section
variable {P:Program} (E:Env P)
def o9(w:World)(gh:Gh)(xs:List Value):Prop :=
 (w.ownsRow 0 gh.e gh.sz gh.v gh.n xs/\gh.blk=gh.v.ownBlock)\/(gh.n=0/\xs=[]/\gh.blk=none/\∃ad,gh.v = .slice ad 0 0)
def jJ(w:World)(ro:Nat->Nat->Prop)(t:E.Ty)(xs:List Value)(l:List (E.Den t)):Prop :=
 ∀(i:Nat) x (j:Nat) c,l[i]? = some x->(E.cells t x)[j]? = some c->∃u,xs[i*E.size t+j]? = some u/\cu E w ro u c
structure nL (w:World) (ro:Nat->Nat->Prop) (ι:Nat->Option Gh) (tk tv:E.Ty) (z:E.Den tv) (l:List (E.Den tk×E.Den tv)) (tok:Option (Nat×E.Den tk)) (es:Array MapEntry) (gK:Nat) (q:(E.Den tk->E.Den tk->Bool)×(E.Den tk->Bool)):Prop where
 kq:E.Cy tk=some q
 st:MapKept.Stamped es gK
 zero:∃zv,(∀w,(zeroValue (E.tid tv)).run P w = .ok zv w)/\∀w ro,jQ E w ro zv tv z
 ents:∀e∈es.toList, ∃k,q.2 k=true/\e.key=nk E tk k/\jQ E w ro e.val tv (mg q.1 z l k)
 XP:∀k,(∀e∈es.toList,e.key≠nk E tk k)->mg q.1 z l k=z
 tke:∀n k,tok=some (n,k)->q.2 k=true/\∃gt e,ι n=some gt/\e∈es.toList/\e.key=nk E tk k/\gt.v = .int .i64 e.born
def fM(w:World)(ro:Nat->Nat->Prop)(ι:Nat->Option Gh)(id:Nat):aH E->Prop
 | .dead=>True
 | .box cs=>∃gh g vs e,ι id=some gh/\gh.v = .pointer (some ⟨g,0,none⟩)/\gh.blk=some g/\w.heap[g]? = some (.cells vs e (0,0))/\vs.size=cs.length /\
   (∀(j:Nat) v c,vs[j]? = some v->cs[j]? = some c->v.oneCell'=true/\aJ E w ro ι v c)/\(∀o,¬ ro g o)/\gh.e=e
 | .tail live=>live=true->∃gh xs,ι id=some gh/\o9 w gh xs/\∀g,gh.blk=some g->∀o,gh.n*gh.sz<=o->¬ ro g o
 | .row t l=>∃gh xs,ι id=some gh/\gh.n=l.length/\gh.e=E.tid t/\gh.sz=E.size t/\o9 w gh xs/\jJ E w ro t xs l/\∀g,gh.blk=some g->∀o,¬ ro g o
 | .mp tk tv z l tok=>∃gh g es gK q,ι id=some gh/\gh.v = .map (some g)/\gh.blk=some g/\w.heap[g]? = some (.map es gK)/\nL E w ro ι tk tv z l tok es gK q
 | .lp st pend n tm ps assign body=>∃gh g rec,ι id=some gh/\gh.blk=some g/\w.heap[g]? = some (.loop rec)/\(rec.state=st/\rec.pending=pend/\rec.params=ps/\rec.assign=assign/\rec.body=body/\rec.tmps.size=n)/\∀t x,look tm t=some x->∃v,rec.tmps[t]? = some v/\aJ E w ro ι v x
 | .QH=>∃gh g,ι id=some gh/\gh.blk=some g/\w.heap[g]? = some (.deferred (some []))
 | .arr t l fz=>E.agg t=false/\∃gh g vs e,ι id=some gh/\gh.v = .pointer (some ⟨g,0,none⟩)/\gh.blk=some g/\w.heap[g]? = some (.cells vs e (0,0))/\vs.size=(kI t l).length /\
   (∀(j:Nat) v c,vs[j]? = some v->(kI t l)[j]? = some c->v.oneCell'=true/\aJ E w ro ι v c)/\((fz=false->∀o,¬ ro g o)/\(fz=true->∀o,o<l.length->ro g o))/\gh.e=e
def qH(w:World)(ro:Nat->Nat->Prop)(ι:Nat->Option Gh)(a:Act)(tm:List (Nat×AV E)):Prop :=
 ∀t x,look tm t=some x->∃v,a.tmps[t]? = some v/\uN E w ro ι a.tmps v x
structure Keep where
 w:World
 ro:Nat->Nat->Prop
 ι:Nat->Option Gh
structure Start where
 w:World
 x:Option Nat
 k:Option Keep
 dl:List Deferred:=[]
 h:Nat->Option Obj:=fun _=>none
abbrev Start.heap(s:Start):=s.w.heap
structure Base (w0:Start) (aZ:Nat->Nat->Prop) (a:Act) (w:World) (ι:Nat->Option Gh) (ro:Nat->Nat->Prop):Prop where
 below:w0.w.grownBy w w0.x
 aO:∀k o,ro k o->k<w.heap.size
 oZ:∀k o,ro k o->aZ k o\/w0.heap.size<=k\/w0.x=some k
 sQ:∀id gh k,ι id=some gh->gh.blk=some k->(w0.heap.size<=k\/w0.x=some k)/\k<w.heap.size
 defers:a.defers=w0.dl
 keep:∀q,w0.k=some q->(∀k o,q.ro k o->ro k o/\w.cell? ⟨k,o,none⟩=q.w.cell? ⟨k,o,none⟩)/\∀id gh,q.ι id=some gh->ι id=some gh
 held:∀k o,w0.h k=some o->w.heap[k]? = some o/\∀id gh,ι id=some gh->gh.blk≠some k
def QV(objs:List (Nat×aH E))(ι:Nat->Option Gh):Prop :=
 ∀(id id':Nat) o o' gh aX k,look objs id=some o->look objs id'=some o'->o.live=true->o'.live=true->ι id=some gh->ι id'=some aX->gh.blk=some k->aX.blk=some k->id=id'
structure cB (w0:Start) (aZ:Nat->Nat->Prop) (S:aD E) (a:Act) (w:World) (ι:Nat->Option Gh) (ro:Nat->Nat->Prop):Prop where
 base:Base w0 aZ a w ι ro
 size:a.tmps.size=S.n
 tmps:qH E w ro ι a S.tmps
 objs:∀(id:Nat) o,look S.objs id=some o->fM E w ro ι id o
 inj:QV E S.objs ι
 fresh:∀id,S.next<=id->ι id=none
 ids:∀id o,look S.objs id=some o->id<S.next
structure dh (w w':World) (ι ι':Nat->Option Gh) (ro ro':Nat->Nat->Prop) (bU:Nat) (r:dR E) (val:Value):Prop where
 os:w'.os=w.os
 tape:w'.tape=w.tape
 output:w'.output=w.output
 size:w.heap.size<=w'.heap.size
 frame:∀k,k<w.heap.size->(∀id o gh,r.upd=some (id,o)->ι id=some gh->gh.blk≠some k)->w'.heap[k]? = w.heap[k]?
 cell:∀k o,ro k o->w'.cell? ⟨k,o,none⟩=w.cell? ⟨k,o,none⟩
 mono:∀k o,ro k o->ro' k o
 aO:∀k o,ro' k o->k<w'.heap.size
 fresh:∀k o,ro' k o->ro k o\/w.heap.size<=k\/∃id ob gh,r.upd=some (id,ob)/\ι id=some gh/\gh.blk=some k
 iG:∀id,id≠bU->ι' id=ι id
 lK:∀gh k,ι' bU=some gh->gh.blk=some k->k<w'.heap.size/\(w.heap.size<=k\/∃id ob gh0,r.upd=some (id,ob)/\ob.live=false/\ι id=some gh0/\gh0.blk=some k)
 jK:r.new=none->ι'=ι
 upd:∀id o,r.upd=some (id,o)->fM E w' ro' ι' id o
 new:∀o,r.new=some o->fM E w' ro' ι' bU o
 val:aJ E w' ro' ι' val r.v
end
section
variable {P:Program} {E:Env P}
theorem nL.mono{w w':World}{ro ro':Nat->Nat->Prop}{ι ι':Nat->Option Gh}{tk tv:E.Ty}{z:E.Den tv}{l:List (E.Den tk×E.Den tv)}{tok:Option (Nat×E.Den tk)}{es:Array MapEntry}{gK:Nat}{q:(E.Den tk->E.Den tk->Bool)×(E.Den tk->Bool)}
  (h:nL E w ro ι tk tv z l tok es gK q) (hr:∀k o,ro k o->ro' k o) (hc:∀k o,ro k o->w'.cell? ⟨k,o,none⟩=w.cell? ⟨k,o,none⟩) (hi:∀id gh,ι id=some gh->ι' id=some gh):nL E w' ro' ι' tk tv z l tok es gK q :=
 ⟨h.kq,h.st,h.zero,fun e he=>by
  obtain⟨k,h1,h2,h3⟩:=h.ents e he;exact⟨k,h1,h2,h3.mono hr hc⟩,h.XP,fun n k hk=>by
  obtain⟨h1,gt,e,h2,h3⟩:=h.tke n k hk;exact⟨h1,gt,e,hi _ _ h2,h3⟩⟩
theorem dh.pure{w:World}{ι:Nat->Option Gh}{ro:Nat->Nat->Prop}{bU:Nat}{r:dR E}{val:Value}(hu:r.upd=none)(hn:r.new=none)(hlt:∀k o,ro k o->k<w.heap.size)(hi:ι bU=none)
  (hv:aJ E w ro ι val r.v):dh E w w ι ι ro ro bU r val where
 os:=rfl
 tape:=rfl
 output:=rfl
 size:=acM _
 frame:=fun _ _ _=>rfl
 cell:=fun _ _ _=>rfl
 mono:=fun _ _ h=>h
 aO:=hlt
 fresh:=fun _ _ h=>.inl h
 iG:=fun _ _=>rfl
 lK:=fun gh k h=>by rw[hi]at h;cases h
 jK:=fun _=>rfl
 upd:=fun id o h=>by rw[hu]at h;cases h
 new:=fun o h=>by rw[hn]at h;cases h
 val:=hv
end
section
variable {P:Program} {E:Env P} {w:World} {ro:Nat->Nat->Prop} {ι:Nat->Option Gh}
def Nt(a:Act)(asm:List (Nat×Bool)):Prop:=∀j b,rA asm j b=true->a.tmps[j]? = some (.bool b)
theorem toList_str(s:ByteArray):(⟨s.data.toList.toArray⟩:ByteArray)=s:=by simp
theorem BQ(v:Value):aJ E w ro ι v (uY v):=by
 cases v with
 | bool b=>exact .d _ _ (.bool b)
 | int k n=>exact .d _ _ (.int k n)
 | string s=>exact .d _ _ (by have:=cu.str (E:=E) (w:=w) (ro:=ro) s.data.toList;rw[toList_str]at this;exact this)
 | agg cs=>exact .any _
 | tuple cs=>exact .any _
 | float k b =>
  cases k with
  | f32=>exact .d _ _ (.raw _ rfl)
  | f64 =>
   show aJ E w ro ι (.float .f64 b) (match kH.whole b with | some n=>.d (.flt n) | none=>.d (.raw (.float .f64 b)));cases h:kH.whole b with
   | none=>exact .d _ _ (.raw _ rfl)
   | some n=>exact .d _ _ (.flt b n (kH.KU h))
 | complex k x y =>
  cases k with
  | f32=>exact .d _ _ (.raw _ rfl)
  | f64 =>
   show aJ E w ro ι (.complex .f64 x y) (match kH.whole x,kH.whole y with | some a,some b=>.d (.uX a b) | _,_=>.d (.raw (.complex .f64 x y)));cases h1:kH.whole x with
   | none=>exact .d _ _ (.raw _ rfl)
   | some a =>
    cases h2:kH.whole y with
    | none=>exact .d _ _ (.raw _ rfl)
    | some b=>exact .d _ _ (.uX x y a b (kH.KU h1) (kH.KU h2))
 | _=>exact .d _ _ (.raw _ rfl)
theorem QW(v:Value):aJ E w ro ι v (XH v):=by
 cases v with
 | agg cs =>
  refine .agg cs _ (by simp) (fun j v c hv hc=>?_);have hc':(cs.toList.map (uY (E:=E)))[j]? = some c:=hc;rw[acS]at hc';have:cs.toList[j]? = some v:=by simpa using hv
  rw[this]at hc';simp at hc';subst hc';exact BQ v
 | _=>exact BQ _
theorem wF{a:Act}{tm:List (Nat×AV E)}{asm:List (Nat×Bool)}(ht:qH E w ro ι a tm)(hs:Nt a asm)(x:Operand):aJ E w ro ι (a.eval x) (aS tm asm x):=by
 cases x with
 | const v=>exact QW v
 | global g=>exact .any _
 | func f=>exact .d _ _ (.raw _ rfl)
 | tmp t =>
  show aJ E w ro ι (a.tmps.getD t undef) (QI asm (look tm t));cases hx:look tm t with
  | none=>exact .any _
  | some x =>
   obtain⟨v,hv,h⟩:=ht t x hx;have e:a.tmps.getD t undef=v:=by simp[hv]
   rw[e];cases x with
   | cond j b u =>
    show aJ E w ro ι v (if rA asm j b then u else .any);by_cases hb:rA asm j b=true
    ·rw[if_pos hb];exact h.1 (hs j b hb)
    ·rw[if_neg hb];exact .any _
   | _=>exact h
def bn(E:Env P)(o:Oper)(a:Act)(w:World)(ι:Nat->Option Gh)(ro:Nat->Nat->Prop)(bU:Nat)(r:dR E):Prop :=
 (∃val w' ι' ro',(execOp a.eval o).run P w = .ok (.value val) w'/\dh E w w' ι ι' ro ro' bU r val) \/
 (∃w' ι' ro',(execOp a.eval o).run P w = .ok .skip w'/\dh E w w' ι ι' ro ro' bU r undef) \/
 (∃f args,(execOp a.eval o).run P w = .ok (.enter f args) w/\Calls P f args w fun e w'=>∃val ι' ro',e = .returned val/\dh E w w' ι ι' ro ro' bU r val)
theorem bn.wp{o:Oper}{a:Act}{bU:Nat}{r:dR E}{K:Act->World->Prop}{Q:Exit->Act->World->Prop}(h:bn E o a w ι ro bU r)
  (hK:∀val w' ι' ro',dh E w w' ι ι' ro ro' bU r val->K (a.put o.dst val) w'):o.wp P a w K Q:=by
 unfold Oper.wp;rcases h with⟨val,w',ι',ro',hr,hp⟩ | ⟨w',ι',ro',hr,hp⟩ | ⟨f,args,hr,hc⟩
 ·rw[hr];exact hK _ _ _ _ hp
 ·rw[hr];exact hK _ _ _ _ hp
 ·rw[hr];refine hc.mono fun e w' he=>?_
  grind
theorem bn.pure{o:Oper}{a:Act}{bU:Nat}{r:dR E}{val:Value}(hlt:∀k o,ro k o->k<w.heap.size)(hi:ι bU=none)(hr:(execOp a.eval o).run P w = .ok (.value val) w)
  (hu:r.upd=none) (hn:r.new=none) (hv:aJ E w ro ι val r.v):bn E o a w ι ro bU r :=
 .inl ⟨val,w,ι,ro,hr,.pure hu hn hlt hi hv⟩
theorem aJ.lM{v:Value}{b:Bool}(h:aJ E w ro ι v (.d (.bool b))):v = .bool b:=by cases h with | d _ _ h=>cases h;rfl
theorem aJ.iX{v:Value}{k:IntKind}{n:Int}(h:aJ E w ro ι v (.d (.int k n))):v = .int k n:=by cases h with | d _ _ h=>cases h;rfl
theorem aJ.wV{v:Value}{n:Int}(h:aJ E w ro ι v (.d (.flt n))):∃b,v = .float .f64 b/\kH.qC b n:=by cases h with | d _ _ h=>cases h with | flt b _ h=>exact⟨b,rfl,h⟩
theorem aJ.Co{v:Value}{a b:Int}(h:aJ E w ro ι v (.d (.uX a b))):∃x y,v = .complex .f64 x y/\kH.qC x a/\kH.qC y b:=by cases h with | d _ _ h=>cases h with | uX x y _ _ h1 h2=>exact⟨x,y,rfl,h1,h2⟩
theorem aJ.zw{v:Value}{s:alJ}(h:aJ E w ro ι v (.d (.str s))):v = .string ⟨s.toArray⟩:=by cases h with | d _ _ h=>cases h;rfl
theorem aJ.gD{v u:Value}(h:aJ E w ro ι v (.d (.raw u))):v=u:=by cases h with | d _ _ h=>cases h;rfl
theorem QX{v:Value}{c:AV E}(hc:Cz c=true)(h:aJ E w ro ι v c):v.oneCell'=true:=by
 cases h with
 | any v=>cases hc
 | d v c h=>exact h.one
 | st=>cases hc
 | agg=>cases hc
 | ni=>cases hc
 | grow gh t l id h1 _ _ _ h2=>exact h2.one
 | row gh t id ad cap _ _ _ h=>rw[h];rfl
 | mk gh v g T id _ _ _ h=>rcases h with rfl | rfl<;>rfl
 | ent=>cases hc
 | _=>rfl
theorem toD_rep{v:Value}{x:AV E}{c:bE E.Den}(h:aJ E w ro ι v x)(hc:toD x=some c):cu E w ro v c:=by
 cases h with
 | d v c' h=>cases hc;exact h
 | grow gh t l id _ _ _ _ h=>cases hc;exact h
 | _=>cases hc
theorem toDs_len:∀{cs:List (AV E)} {ds:List (bE E.Den)},toDs cs=some ds->ds.length=cs.length
 | [],ds,h=>by cases h;rfl
 | c::r,ds,h=>by
  unfold toDs at h;cases hc:toD c with
  | none=>rw[hc]at h;cases h
  | some x =>
   cases hr:toDs r with
   | none=>rw[hc,hr]at h;cases h
   | some xs =>rw[hc,hr]at h;cases h;simp[toDs_len hr]
theorem toDs_at:∀{cs:List (AV E)} {ds:List (bE E.Den)},toDs cs=some ds->∀(j:Nat) c e,cs[j]? = some c->ds[j]? = some e->toD c=some e
 | [],_,_,j,c,_,hj,_=>by simp at hj
 | c::r,ds,h,j,c',e,hj,he=>by
  unfold toDs at h;cases hc:toD c with
  | none=>rw[hc]at h;cases h
  | some x =>
   cases hr:toDs r with
   | none=>rw[hc,hr]at h;cases h
   | some xs =>
    rw[hc,hr]at h;cases h;cases j with
    | zero =>grind
    | succ j=>exact toDs_at hr j c' e (by simpa using hj) (by simpa using he)
theorem agv{v:Value}{t t':E.Ty}{x:E.Den t}{y:E.Den t'}(h:Ec t t' x=some y)(hr:jQ E w ro v t x):jQ E w ro v t' y:=by
 unfold Ec at h;cases hd:E.dec t t' with
 | isFalse hn=>rw[hd]at h;cases h
 | isTrue he =>rw[hd]at h;subst he;cases h;exact hr
theorem Kj{α:Type}{l:List α}(h:l.length=1):∃x,l=[x]:=by
 match l,h with
 | [x],_=>exact⟨x,rfl⟩
theorem agw{v:Value}{t:E.Ty}{c:bE E.Den}{y:E.Den t}(ha:E.agg t=false)(hf:E.fold t [c]=some y)(hd:cu E w ro v c):jQ E w ro v t y:=by have hle:=E.o8 t _ _ hf;obtain⟨c',hc'⟩:=Kj ((E.fA t y).trans (E.one t ha));rw[hc']at hle;exact .inr ⟨ha,c',hc',hle.1.rep hd⟩
theorem kK{v:Value}{t:E.Ty}{x:AV E}{y:E.Den t}(h:aJ E w ro ι v x)(hf:ng t x=some y):jQ E w ro v t y:=by
 have scalar:∀c,toD x=some c->(if E.agg t then none else(match toD x with | some c=>E.fold t [c] | none=>none))=some y->jQ E w ro v t y:=by
  intro c hc hf;by_cases ha:E.agg t=true
  ·rw[if_pos ha]at hf;cases hf
  ·rw[if_neg ha,hc]at hf;exact agw (by simpa using ha) hf (toD_rep h hc)
 cases h with
 | st vs t' x' ha hrow =>
  change (match Ec t' t x' with | some y=>some y | none=>if E.agg t then E.fold t (E.cells t' x')else none)=some y at hf;cases hc:Ec t' t x' with
  | some y' =>rw[hc]at hf;cases hf;exact agv hc (.inl ⟨ha,vs,rfl,hrow⟩)
  | none =>
   rw[hc]at hf;by_cases hat:E.agg t=true
   ·simp only[if_pos hat]at hf;exact .inl ⟨hat,vs,rfl,jP.le (E.o8 t _ _ hf) hrow⟩
   ·simp only[if_neg hat]at hf;cases hf
 | agg vs cs hs hi =>
  change (if E.agg t then(match toDs cs with | some ds=>E.fold t ds | none=>none)else none)=some y at hf;by_cases ha:E.agg t=true
  ·rw[if_pos ha]at hf;cases hd:toDs cs with
   | none=>rw[hd]at hf;cases hf
   | some ds =>
    rw[hd]at hf;refine .inl ⟨ha,vs,rfl,jP.le (E.o8 t _ _ hf) ⟨hs.trans (toDs_len hd).symm,fun j u e hu he=>?_⟩⟩;have hj:j<cs.length:=by rw[<- toDs_len hd];exact(List.getElem?_eq_some_iff.1 he).1
    have hcj:=aae hj;exact toD_rep (hi j u _ hu hcj) (toDs_at hd j _ e hcj he)
  ·rw[if_neg ha]at hf;cases hf
 | d v c hd=>exact scalar c rfl hf
 | grow gh t' l id h1 hn he hs hd=>exact scalar _ rfl hf
 | _=>change (if E.agg t then none else none)=some y at hf;split at hf<;>cases hf
theorem j3{v:Value}{t:E.Ty}{x:E.Den t}(h:jQ E w ro v t x):aJ E w ro ι v (eD t x):=by
 unfold eD;rcases h with⟨ha,vs,rfl,hrow⟩ | ⟨ha,c,hc,hd⟩
 ·rw[if_pos ha];exact .st vs t x ha hrow
 ·rw[if_neg (by simp[ha]),hc];exact .d _ _ hd
theorem K7{v:Value}{T:TypeId}{x:AV E}(h:aJ E w ro ι v x):aJ E w ro ι v (Xa T x):=by
 unfold Xa;cases ak1 x with
 | true=>exact h
 | false =>
 simp only[cond_false];cases E.code T with
 | none=>exact h
 | some t =>
  cases hf:ng t x with
  | none=>simp only[hf];exact h
  | some y=>simp only[hf];exact j3 (kK h hf)
theorem Pv:∀{cs:List (AV E)},zW cs=true->∀(j:Nat) c,cs[j]? = some c->Cz c=true
 | [],_,j,c,h=>by simp at h
 | x::r,ha,j,c,h=>by
  unfold zW at ha;simp at ha;cases j with
  | zero=>simp at h;subst h;exact ha.1
  | succ j=>exact Pv ha.2 j c (by simpa using h)
theorem nM{v:Value}{x:AV E}{cs:List (AV E)}(h:aJ E w ro ι v x)(hc:nK x=some cs) :
  v.cells.size=cs.length/\∀(j:Nat) u c,v.cells[j]? = some u->cs[j]? = some c->u.oneCell'=true/\aJ E w ro ι u c:=by
 have single:Cz x=true->cs=[x]->v.cells.size=cs.length/\∀(j:Nat) u c,v.cells[j]? = some u->cs[j]? = some c->u.oneCell'=true/\aJ E w ro ι u c:=by intro hk hcs;have h1:=QX hk h;rw[Value.cells_one h1,hcs];grind
 cases h with
 | st vs t x ha hrow =>
  cases hc;refine⟨by simpa[Value.cells]using hrow.1,fun j u c hu hj=>?_⟩;rw[acS]at hj;cases he:(E.cells t x)[j]? with
  | none=>rw[he]at hj;cases hj
  | some e =>rw[he]at hj;cases hj;have hd:=hrow.2 j u e (by simpa[Value.cells]using hu) he;exact⟨hd.one,.d _ _ hd⟩
 | agg vs cs' hs hi =>
  change (if zW cs' then some cs' else none)=some cs at hc;by_cases hk:zW cs'=true
  ·rw[if_pos hk]at hc;cases hc;refine⟨hs,fun j u c hu hj=>?_⟩;have hr:=hi j u c (by simpa[Value.cells]using hu) hj;exact⟨QX (Pv hk j c hj) hr,hr⟩
  ·rw[if_neg hk]at hc;cases hc
 | any v=>cases hc
 | ni vs cs=>cases hc
 | ent=>cases hc
 | _=>cases hc;exact single rfl rfl
theorem iR(g off j:Nat):(⟨g,off,none⟩:Addr).add j=⟨g,off+j,none⟩:=by unfold Addr.add;split<;>simp_all
theorem Ef{T:TypeId}{d:TypeDesc}(h:P.underlying T=some d):(isAgg T).run P w = .ok (Cx P T) w:=by unfold isAgg Cx;rw[h];cases d<;>simp[run_underlying h]
theorem qD{T:TypeId}{n:Nat}(h:sizeT P T=some n):∃i d,P.info? T=some i/\P.underlying T=some d/\i.size=n:=by unfold sizeT at h;grind
theorem run_sizeOf{T:TypeId}{i:TypeInfo}(h:P.info? T=some i):(sizeOf T).run P w = .ok i.size w:=by simp[sizeOf,typeInfo,h]
theorem sF{T:TypeId}{cs:List (AV E)}{r:AV E}{g off:Nat}(hcs:∀(j:Nat) c,cs[j]? = some c->∃u,w.cell? ⟨g,off+j,none⟩=some u/\aJ E w ro ι u c)(ht:takeA T cs=some r) :
  ∃val,(loadVar T ⟨g,off,none⟩).run P w = .ok val w/\aJ E w ro ι val r:=by
 unfold takeA at ht;cases hsz:sizeT P T with
 | none=>rw[hsz]at ht;cases ht
 | some n =>
  obtain⟨i,d,hi,hd,hn⟩:=qD hsz;rw[hsz]at ht;simp only at ht;by_cases ha:Cx P T=true
  ·rw[if_pos ha]at ht;by_cases hle:n<=cs.length
   ·rw[if_pos hle]at ht;cases ht;let f:Nat->Value:=fun j=>((w.cell? ⟨g,off+j,none⟩).getD undef)
    have hf:∀j,j<n->w.cell? ((⟨g,off,none⟩:Addr).add j)=some (f j):=by intro j hj;obtain⟨u,hu,_⟩:=hcs j _ (aae (show j<cs.length by omega));rw[iR];simp[f,hu]
    have hrun:=run_loadCells (P:=P) w ⟨g,off,none⟩ n f hf;refine⟨.agg ((List.range n).map f).toArray,?_,K7 (.agg _ _ (by simp;omega) (fun j v c hv hc=>?_))⟩
    ·unfold loadVar;simp[Ef hd,ha,run_sizeOf hi,hn,hrun]
    grind
   ·rw[if_neg hle]at ht;cases ht
  ·rw[if_neg ha]at ht;obtain⟨u,hu,hr⟩:=hcs 0 r ht;refine⟨u,?_,hr⟩;unfold loadVar;simp at hu;simp[Ef hd,ha,run_load,hu]
theorem K8(t tx ty e:TypeId)(i:TypeInfo)(ht:P.underlying t=some (.slice e))(hi:P.info? e=some i)(g n cap:Nat)(cur:Array Value)(hg:w.heap[g]? = some (.cells cur e (0,0)))
  (x:Value) (m:Nat) (news:List Value) (hs:Src P i.size tx x m news w) (hroom:n+m<=cap) (hfit:n*i.size+news.length<=cur.size) :
  (Builtin.append_ #[t,tx] ty #[.slice (some ⟨g,0,none⟩) n cap,x]).run P w = .ok (.slice (some ⟨g,0,none⟩) (n+m) cap) (w.setRow g (cur.toList.take (n*i.size)++news++cur.toList.drop (n*i.size+news.length)).toArray):=by
 have hst:=run_storeCells_at P g (n*i.size) e news 0 cur w hg (by simpa using hfit) hs.one;simp only[ah7]at hst;rcases hs.kind with⟨e',hk⟩ | hk<;>simp[Builtin.append_,run_underlying ht,run_underlying hk,sizeOf,typeInfo,hi,hs.len,hroom,hs.cells,Addr.add_lit,hst]
theorem Eh(t tx ty e:TypeId)(i:TypeInfo)(z:Value)(ht:P.underlying t=some (.slice e))(hi:P.info? e=some i)(hz:i.zero=some z)(hzs:z.cells.size=i.size)
  (v:Value) (n:Nat) (xs:List Value) (hown:w.ownsRow 0 e i.size v n xs) (x:Value) (m:Nat) (news:List Value) (hs:Src P i.size tx x m news w)
  (h63:n+m<=maxLen) (hbytes:(n+m)*i.bytes<=140737488355328) :
  ∃v' w',(Builtin.append_ #[t,tx] ty #[v,x]).run P w = .ok v' w'/\w'.ownsRow 0 e i.size v' (n+m) (xs++news)/\w.grownBy w' v.ownBlock /\
   (v'.ownBlock=v.ownBlock\/v'.ownBlock=some w.heap.size)/\∀g,v.ownBlock=some g->∀j u,xs[j]? = some u->w'.cell? ⟨g,j,none⟩=some u:=by
 have hsmall:n+m<=9223372036854775807:=by simp only[maxLen]at h63;omega
 have hl:=hs.newsLen;have hlen:(xs++news).length=(n+m)*i.size:=by rw[List.length_append,hown.1,hl,Nat.add_mul]
 have grown:∀(old:Nat), ∀(row:Option Nat),
   (w.drew.alloc (.cells ((xs++news).toArray++Builtin.zeroCells z.cells (grownCap w (n+m) old e-(n+m))) e)).ownsRow 0 e i.size
    (.slice (some ⟨w.heap.size,0,none⟩) (n+m) (grownCap w (n+m) old e)) (n+m) (xs++news) /\
   w.grownBy (w.drew.alloc (.cells ((xs++news).toArray++Builtin.zeroCells z.cells (grownCap w (n+m) old e-(n+m))) e)) row:=by
  intro old row;have hge:=grownCap_ge w (n+m) old e;have hcm:grownCap w (n+m) old e<=maxLen:=grownCap_le_maxLen w (n+m) old e h63;refine⟨⟨hlen,.inr ⟨w.heap.size,_,_,rfl,ab8 _,heap_alloc_new w.drew _,hge,hcm,?_,?_⟩⟩,⟨rfl,rfl,rfl,by simp,fun k hk _=>heap_alloc_old w.drew _ hk⟩⟩
  ·simp only[Array.size_append,List.size_toArray,size_zeroCells,hzs,hlen,<- Nat.add_mul];congr 1;omega
  ·simp only[Array.toList_append];rw[<- hlen];exact List.take_left
 rcases hown.2 with⟨rfl,rfl⟩ | ⟨g,cap,cur,rfl,hbg,hg,hnc,hcm,hcs,htake⟩
 ·have hx:xs=[]:=ac1 (by simpa using hown.1);subst hx;by_cases hm:m=0
  ·subst hm;have hn:news=[]:=ac1 (by simpa using hl);subst hn;refine⟨.slice none 0 0,w,?_,by simpa using hown,⟨rfl,rfl,rfl,acM _,fun _ _ _=>rfl⟩,.inl rfl,fun g hg j u hu=>by simp at hu⟩;have hc:=hs.cells;have hlz:=hs.len;rcases hs.kind with⟨e',hk⟩ | hk<;>simp[Builtin.append_,run_underlying ht,run_underlying hk,sizeOf,typeInfo,hi,hlz,hc]
  ·have hb:=hbytes;simp only[adr]at hb;have hr:=run_append_grow_src (P:=P) w t tx ty e i z ht hi hz none 0 0 [] (by simp[Builtin.firstCells]) x m news hs (by omega) (by omega) (growslice_fits (by omega) (by simpa using hb));have hgr:=grown 0 (Value.ownBlock (.slice none 0 0));exact⟨_,_,hr,hgr.1,hgr.2,.inr rfl,fun g hg=>by simp[Value.ownBlock]at hg⟩
 ·by_cases hroom:n+m<=cap
  ·have hfit:n*i.size+news.length<=cur.size:=by rw[hl,hcs,<- Nat.add_mul];exact ac6 _ hroom
   have hr:=K8 t tx ty e i ht hi g n cap cur hg x m news hs hroom hfit;refine⟨_,_,hr,⟨hlen,.inr ⟨g,cap,_,rfl,hbg,setRow_heap w g cur _ e _ hg,hroom,hcm,?_,?_⟩⟩,⟨rfl,rfl,rfl,by simp,fun k _ hk=>setRow_other w g k _ (fun e=>hk (by simp[Value.ownBlock,e]))⟩,.inl rfl,fun g' hg' j u hu=>?_⟩
   ·simp only[List.size_toArray,List.length_append,acV,acW,agS];omega
   ·rw[htake,<- hlen];exact List.take_left
   ·simp[Value.ownBlock]at hg';subst hg';rw[cell_setRow_same w g j cur _ e _ hg,htake];have hj:j<xs.length:=(List.getElem?_eq_some_iff.1 hu).1;simp[acY,hj];rw[aae hj]at hu;simpa using hu
  ·have holds:∀j u,xs[j]? = some u->w.cell? ((⟨g,0,none⟩:Addr).add j)=some u:=hown.cells (g:=g) rfl;have hr:=run_append_grow_src (P:=P) w t tx ty e i z ht hi hz (some ⟨g,0,none⟩) n cap xs (run_firstCells_some (P:=P) w.drew i.size n ⟨g,0,none⟩ n cap xs hown.1 (by simpa using holds)) x m news hs (by omega) (by omega) (growslice_fits (by omega) hbytes);have hgr:=grown cap (Value.ownBlock (.slice (some ⟨g,0,none⟩) n cap));refine⟨_,_,hr,hgr.1,hgr.2,.inr rfl,fun g' hg' j u hu=>?_⟩;simp[Value.ownBlock]at hg';subst hg';have hlt:g<w.heap.size:=(Array.getElem?_eq_some_iff.1 hg).1;have:=holds j u hu;rw[iR,adr]at this;rw[<- this];exact World.cell?_of_block (heap_alloc_old w.drew _ hlt)
theorem Gc(t tx ty e:TypeId)(i:TypeInfo)(z:Value)(ht:P.underlying t=some (.slice e))(hi:P.info? e=some i)(hz:i.zero=some z)(hzs:z.cells.size=i.size)
  (v:Value) (n:Nat) (xs:List Value) (b:Option Nat) (hown:(w.ownsRow 0 e i.size v n xs/\b=v.ownBlock)\/(n=0/\xs=[]/\b=none/\∃ad,v = .slice ad 0 0))
  (x:Value) (m:Nat) (news:List Value) (hs:Src P i.size tx x m news w)
  (h63:n+m<=maxLen) (hbytes:(n+m)*i.bytes<=140737488355328) :
  ∃v' w' b',(Builtin.append_ #[t,tx] ty #[v,x]).run P w = .ok v' w'/\((w'.ownsRow 0 e i.size v' (n+m) (xs++news)/\b'=v'.ownBlock)\/(n+m=0/\xs++news=[]/\b'=none/\∃ad,v' = .slice ad 0 0)) /\
   w.grownBy w' b/\(b'=b\/b'=some w.heap.size)/\∀g,b=some g->∀j u,xs[j]? = some u->w'.cell? ⟨g,j,none⟩=some u:=by
 have hl:=hs.newsLen;rcases hown with⟨hown,rfl⟩ | ⟨rfl,rfl,rfl,ad,rfl⟩
 ·obtain⟨v',w',h1,h2,h3,h4,h5⟩:=Eh t tx ty e i z ht hi hz hzs v n xs hown x m news hs h63 hbytes;exact⟨v',w',_,h1,.inl ⟨h2,rfl⟩,h3,h4,h5⟩
 ·cases ad with
  | none =>obtain⟨v',w',h1,h2,h3,h4,h5⟩:=Eh t tx ty e i z ht hi hz hzs (.slice none 0 0) 0 [] (World.ownsRow_nil w 0 e i.size) x m news hs h63 hbytes;exact⟨v',w',_,h1,.inl ⟨h2,rfl⟩,h3,h4,fun g hg=>by cases hg⟩
  | some A =>
   by_cases hm:m=0
   ·subst hm;have hn:news=[]:=ac1 (by simpa using hl);subst hn;refine⟨.slice (some A) 0 0,w,none,?_,.inr ⟨rfl,rfl,rfl,_,rfl⟩,⟨rfl,rfl,rfl,acM _,fun _ _ _=>rfl⟩,.inl rfl,fun g hg=>by cases hg⟩;have hc:=hs.cells;have hlz:=hs.len;rcases hs.kind with⟨e',hk⟩ | hk<;>simp[Builtin.append_,run_underlying ht,run_underlying hk,sizeOf,typeInfo,hi,hlz,hc,storeCells]
   ·have hr:=run_append_grow_src (P:=P) w t tx ty e i z ht hi hz (some A) 0 0 [] (run_firstCells_some (P:=P) w.drew i.size 0 A 0 0 [] (by simp) (fun j v h=>by simp at h)) x m news hs (by omega) (by simp only[maxLen]at h63;omega) (growslice_fits (by omega) hbytes);refine⟨_,_,some w.heap.size,hr,.inl ⟨⟨by rw[ac7,adr];exact hl,.inr ⟨w.heap.size,_,_,rfl,ab8 _,heap_alloc_new w.drew _,grownCap_ge w (0+m) 0 e,grownCap_le_maxLen w (0+m) 0 e h63,?_,?_⟩⟩,rfl⟩,⟨rfl,rfl,rfl,by simp,fun k hk _=>heap_alloc_old w.drew _ hk⟩,.inr rfl,fun g hg=>by cases hg⟩
    ·have hge:=grownCap_ge w (0+m) 0 e;simp only[Array.size_append,List.size_toArray,size_zeroCells,hzs,hl,<- Nat.add_mul,ac7,adr]at hge ⊢;congr 1;omega
    ·simp only[Array.toList_append,ac7,adr];rw[<- hl];exact List.take_left
structure Ctx (E:Env P) (S:aD E) (asm:List (Nat×Bool)) (a:Act) (w:World) (ι:Nat->Option Gh) (ro:Nat->Nat->Prop):Prop where
 tm:qH E w ro ι a S.tmps
 asm:Nt a asm
 aO:∀k o,ro k o->k<w.heap.size
 objs:∀(id:Nat) o,look S.objs id=some o->fM E w ro ι id o
 fresh:ι S.next=none
section
variable {S:aD E} {asm:List (Nat×Bool)} {a:Act}
theorem Ctx.get(c:Ctx E S asm a w ι ro)(x:Operand):aJ E w ro ι (a.eval x) (aS S.tmps asm x):=wF c.tm c.asm x
theorem Ctx.pure(c:Ctx E S asm a w ι ro){o:Oper}{val:Value}{x:AV E}(hr:(execOp a.eval o).run P w = .ok (.value val) w)(hv:aJ E w ro ι val x):bn E o a w ι ro S.next (.pure x) :=
 .pure c.aO c.fresh hr rfl rfl hv
def gy(ι:Nat->Option Gh)(id:Nat)(gh:Gh):Nat->Option Gh:=fun i=>if i=id then some gh else ι i
theorem K9(ι:Nat->Option Gh)(id:Nat)(gh:Gh)(h:ι id=none):∀i g,ι i=some g->gy ι id gh i=some g:=by intro i g hi;unfold gy;grind
theorem qI(w:World)(ob:Obj){k:Nat}(h:k<w.heap.size)(o:Nat):(w.alloc ob).cell? ⟨k,o,none⟩=w.cell? ⟨k,o,none⟩ :=
 World.cell?_of_block (heap_alloc_old w ob h)
theorem dh.anV(c:Ctx E S asm a w ι ro)(vs:Array Value)(T:TypeId)(cs:List (AV E))(hs:vs.size=cs.length)
  (hv:∀(j:Nat) v x,vs[j]? = some v->cs[j]? = some x->v.oneCell'=true/\aJ E (w.alloc (.cells vs T)) ro (gy ι S.next ⟨.pointer (some ⟨w.heap.size,0,none⟩),0,T,0,some w.heap.size⟩) v x) :
  dh E w (w.alloc (.cells vs T)) ι (gy ι S.next ⟨.pointer (some ⟨w.heap.size,0,none⟩),0,T,0,some w.heap.size⟩) ro ro S.next ⟨true,.ptr S.next 0,none,some (.box cs)⟩ (.pointer (some ⟨w.heap.size,0,none⟩)) where
 os:=rfl
 tape:=rfl
 output:=rfl
 size:=by simp
 frame:=fun k hk _=>heap_alloc_old w _ hk
 cell:=fun k o h=>qI w _ (c.aO k o h) o
 mono:=fun _ _ h=>h
 aO:=fun k o h=>by have:=c.aO k o h;simp;omega
 fresh:=fun _ _ h=>.inl h
 iG:=fun id h=>if_neg h
 lK:=fun gh k h hk=>by simp[gy]at h;subst h;simp at hk;subst hk;exact⟨by simp,.inl (acM _)⟩
 jK:=fun h=>by cases h
 upd:=fun id o h=>by cases h
 new:=fun o h=>by cases h;exact⟨_,w.heap.size,vs,T,if_pos rfl,rfl,rfl,heap_alloc_new w _,hs,hv,fun o h=>by have:=c.aO _ o h;omega,rfl⟩
 val:=.ptr _ _ _ _ (if_pos rfl) rfl
theorem dh.box(c:Ctx E S asm a w ι ro)(vs:Array Value)(T:TypeId)(cs:List (AV E))(hs:vs.size=cs.length)(hv:∀(j:Nat) v x,vs[j]? = some v->cs[j]? = some x->v.oneCell'=true/\aJ E w ro ι v x) :
  dh E w (w.alloc (.cells vs T)) ι (gy ι S.next ⟨.pointer (some ⟨w.heap.size,0,none⟩),0,T,0,some w.heap.size⟩) ro ro S.next ⟨true,.ptr S.next 0,none,some (.box cs)⟩ (.pointer (some ⟨w.heap.size,0,none⟩)) :=
 dh.anV c vs T cs hs fun j v x h1 h2=>by obtain⟨g1,g2⟩:=hv j v x h1 h2;exact⟨g1,g2.mono (fun _ _ h=>h) (fun k o h=>qI w _ (c.aO k o h) o) (K9 _ _ _ c.fresh)⟩
theorem aef{O:aK E}{T:TypeId}{bU g:Nat}{cs:List (AV E)}{vs:Array Value}{w':World}{ro':Nat->Nat->Prop}{ι':Nat->Option Gh}{gh:Gh}(hi:ι' bU=some gh)(hgv:gh.v = .pointer (some ⟨g,0,none⟩))(he:gh.e=T)(hs:vs.size=cs.length)
  (h:∀(j:Nat) v x,vs[j]? = some v->cs[j]? = some x->v.oneCell'=true/\aJ E w' ro' ι' v x):vs.size=(KZ O T bU cs).length/\∀(j:Nat) v x,vs[j]? = some v->(KZ O T bU cs)[j]? = some x->v.oneCell'=true/\aJ E w' ro' ι' v x:=by
 unfold KZ;split
 ·exact⟨hs,h⟩
 ·split
  ·rename_i r _;refine⟨hs,fun j v x hv hx=>?_⟩;cases j with
   | succ j=>exact h (j+1) v x hv hx
   | zero =>obtain⟨g1,g2⟩:=h 0 v _ hv rfl;have:=g2.gD;subst this;simp at hx;subst hx;exact⟨rfl,.mk gh _ g T bU hi hgv he (.inl rfl)⟩
  ·exact⟨hs,h⟩
theorem dh.aT{w w':World}{ι ι':Nat->Option Gh}{ro ro':Nat->Nat->Prop}{bU:Nat}{r:dR E}{val val':Value}{x:AV E}(h:dh E w w' ι ι' ro ro' bU r val)(hx:aJ E w' ro' ι' val' x):dh E w w' ι ι' ro ro' bU ⟨r.ok,x,r.upd,r.new⟩ val' :=
 ⟨h.os,h.tape,h.output,h.size,h.frame,h.cell,h.mono,h.aO,h.fresh,h.iG,h.lK,h.jK,h.upd,h.new,hx⟩
theorem ajm{T:TypeId}{cs:List (AV E)}(h:BO T=some cs):∃i z,P.info? T=some i/\i.zero=some z/\cs=z.cells.toList.map uY/\(zeroValue T).run P w = .ok z w:=by
 unfold BO at h;cases hi:P.info? T with
 | none=>rw[hi]at h;cases h
 | some i =>
  cases hz:i.zero with
  | none=>rw[hi]at h;simp only[hz]at h;cases h
  | some z =>rw[hi]at h;simp only[hz]at h;cases h;exact⟨i,z,rfl,hz,rfl,by simp[zeroValue,typeInfo,hi,hz]⟩
theorem aeg{v:Value}{c:AV E}(h:uY v=c)(hc:Cz c=true):v.oneCell'=true:=by subst h;cases v<;>first | rfl | cases hc
theorem aeh(c:Ctx E S asm a w ι ro){o:Oper}{T:TypeId}(ho:o.op = .alloc T){cs:List (AV E)}(h:BO T=some cs)(hk:zW cs=true)(O:aK E) :
  bn E o a w ι ro S.next ⟨true,.ptr S.next 0,none,some (.box (KZ O T S.next cs))⟩:=by
 obtain⟨i,z,hi,hz,hcs,hrun⟩:=ajm (w:=w) h;have hv:∀(j:Nat) v x,z.cells[j]? = some v->cs[j]? = some x->v.oneCell'=true/\aJ E w ro ι v x:=fun j v x h1 h2=>by
  have h2':=h2;rw[hcs,acS]at h2;have:z.cells.toList[j]? = some v:=by simpa using h1
  rw[this]at h2;simp at h2;subst h2;exact⟨aeg rfl (Pv hk j _ h2'),BQ v⟩
 have hm:=aef (O:=O) (T:=T) (bU:=S.next) (g:=w.heap.size) (w':=w.alloc (.cells z.cells T)) (ro':=ro) (ι':=gy ι S.next ⟨.pointer (some ⟨w.heap.size,0,none⟩),0,T,0,some w.heap.size⟩) (if_pos rfl) rfl rfl (show z.cells.size=cs.length by rw[hcs];simp) fun j v x h1 h2=>by obtain⟨g1,g2⟩:=hv j v x h1 h2;exact⟨g1,g2.mono (fun _ _ h=>h) (fun k o h=>qI w _ (c.aO k o h) o) (K9 _ _ _ c.fresh)⟩
 refine .inl ⟨_,_,_,_,?_,dh.anV c z.cells T _ hm.1 hm.2⟩;simp[execOp,ho,Instr.alloc,hrun,newVar,newRow]
theorem ajn(c:Ctx E S asm a w ι ro){o:Oper}{T:TypeId}{x:Operand}(ho:o.op = .box T x){cs:List (AV E)}(h:nK (aS S.tmps asm x)=some cs) :
  bn E o a w ι ro S.next ⟨true,.ptr S.next 0,none,some (.box cs)⟩:=by
 obtain⟨h1,h2⟩:=nM (c.get x) h;refine .inl ⟨_,_,_,_,?_,dh.box c (a.eval x).cells T cs h1 h2⟩;simp[execOp,ho,Instr.box,newVar,newRow]
theorem Kk{x:AV E}{v:Value}{T:TypeId}{r:AV E}(Ei:∀(id:Nat) o,look S.objs id=some o->fM E w ro ι id o)(hv:aJ E w ro ι v x)(h:KX S.objs T x=some r) :
  ∃val,(Instr.loadAt T v).run P w = .ok val w/\aJ E w ro ι val r:=by
 unfold KX at h;cases hv with
 | ptr gh g id off hi hgv =>
  simp only at h;cases bX:look S.objs id with
  | none=>rw[bX]at h;cases h
  | some ob =>
   cases ob with
   | box cs =>
    rw[bX]at h;obtain⟨aX,g',vs,e,hi',sU,_,hh,hsz,hcell,_⟩:=Ei id _ bX;rw[hi]at hi';cases hi';rw[hgv]at sU;cases sU;obtain⟨val,hrun,hr⟩:=sF (P:=P) (g:=g) (off:=off) (w:=w) (ro:=ro) (ι:=ι) (cs:=cs.drop off) (fun j c hc=>by
     rw[adZ]at hc;have hlt:off+j<vs.size:=by rw[hsz];exact(List.getElem?_eq_some_iff.1 hc).1
     have XQ:=acZ hlt;exact⟨_,by rw[cell_of_row w g _ vs e _ hh];exact XQ,(hcell _ _ _ XQ hc).2⟩) h
    exact⟨val,by simp[Instr.loadAt,Instr.sureAddr,hrun],hr⟩
   | _=>rw[bX]at h;cases h
 | iF g off f cs h1 h2 =>
  obtain⟨val,hrun,hr⟩:=sF (P:=P) (g:=g) (off:=off) (w:=w) (ro:=ro) (ι:=ι) (cs:=cs.map .d) (fun j c hc=>by
   rw[acS]at hc;cases he:cs[j]? with
   | none=>rw[he]at hc;cases hc
   | some e =>rw[he]at hc;cases hc;exact⟨_,(h1 j e he).2,.d _ _ (h2 j e he)⟩) h
  exact⟨val,by simp[Instr.loadAt,Instr.sureAddr,hrun],hr⟩
 | elt gh g id i off cap hi hgv hlt =>
  simp only at h;cases bX:look S.objs id with
  | none=>rw[bX]at h;cases h
  | some ob =>
   cases ob with
   | row t l =>
    rw[bX]at h;obtain⟨aX,xs,hi',hn,he,hsz,hown,hrow,fq⟩:=Ei id _ bX;rw[hi]at hi';cases hi';have hil:i<l.length:=by omega
    have hget:l[i]? = some (l.getD i (E.dflt t)):=by rw[List.getD,aae hil];rfl
    have aei:w.ownsRow 0 gh.e gh.sz gh.v gh.n xs:=by
     rcases hown with h | h
     ·exact h.1
     ·omega
    obtain⟨val,hrun,hr⟩:=sF (P:=P) (g:=g) (off:=i*gh.sz+off) (w:=w) (ro:=ro) (ι:=ι) (cs:=((E.cells t (l.getD i (E.dflt t))).drop off).map .d) (fun j c hc=>by
     rw[acS,adZ]at hc;cases he:(E.cells t (l.getD i (E.dflt t)))[off+j]? with
     | none=>rw[he]at hc;cases hc
     | some cc =>rw[he]at hc;cases hc;obtain⟨u,hu,hd⟩:=hrow i _ (off+j) cc hget he;refine⟨u,?_,.d _ _ hd⟩;have:=aei.cells (g:=g) (by rw[hgv];rfl) _ _ hu;rw[iR,adr]at this;rw[hsz,alh];exact this) h
    exact⟨val,by simp[Instr.loadAt,Instr.sureAddr,hrun],hr⟩
   | _=>rw[bX]at h;cases h
 | _=>cases h
theorem agx(c:Ctx E S asm a w ι ro){o:Oper}{T:TypeId}{x:Operand}(ho:o.op = .load T x){r:AV E}(h:KX S.objs T (aS S.tmps asm x)=some r) :
  bn E o a w ι ro S.next (.pure r):=by
 obtain⟨val,hrun,hr⟩:=Kk c.objs (c.get x) h;exact c.pure (by simp[execOp,ho,hrun]) hr
theorem ajo(c:Ctx E S asm a w ι ro){o:Oper}{T:TypeId}{x y:Operand}(ho:o.op = .store T x y){gh:Gh}{g id i off cap n:Nat}{t:E.Ty}{l:List (E.Den t)}{vy:Value}{ti:TypeInfo}{ds:List (bE E.Den)}{x':E.Den t}
  (dM:a.eval x = .pointer (some ⟨g,i*gh.sz+off,none⟩)) (rC:a.eval y=vy) (hi:ι id=some gh) (hgv:gh.v = .slice (some ⟨g,0,none⟩) gh.n cap) (hlt:i<gh.n) (bX:look S.objs id=some (.row t l))
  (hinfo:P.info? T=some ti) (hin:ti.size=n) (hlen:vy.cells.size=n) (hle:off+n<=E.size t) (hl:ds.length=n) (hds:∀(j:Nat) v x,vy.cells[j]? = some v->ds[j]? = some x->cu E w ro v x)
  (Xe:E.fold t ((E.cells t (l.getD i (E.dflt t))).take off++ds++(E.cells t (l.getD i (E.dflt t))).drop (off+n))=some x') :
  bn E o a w ι ro S.next ⟨true,.any,some (id,.row t (l.set i x')),none⟩:=by
 obtain⟨aX,xs,hi',hgn,he,hsz,hown,hrow,fq⟩:=c.objs id _ bX;rw[hi]at hi';cases hi';have hil:i<l.length:=by omega
 have hget:l[i]? = some (l.getD i (E.dflt t)):=by rw[List.getD,aae hil];rfl
 generalize hold:l.getD i (E.dflt t)=old at hget Xe;have hpos:=E.size_pos t;have aei:w.ownsRow 0 gh.e gh.sz gh.v gh.n xs/\gh.blk=gh.v.ownBlock:=by
  rcases hown with h | h
  ·exact h
  ·omega
 obtain⟨⟨hxl,apI⟩,hblk⟩:=aei;have hblk:gh.blk=some g:=by rw[hblk,hgv];rfl
 rcases apI with⟨h0,_⟩ | ⟨g',cap',cur,hv',hb,hh,hnc,hcm,hcs,htake⟩
 ·rw[hgv]at h0;cases h0
 ·rw[hgv]at hv';cases hv';have hmul:i*gh.sz+gh.sz<=gh.n*gh.sz:=by
   have:=ac6 gh.sz (show i+1<=gh.n by omega);rwa[alH]at this
  have apJ:gh.n*gh.sz<=cap*gh.sz:=ac6 _ hnc;have hcl:=E.fA t old;have hdone:=hds;have hone:∀v∈vy.cells.toList,v.oneCell'=true:=by
   intro v hv;obtain⟨j,hj⟩:=ahZ hv;have hj':vy.cells[j]? = some v:=by simpa using hj
   have hjl:j<ds.length:=by rw[hl,<- hlen];exact(Array.getElem?_eq_some_iff.1 hj').1
   exact(hds j v _ hj' (aae hjl)).one
  have hfit:i*gh.sz+off+vy.cells.toList.length<=cur.size:=by simp only[agS,hlen,hcs];omega
  have hrun:=run_storeCells_at P g (i*gh.sz+off) gh.e vy.cells.toList 0 cur w hh (by simpa using hfit) hone;simp only[ah7]at hrun;generalize hat:i*gh.sz+off=q at *;generalize hnew:(cur.toList.take q++vy.cells.toList++cur.toList.drop (q+vy.cells.toList.length))=new at hrun;have Xf:new.length=cur.size:=by rw[<- hnew];simp only[List.length_append,acV,acW,agS]at hfit ⊢;omega
  have pq:∀k o,ro k o->(w.setRow g new.toArray).cell? ⟨k,o,none⟩=w.cell? ⟨k,o,none⟩:=by intro k o hro;exact World.cell?_of_block (setRow_other w g k _ (fun e=>fq g hblk o (by rw[<- e];exact hro)))
  have hmono:∀(v:Value) (x:bE E.Den),cu E w ro v x->cu E (w.setRow g new.toArray) ro v x:=fun v x h=>h.mono (fun _ _ h=>h) pq
  refine .inr (.inl ⟨w.setRow g new.toArray,ι,ro,?_,?_⟩)
  ·have e1:vy.cells.size=ti.size:=by omega
   simp[execOp,ho,dM,rC,Instr.storeAt,Instr.sureAddr,storeVar,run_sizeOf hinfo,e1,hrun]
  ·exact {
    os:=rfl
    tape:=rfl
    output:=rfl
    size:=by simp[World.setRow]
    frame:=fun k hk hne=>setRow_other w g k _ (fun e=>hne id _ gh rfl hi (by rw[hblk,e]))
    cell:=pq
    mono:=fun _ _ h=>h
    aO:=fun k o h=>by have:=c.aO k o h;simp[World.setRow];exact this
    fresh:=fun _ _ h=>.inl h
    iG:=fun _ _=>rfl
    lK:=fun gh k h=>by rw[c.fresh]at h;cases h
    jK:=fun _=>rfl
    upd:=fun id' o' h=>by
     cases h;refine⟨gh,new.take (gh.n*gh.sz),hi,by rw[List.length_set];exact hgn,he,hsz,.inl ⟨⟨by rw[acV,Xf,hcs];exact Nat.min_eq_left apJ,.inr ⟨g,cap,new.toArray,hgv,ab8 _,setRow_heap w g cur _ _ _ hh,hnc,hcm,by simp[Xf,hcs],by simp⟩⟩,by rw[hblk,hgv];rfl⟩,?_,fun g' hg' o ho=>fq g' hg' o ho⟩;have anW:∀p,p<gh.n*gh.sz->(new.take (gh.n*gh.sz))[p]? = if q<=p/\p<q+n then vy.cells.toList[p-q]? else xs[p]? := by
      intro p hp;rw[ags hp,<- hnew];have e1:(cur.toList.take q).length=q:=by simp only[acV,agS];simp only[agS]at hfit;omega
      have hxp:xs[p]? = cur.toList[p]? := by rw[<- htake,ags hp]
      rcases ahx p q with hpq | hpq
      ·rw[if_neg (by omega),acN,acY (by omega),ags hpq,hxp]
      ·rcases ahx p (q+n)with hpn | hpn
       ·rw[if_pos ⟨hpq,hpn⟩,acN,acT (by omega),acY (by simp only[agS];omega),e1]
       ·rw[if_neg (by omega),acT (by simp only[List.length_append,agS];omega),adZ,hxp];congr 1;simp only[List.length_append,agS,e1];omega
     intro i' x j cc hx hc;have hj:j<E.size t:=by rw[<- E.fA t x];exact(List.getElem?_eq_some_iff.1 hc).1
     have as1:i'<l.length:=by have:=(List.getElem?_eq_some_iff.1 hx).1;simpa using this
     have hp:i'*E.size t+j<gh.n*gh.sz:=by rw[hsz,hgn];have:=ac6 (E.size t) (show i'+1<=l.length by omega);rw[alH]at this;omega
     rw[anW _ hp];by_cases hii:i'=i
     ·subst hii;rw[List.getElem?_set_self hil]at hx;cases hx;have hcs':=E.o8 t _ _ Xe;have hcell:∀c0,((E.cells t old).take off++ds++(E.cells t old).drop (off+n))[j]? = some c0->∃u,(if q<=i'*E.size t+j/\i'*E.size t+j<q+n then vy.cells.toList[i'*E.size t+j-q]? else xs[i'*E.size t+j]?)=some u/\cu E w ro u c0:=by
       intro c0 hc0;have e1:((E.cells t old).take off).length=off:=by simp only[acV];omega
       have hq:q=i'*E.size t+off:=by rw[<- hat,hsz]
       rcases ahx j off with hjo | hjo
       ·rw[if_neg (by omega)];rw[acN,acY (by omega),ags hjo]at hc0;exact hrow i' old j c0 hget hc0
       ·rcases ahx j (off+n)with hjn | hjn
        ·rw[if_pos (by omega)];rw[acN,acT (by omega),acY (by omega),e1]at hc0;have e2:i'*E.size t+j-q=j-off:=by omega
         rw[e2];have hlt2:j-off<vy.cells.size:=by omega
         have hv:=acZ hlt2;exact⟨vy.cells[j-off],by simp,hds _ _ _ hv hc0⟩
        ·rw[if_neg (by omega)];rw[acT (by simp only[List.length_append];omega),adZ]at hc0;refine hrow i' old j c0 hget ?_;rw[<- hc0];congr 1;simp only[List.length_append,e1];omega
      have hjl:j<((E.cells t old).take off++ds++(E.cells t old).drop (off+n)).length:=by rw[hcs'.len,E.fA];exact hj
      obtain⟨u,hu,hdr⟩:=hcell _ (aae hjl);exact⟨u,hu,hmono _ _ ((hcs'.at_ j _ cc (aae hjl) hc).rep hdr)⟩
     ·rw[List.getElem?_set_ne (fun e=>hii e.symm)]at hx;have hout:¬ (q<=i'*E.size t+j/\i'*E.size t+j<q+n):=by
       rw[<- hat,hsz];rcases ahx i' i with h | h
       ·have:=ac6 (E.size t) (show i'+1<=i by omega);rw[alH]at this;omega
       ·have:=ac6 (E.size t) (show i+1<=i' by omega);rw[alH]at this;omega
      rw[if_neg hout];obtain⟨u,hu,hdr⟩:=hrow i' x j cc hx hc;exact⟨u,hu,hmono _ _ hdr⟩
    new:=fun o h=>by cases h
    val:=.any _ }
theorem QY(c:Ctx E S asm a w ι ro){o:Oper}{T:TypeId}{x y:Operand}(ho:o.op = .store T x y){u:Nat×aH E}(h:zu S.objs T (aS S.tmps asm x) (aS S.tmps asm y)=some u) :
  bn E o a w ι ro S.next ⟨true,.any,some u,none⟩:=by
 unfold zu at h;have hx:=c.get x;generalize aS S.tmps asm x=X at h hx;generalize dM:a.eval x=vx at hx;cases hx with
 | ptr gh g id off hi hgv =>
  simp only at h;cases bX:look S.objs id with
  | none=>rw[bX]at h;cases h
  | some ob =>
   cases ob with
   | box cs =>
    rw[bX]at h;simp only at h;cases hvs:nK (aS S.tmps asm y)with
    | none=>rw[hvs]at h;cases h
    | some vs =>
     cases hn:sizeT P T with
     | none=>rw[hvs,hn]at h;cases h
     | some n =>
      rw[hvs,hn]at h;simp only at h;split at h
      ·rename_i hcond;obtain⟨hl,hle,hok⟩:=hcond;cases h;obtain⟨i,d,hinfo,hd,hin⟩:=qD hn;obtain⟨aX,g',row,e,hi',sU,hblk,hh,hsz,hcell,fq,hge⟩:=c.objs id _ bX;rw[hi]at hi';cases hi';rw[hgv]at sU;cases sU;obtain⟨h1,h2⟩:=nM (c.get y) hvs;generalize rC:a.eval y=vy at *;have hlen:vy.cells.toList.length=n:=by simp;omega
       have hlen':vy.cells.size=n:=by omega
       have hone:∀v∈vy.cells.toList,v.oneCell'=true:=by
        intro v hv;obtain⟨j,hj⟩:=ahZ hv;have hj':vy.cells[j]? = some v:=by simpa using hj
        have hjl:j<vs.length:=by rw[<- h1];exact(Array.getElem?_eq_some_iff.1 hj').1
        exact(h2 j v _ hj' (aae hjl)).1
       have hrun:=run_storeCells_at P g off e vy.cells.toList 0 row w hh (by rw[hlen];omega) hone;simp only[ah7]at hrun;generalize hnew:(row.toList.take off++vy.cells.toList++row.toList.drop (off+vy.cells.toList.length))=new at hrun;have Xf:new.length=row.size:=by rw[<- hnew];simp only[List.length_append,acV,acW,agS];omega
       have pq:∀k o,ro k o->(w.setRow g new.toArray).cell? ⟨k,o,none⟩=w.cell? ⟨k,o,none⟩:=by intro k o hro;exact World.cell?_of_block (setRow_other w g k _ (fun e=>by subst e;exact fq o hro))
       refine .inr (.inl ⟨w.setRow g new.toArray,ι,ro,?_,?_⟩)
       ·simp[execOp,ho,dM,rC,Instr.storeAt,Instr.sureAddr,storeVar,run_sizeOf hinfo,hlen',hin,hrun]
       ·exact {
         os:=rfl
         tape:=rfl
         output:=rfl
         size:=by simp[World.setRow]
         frame:=fun k hk hne=>setRow_other w g k _ (fun e=>hne id _ gh rfl hi (by rw[hblk,e]))
         cell:=pq
         mono:=fun _ _ h=>h
         aO:=fun k o h=>by have:=c.aO k o h;simp[World.setRow];exact this
         fresh:=fun _ _ h=>.inl h
         iG:=fun _ _=>rfl
         lK:=fun gh k h=>by rw[c.fresh]at h;cases h
         jK:=fun _=>rfl
         upd:=fun id' o' h=>by
          cases h;refine⟨gh,g,new.toArray,e,hi,hgv,hblk,setRow_heap w g row _ e _ hh,by simp[Xf,hsz,hl];omega,fun j v x hv hx=>?_,fq,hge⟩;have hv':new[j]? = some v:=by simpa using hv
          rw[<- hnew]at hv';have mono:=fun(v:Value) (x:AV E) (h:aJ E w ro ι v x)=>h.mono (w':=w.setRow g new.toArray) (fun _ _ h=>h) pq (fun _ _ h=>h)
          rcases ahx j off with hjo | hjo
          ·rw[acN,acY (by simp;omega),ags hjo]at hv';rw[acN,acY (by simp;omega),ags hjo]at hx;have:=hcell j v x (by simpa using hv') hx;exact⟨this.1,mono _ _ this.2⟩
          ·rcases ahx j (off+n)with hjn | hjn
           ·rw[acN,acT (by simp;omega),acY (by simp;omega)]at hv';rw[acN,acT (by simp;omega),acY (by simp;omega)]at hx;have e1:(row.toList.take off).length=off:=by simp;omega
            have e2:(cs.take off).length=off:=by simp;omega
            rw[e1]at hv';rw[e2]at hx;have:=h2 (j-off) v x (by simpa using hv') hx;exact⟨this.1,mono _ _ this.2⟩
           ·have e1:(row.toList.take off++vy.cells.toList).length=off+n:=by simp;omega
            have e2:(cs.take off++vs).length=off+n:=by simp;omega
            rw[acT (by omega),e1,adZ]at hv';rw[acT (by omega),e2,adZ]at hx;rw[hlen]at hv';have:=hcell _ v x (by simpa using hv') hx;exact⟨this.1,mono _ _ this.2⟩
         new:=fun o h=>by cases h
         val:=.any _ }
      ·cases h
   | _=>rw[bX]at h;cases h
 | elt gh g id i off cap hi hgv hlt =>
  simp only at h;cases bX:look S.objs id with
  | none=>rw[bX]at h;cases h
  | some ob =>
   cases ob with
   | row t l =>
    rw[bX]at h;simp only at h;cases hvs:nK (aS S.tmps asm y)with
    | none=>rw[hvs]at h;cases h
    | some vs =>
     cases hn:sizeT P T with
     | none=>rw[hvs,hn]at h;cases h
     | some n =>
      rw[hvs,hn]at h;simp only at h;cases hds:toDs vs with
      | none=>rw[hds]at h;cases h
      | some ds =>
      rw[hds]at h;simp only at h;split at h
      ·rename_i hcond;obtain⟨hl,hle⟩:=hcond;split at h
       ·rename_i x' Xe;cases h;obtain⟨ti,d,hinfo,hd,hin⟩:=qD hn;obtain⟨h1,h2⟩:=nM (c.get y) hvs;generalize rC:a.eval y=vy at *;have hdl:=toDs_len hds;have hlen:vy.cells.toList.length=n:=by simp;omega
        have hlen':vy.cells.size=n:=by omega
        exact ajo c ho dM rC hi hgv hlt bX hinfo hin hlen' hle hl (fun j v x hv hx=>by
         have hj:j<vs.length:=by rw[<- hdl];exact(List.getElem?_eq_some_iff.1 hx).1
         have XQ:=aae hj;exact toD_rep (h2 j v _ hv XQ).2 (toDs_at hds j _ x XQ hx)) Xe
       ·cases h
      ·cases h
   | _=>rw[bX]at h;cases h
 | _=>cases h
theorem bn.upd{o:Oper}{bU id:Nat}{ok:Bool}{v:AV E}{ob La:aH E}(h:bn E o a w ι ro bU ⟨ok,v,some (id,ob),none⟩)(hl:ob.live=true)(bX:∀w' ro' ι',fM E w' ro' ι' id ob->fM E w' ro' ι' id La):bn E o a w ι ro bU ⟨ok,v,some (id,La),none⟩:=by
 have conv:∀{w' ι' ro' val},dh E w w' ι ι' ro ro' bU ⟨ok,v,some (id,ob),none⟩ val->dh E w w' ι ι' ro ro' bU ⟨ok,v,some (id,La),none⟩ val:=fun hp=>{
  os:=hp.os
  tape:=hp.tape
  output:=hp.output
  size:=hp.size
  frame:=fun k hk hne=>hp.frame k hk (fun id' o gh hu hi=>by cases hu;exact hne id La gh rfl hi)
  cell:=hp.cell
  mono:=hp.mono
  aO:=hp.aO
  fresh:=fun k o h=>by
   rcases hp.fresh k o h with h | h | ⟨id',o',gh,hu,hi,hb⟩
   ·exact .inl h
   ·exact .inr (.inl h)
   grind
  iG:=hp.iG
  lK:=fun gh k hi hb=>by obtain⟨h1,h2⟩:=hp.lK gh k hi hb;grind
  jK:=hp.jK
  upd:=fun id' o hu=>by cases hu;exact bX _ _ _ (hp.upd id ob rfl)
  new:=fun o h=>by cases h
  val:=hp.val }
 rcases h with⟨val,w',ι',ro',hr,hp⟩ | ⟨w',ι',ro',hr,hp⟩ | ⟨f,args,hr,hc⟩
 ·exact .inl ⟨val,w',ι',ro',hr,conv hp⟩
 ·exact .inr (.inl ⟨w',ι',ro',hr,conv hp⟩)
 ·exact .inr (.inr ⟨f,args,hr,hc.mono fun e w' ⟨val,ι',ro',he,hp⟩=>⟨val,ι',ro',he,conv hp⟩⟩)
theorem Pw{t:E.Ty}(ha:E.agg t=false)(x:E.Den t):∃c,E.cells t x=[c]/\cell1 t x = .d c:=by
 have h1:(E.cells t x).length=1:=by rw[E.fA,E.one t ha]
 match hc:E.cells t x,h1 with
 | [c],_=>exact⟨c,rfl,by unfold cell1;rw[hc];rfl⟩
theorem zx(t:E.Ty)(l:List (E.Den t)):(kI t l).length=l.length:=by simp[kI]
theorem aej(c:Ctx E S asm a w ι ro){o:Oper}{T:TypeId}{x:Operand}(ho:o.op = .load T x){r:Bool×AV E}(h:SN S.objs T (aS S.tmps asm x)=some r)(hok:r.1=true):bn E o a w ι ro S.next (.test r.1 r.2):=by
 have hx:=c.get x;generalize aS S.tmps asm x=X at *;generalize dM:a.eval x=vx at hx;unfold SN at h;split at h
 ·rename_i id off;split at h
  ·rename_i t l fz bX;split at h
   ·rename_i q hq;cases h;have hok:Nat.blt off l.length=true:=hok;have hlt:off<l.length:=by simpa[Nat.blt_eq]using hok
    cases hx with
    | ptr gh g _ _ hi hgv =>
     obtain⟨_,aX,g',vs,e,hi',sU,_,hh,hsz,hcell,_⟩:=c.objs id _ bX;rw[hi]at hi';cases hi';rw[hgv]at sU;cases sU;rw[zx]at hsz;obtain⟨val,hrun,hr⟩:=sF (P:=P) (g:=g) (off:=off) (w:=w) (ro:=ro) (ι:=ι) (cs:=[cell1 t (l.getD off (E.dflt t))]) (fun j c hc=>by
      cases j with
      | succ j=>simp at hc
      | zero =>
       simp only[ak4,Option.some.injEq]at hc;subst hc;have hv:=acZ (show off<vs.size by omega);have hcc:(kI t l)[off]? = some (cell1 t (l.getD off (E.dflt t))):=by simp[kI,hlt,List.getD]
       exact⟨_,by rw[ah7,cell_of_row w g _ vs e _ hh];exact hv,(hcell off _ _ hv hcc).2⟩) hq
     show bn E o a w ι ro S.next (.test (Nat.blt off l.length) q);rw[hok];exact c.pure (by simp[execOp,ho,dM,Instr.loadAt,Instr.sureAddr,hrun]) hr
   ·cases h
  ·cases h
 ·cases h
theorem aa2(c:Ctx E S asm a w ι ro){o:Oper}{T:TypeId}{x y:Operand}(ho:o.op = .store T x y){ok:Bool}{u:Nat×aH E}(h:Ib S.objs T (aS S.tmps asm x) (aS S.tmps asm y)=some (ok,u))(hok:ok=true) :
  bn E o a w ι ro S.next ⟨ok,.any,some u,none⟩:=by
 unfold Ib at h;split at h
 ·rename_i id off hX;split at h
  ·rename_i t l bX;split at h
   ·rename_i cc hcs hsz;split at h
    ·rename_i d hd;split at h
     ·rename_i z hz;cases h;have hlt:off<l.length:=by simpa[Nat.blt_eq]using hok
      obtain⟨hagg,arP⟩:=c.objs id _ bX;have apK:fM E w ro ι id (.box (kI t l)):=by obtain⟨gh,g,vs,e,h1,h2,h3,h4,h5,h6,h7,h8⟩:=arP;exact⟨gh,g,vs,e,h1,h2,h3,h4,h5,h6,h7.1 rfl,h8⟩
      let S':aD E:=⟨S.n,S.tmps,(id,.box (kI t l))::S.objs,S.next⟩
      have c':Ctx E S' asm a w ι ro:=⟨c.tm,c.asm,c.aO,fun id' ob hl=>by
       simp only[S',aQ]at hl;split at hl
       ·rename_i hb;have:=ab5 hb;subst this;cases hl;exact apK
       ·exact c.objs id' ob hl,c.fresh⟩
      have hcell:Cz cc=true:=by unfold toD at hd;split at hd<;>first | rfl | cases hd
      have hst:zu S'.objs T (aS S'.tmps asm x) (aS S'.tmps asm y)=some (id,.box ((kI t l).take off++[cc]++(kI t l).drop (off+1))):=by show zu ((id,.box (kI t l))::S.objs) T (aS S.tmps asm x) (aS S.tmps asm y)=_;unfold zu;rw[hX,hcs,hsz];simp only[aQ,Nat.beq_refl,if_true];rw[if_pos ⟨rfl,by rw[zx];omega,by simp[zW,hcell]⟩]
      have hdone:=QY c' ho hst;rw[hok];refine bn.upd hdone rfl fun w' ro' ι' hb=>?_
      obtain⟨gh,g,vs,e,h1,h2,h3,h4,h5,h6,h7,h8⟩:=hb;have hl1:(kI t l).length=l.length:=zx t l;refine⟨hagg,gh,g,vs,e,h1,h2,h3,h4,?_,fun j v k hv hk=>?_,⟨fun _=>h7,fun hf=>by cases hf⟩,h8⟩
      ·rw[h5,zx];grind
      ·refine⟨?_,?_⟩<;>unfold kI at hk<;>rw[acS]at hk
       all_goals
        cases hj:(l.set off z)[j]? with
        | none=>rw[hj]at hk;cases hk
        | some y0 =>
         rw[hj]at hk;cases hk;by_cases hjo:j=off
         ·subst hjo;have e1:y0=z:=by simpa[hlt]using hj.symm
          subst e1;have hcc:((kI t l).take j++[cc]++(kI t l).drop (j+1))[j]? = some cc:=by rw[acN,acT (by simp;omega)];simp[show min j (kI t l).length=j by omega]
          obtain⟨g1,g2⟩:=h6 j v cc hv hcc;obtain⟨c0,q1,q2⟩:=Pw hagg y0;have hle:=E.o8 t [d] y0 hz;rw[q1]at hle;have hdr:=(hle.at_ 0 d c0 rfl rfl).rep (toD_rep g2 hd)
          first | exact g1 | (rw[q2];exact .d _ _ hdr)
         ·have hjl:j<l.length:=by have:=(List.getElem?_eq_some_iff.1 hj).1;simpa using this
          have e1:l[j]? = some y0:=by rw[List.getElem?_set_ne (by omega)]at hj;exact hj
          have hcc:((kI t l).take off++[cc]++(kI t l).drop (off+1))[j]? = some (cell1 t y0):=by
           have ha:(kI t l)[j]? = some (cell1 t y0):=by simp[kI,e1]
           rcases ahx j off with hlo | hge
           ·rw[acN,acY (by simp;omega),ags hlo];exact ha
           ·rw[acT (by simp;omega)];simp only[List.length_append,acV,aah,adZ];rw[show off+1+(j-(min off (kI t l).length+1))=j by omega];exact ha
          obtain⟨g1,g2⟩:=h6 j v _ hv hcc
          first | exact g1 | exact g2
     ·cases h
    ·cases h
   ·cases h
  ·cases h
 ·cases h
end
end
section
variable {P:Program} {E:Env P} {w:World} {ro:Nat->Nat->Prop} {ι:Nat->Option Gh} {S:aD E} {asm:List (Nat×Bool)} {a:Act}
theorem U2(c:Ctx E S asm a w ι ro){o:Oper}{x:Operand}(ho:o.op = .move x\/o.op = .assign x):bn E o a w ι ro S.next (.pure (aS S.tmps asm x)) :=
 c.pure (val:=a.eval x) (by rcases ho with ho | ho<;>simp[execOp,ho]) (c.get x)
theorem Px{j:Nat}{b:Bool}(hs:Nt a asm)(h:a.tmps[j]? = some (.bool b)):Nt a ((j,b)::asm):=by
 intro i b' hb;unfold rA at hb;simp only[alC,ach]at hb;rcases hb with⟨h1,h2⟩ | hb
 ·have e1:=ab5 h1;grind
 ·exact hs i b' hb
theorem agy(c:Ctx E S asm a w ι ro){o:Oper}{x y z:Operand}(ho:o.op = .pick x y z){r:AV E}(h:XL S.tmps asm x y z=some r):bn E o a w ι ro S.next (.pure r):=by
 unfold XL at h;cases x with
 | tmp j =>
  have hx:=c.get (.tmp j);cases hg:aS S.tmps asm (.tmp j)with
  | d cv =>
   cases cv with
   | bool b =>
    rw[hg]at h hx;have hb:=hx.lM;have hj:a.tmps[j]? = some (.bool b):=by
     have hb':a.tmps.getD j undef = .bool b:=hb;by_cases hlt:j<a.tmps.size
     ·simp[hlt]at hb' ⊢;exact hb'
     ·simp[hlt]at hb';cases hb'
    simp only at h;cases b with
    | true =>
     have hy:=wF (E:=E) c.tm (Px c.asm hj) y;cases XR:aS S.tmps ((j,true)::asm) y with
     | d cy =>
      cases cy with
      | bool by_ =>
       rw[XR]at h hy;cases hgz:aS S.tmps ((j,false)::asm) z with
       | d cz =>
        cases cz with
        | bool bz =>rw[hgz]at h;cases h;exact c.pure (val:=.bool by_) (by simp[execOp,ho,hb,asBool,hy.lM]) (.d _ _ (.bool _))
        | _=>rw[hgz]at h;cases h
       | _=>rw[hgz]at h;cases h
      | _=>rw[XR]at h;cases h
     | _=>rw[XR]at h;cases h
    | false =>
     have hz:=wF (E:=E) c.tm (Px c.asm hj) z;cases XR:aS S.tmps ((j,true)::asm) y with
     | d cy =>
      cases cy with
      | bool by_ =>
       rw[XR]at h;cases hgz:aS S.tmps ((j,false)::asm) z with
       | d cz =>
        cases cz with
        | bool bz =>rw[hgz]at h hz;cases h;exact c.pure (val:=.bool bz) (by simp[execOp,ho,hb,asBool,hz.lM]) (.d _ _ (.bool _))
        | _=>rw[hgz]at h;cases h
       | _=>rw[hgz]at h;cases h
      | _=>rw[XR]at h;cases h
     | _=>rw[XR]at h;cases h
   | _=>rw[hg]at h;cases h
  | _=>rw[hg]at h;cases h
 | _=>cases h
theorem agz(op:BinOp)(T:TypeId)(k:IntKind)(m n:Int){ok:Bool}{r:AV E}(h:ad3 op k m n=some (ok,r))(hok:ok=true) :
  ∃val,(binOp op T (.int k m) (.int k n)).run P w = .ok val w/\aJ E w ro ι val r:=by
 cases op<;>simp only[ad3]at h<;>first | (cases h;done) | skip
 all_goals
  simp only[Option.some.injEq,Prod.mk.injEq]at h;obtain⟨rfl,rfl⟩:=h
 all_goals first
  | (refine⟨_,?_,.d _ _ (.int _ _)⟩;simp[binOp,Op.intArith,Op.intBits,bits];done)
  | (refine⟨_,?_,.d _ _ (.bool _)⟩;simp[binOp,Op.intCmp];done)
  | skip
 all_goals
  have h0:¬ n=0:=by simpa using hok
  refine⟨_,?_,.d _ _ (.int _ _)⟩;simp[binOp,Op.intDiv,h0]
theorem agA(op:BinOp)(T:TypeId)(m n:alJ){ok:Bool}{r:AV E}(h:ad4 op m n=some (ok,r))(hok:ok=true) :
  ∃val,(binOp op T (.string ⟨m.toArray⟩) (.string ⟨n.toArray⟩)).run P w = .ok val w/\aJ E w ro ι val r:=by
 cases op<;>simp only[ad4]at h<;>first | (cases h;done) | skip
 all_goals
  simp only[Option.some.injEq,Prod.mk.injEq]at h;obtain⟨rfl,rfl⟩:=h
 all_goals first
  | exact⟨_,by simp[go_sem],.d _ _ (.bool _)⟩
  | skip
 have h0:m.length+n.length<=aN:=by simpa using hok
 unfold aN at h0;refine⟨_,?_,.d _ _ (.str _)⟩;have:=run_string_add_sum (P:=P) (w:=w) ⟨m.toArray⟩ ⟨n.toArray⟩ (by show m.toArray.size+n.toArray.size<=_;simp;omega);rw[ByteArray.mk_append_mk]at this;simp only[binOp];exact this
theorem run_equalIn_bool(q:Nat){T:TypeId}(hu:P.underlying T=some .bool)(m n:Bool):(Op.equalIn (q+1) T (.bool m) (.bool n)).run P w = .ok (m==n) w:=by simp[Op.equalIn,run_underlying hu]
theorem aek(T:TypeId)(hT:SX P T=true)(m n:Bool):(binOp .eql T (.bool m) (.bool n)).run P w = .ok (.bool (m==n)) w/\(binOp .neq T (.bool m) (.bool n)).run P w = .ok (.bool !(m==n)) w:=by
 unfold SX at hT;cases hu:P.underlying T with
 | none=>rw[hu]at hT;cases hT
 | some d =>
  rw[hu]at hT;cases d<;>first | (cases hT;done) | skip
  have h:=run_equalIn_bool (P:=P) (w:=w) 9999 hu m n;have e:Op.equal T (.bool m) (.bool n)=Op.equalIn (9999+1) T (.bool m) (.bool n):=rfl;constructor
  ·show(do pure (Value.bool (<- Op.equal T (.bool m) (.bool n))):Sem Value).run P w=_;rw[e];simp only[Sem.run_bind,h,Result.andThen_ok,Sem.run_pure]
  ·show(do pure (Value.bool (!(<- Op.equal T (.bool m) (.bool n)))):Sem Value).run P w=_;rw[e];simp only[Sem.run_bind,h,Result.andThen_ok,Sem.run_pure]
theorem cmp_eq(m n:Int):(some (compare m n)==some Ordering.eq)=(m==n):=by grind
theorem agB(op:BinOp)(T:TypeId)(x y:Nat)(m n:Int)(_:kH.qC x m)(_:kH.qC y n){ok:Bool}{r:AV E}(h:ad5 op m n=some (ok,r))(_:ok=true) :
  ∃val,(binOp op T (.float .f64 x) (.float .f64 y)).run P w = .ok val w/\aJ E w ro ι val r:=by
 unfold ad5 at h;cases h
theorem ajp(c:Ctx E S asm a w ι ro){o:Oper}{op:BinOp}{T T':TypeId}{x y:Operand}(ho:o.op = .binOp op T x y T'){r:Bool×AV E}(h:ad6 op T (aS S.tmps asm x) (aS S.tmps asm y)=some r)(hok:r.1=true) :
  bn E o a w ι ro S.next (.test r.1 r.2):=by
 obtain⟨ok,r⟩:=r;have hx:=c.get x;have hy:=c.get y;generalize dM:a.eval x=vx at hx;generalize rC:a.eval y=vy at hy;generalize aS S.tmps asm x=X at *;generalize aS S.tmps asm y=Y at *;unfold ad6 at h;split at h
 ·rename_i k m k' n;have e1:=hx.iX;have e2:=hy.iX;subst e1;subst e2;split at h
  ·rename_i q hq;cases h;unfold anR at hq;cases op<;>first | (cases hq;done) | skip
   all_goals
    cases hq;simp only[ach,acJ]at hok
    first
     | exact .pure c.aO c.fresh (val:=.int k (k.wrap (m*2 ^ n.toNat))) (by simp[execOp,ho,dM,rC,eqGuard,binOp_shl,shift_shl k k' m n hok.1 hok.2]) rfl rfl (.d _ _ (.int k _))
     | exact .pure c.aO c.fresh (val:=.int k (m / 2 ^ n.toNat)) (by simp[execOp,ho,dM,rC,eqGuard,binOp_shr,shift_shr k k' m n hok.1 hok.2]) rfl rfl (.d _ _ (.int k _))
  split at h
  ·rename_i hk;have hkk:k=k':=by simpa[sameKind]using hk
   subst hkk;obtain⟨val,hrun,hr⟩:=agz (P:=P) (E:=E) (w:=w) (ro:=ro) (ι:=ι) op T k m n h hok;exact .pure c.aO c.fresh (val:=val) (by cases op<;>simp[execOp,ho,dM,rC,eqGuard,hrun]) rfl rfl hr
  ·cases h
 ·rename_i m n;have e1:=hx.zw;have e2:=hy.zw;subst e1;subst e2;obtain⟨val,hrun,hr⟩:=agA (P:=P) (E:=E) (w:=w) (ro:=ro) (ι:=ι) op T m n h hok;exact .pure c.aO c.fresh (val:=val) (by cases op<;>simp[execOp,ho,dM,rC,eqGuard,hrun]) rfl rfl hr
 ·rename_i m n;obtain⟨x',e1,hx'⟩:=hx.wV;obtain⟨y',e2,hy'⟩:=hy.wV;subst e1;subst e2;obtain⟨val,hrun,hr⟩:=agB (P:=P) (E:=E) (w:=w) (ro:=ro) (ι:=ι) op T x' y' m n hx' hy' h hok;exact .pure c.aO c.fresh (val:=val) (by cases op<;>simp[execOp,ho,dM,rC,eqGuard,hrun]) rfl rfl hr
 ·rename_i m1 m2 n1 n2;obtain⟨x1,x2,e1,hx1,hx2⟩:=hx.Co;obtain⟨y1,y2,e2,hy1,hy2⟩:=hy.Co;subst e1;subst e2;have heq:∀(hk:(jd m1&&jd n1&&(jd m2&&jd n2))=true),(kH.qC x1 m1->kH.qC y1 n1->(FloatKind.f64.format.order x1 y1==some .eq)=(m1==n1))/\(kH.qC x2 m2->kH.qC y2 n2->(FloatKind.f64.format.order x2 y2==some .eq)=(m2==n2)):=by
   intro hk;simp only[ach,jd,acJ]at hk;obtain⟨⟨k1,k2⟩,k3,k4⟩:=hk;exact⟨fun p q=>by rw[kH.KT p q k1 k2];exact cmp_eq _ _,fun p q=>by rw[kH.KT p q k3 k4];exact cmp_eq _ _⟩
  cases op<;>first | (cases h;done) | skip
  rotate_left
  ·cases h;obtain⟨q1,q2⟩:=heq hok;refine .pure c.aO c.fresh (val:=.bool (m1==n1&&m2==n2)) ?_ rfl rfl (.d _ _ (.bool _));simp[execOp,ho,dM,rC,eqGuard,binOp,Op.complexOp,Op.Complex.cmp,asBool,Op.floatCmp,q1 hx1 hy1,q2 hx2 hy2]
  ·cases h;obtain⟨q1,q2⟩:=heq hok;refine .pure c.aO c.fresh (val:=.bool !(m1==n1&&m2==n2)) ?_ rfl rfl (.d _ _ (.bool _));simp[execOp,ho,dM,rC,eqGuard,binOp,Op.complexOp,Op.Complex.cmp,asBool,Op.floatCmp,q1 hx1 hy1,q2 hx2 hy2]
  cases h;simp only[ach,QL,acJ]at hok;obtain⟨⟨k1,k2⟩,k3,k4⟩:=hok;obtain⟨r1,hr1,hf1⟩:=kH.SL hx1 hy1 k1 k2;obtain⟨r2,hr2,hf2⟩:=kH.SL hx2 hy2 k3 k4;have hs:cSumBits .add .f64 x1 x2 y1 y2=some (r1,r2):=by simp[cSumBits,hr1,hr2]
  have hrun:=run_complex_sum (P:=P) (w:=w) .add (.inl rfl) T .f64 x1 x2 y1 y2 r1 r2 hs;exact .pure c.aO c.fresh (val:=.complex .f64 r1 r2) (by simp[execOp,ho,dM,rC,eqGuard,hrun]) rfl rfl (.d _ _ (.uX _ _ _ _ hf1 hf2))
 ·rename_i m n;have e1:=hx.lM;have e2:=hy.lM;subst e1;subst e2;split at h
  ·rename_i hT;obtain⟨h1,h2⟩:=aek (P:=P) (w:=w) T hT m n;cases op<;>first | (cases h;done) | skip
   ·cases h;exact .pure c.aO c.fresh (val:=.bool (m==n)) (by simp[execOp,ho,dM,rC,eqGuard,h1]) rfl rfl (.d _ _ (.bool _))
   ·cases h;exact .pure c.aO c.fresh (val:=.bool !(m==n)) (by simp only[execOp,ho,dM,rC,eqGuard];simp[h2]) rfl rfl (.d _ _ (.bool _))
  ·cases h
 ·cases h
theorem amE(c:Ctx E S asm a w ι ro){o:Oper}{op:UnOp}{T:TypeId}{x:Operand}(ho:o.op = .unOp op T x){r:Bool×AV E}(h:aji op (aS S.tmps asm x)=some r)(hok:r.1=true):bn E o a w ι ro S.next (.test r.1 r.2):=by
 have hx:=c.get x;generalize dM:a.eval x=vx at hx;generalize aS S.tmps asm x=X at *;unfold aji at h;split at h
 ·rename_i k n;have e1:=hx.iX;subst e1;cases h;exact .pure c.aO c.fresh (val:=.int k (k.wrap (0-n))) (by simp[execOp,ho,dM,Op.unary,Op.intArith]) rfl rfl (.d _ _ (.int _ _))
 ·rename_i k n;have e1:=hx.iX;subst e1;cases h;exact .pure c.aO c.fresh (val:=.int k (bits .xor k (if k.signed then -1 else k.max) n)) (by simp only[execOp,ho,dM,Op.unary,intBits_xor];rfl) rfl rfl (.d _ _ (.int _ _))
 ·rename_i n;obtain⟨b,e1,hb⟩:=hx.wV;subst e1;cases h;have hn:n.natAbs<9007199254740992:=of_decide_eq_true hok;exact .pure c.aO c.fresh (val:=.float .f64 (Op.negFloat .f64 b)) (by simp[execOp,ho,dM,Op.unary]) rfl rfl (.d _ _ (.flt _ _ (kH.abX hb hn)))
 ·rename_i b;have e1:=hx.lM;subst e1;cases h;exact .pure c.aO c.fresh (val:=.bool !b) (by simp[execOp,ho,dM,Op.unary]) rfl rfl (.d _ _ (.bool _))
 ·cases h
theorem QZ{T:TypeId}(h:QM P T=true):P.underlying T=some (.float .f64):=by
 unfold QM at h;split at h
 ·assumption
 ·cases h
theorem BR{T:TypeId}{k:IntKind}(h:Gb P T=some k):P.underlying T=some (.int k):=by unfold Gb at h;grind
theorem Py(off:Nat):∀(l:List Value) (k:Nat) (C:Array Value),
  ((l.zipIdx k).foldl (fun(cs:Array Value) p=>cs.setIfInBounds (off+p.2) p.1) C).size=C.size /\
  ∀q,((l.zipIdx k).foldl (fun(cs:Array Value) p=>cs.setIfInBounds (off+p.2) p.1) C)[q]? = if off+k<=q/\q<off+k+l.length/\q<C.size then l[q-off-k]? else C[q]?
 | [],k,C=>by refine⟨rfl,fun q=>?_⟩;simp;omega
 | x::r,k,C=>by obtain⟨h1,h2⟩:=Py off r (k+1) (C.setIfInBounds (off+k) x);simp only[List.zipIdx_cons,List.foldl_cons];grind
def Rel(E:Env P)(w:World)(ro:Nat->Nat->Prop)(ι:Nat->Option Gh)(vs:Array Value)(xs:List (AV E)):Prop :=
 vs.size=xs.length/\∀(j:Nat) v x,vs[j]? = some v->xs[j]? = some x->aJ E w ro ι v x
theorem Pz{place place':Nat->Option (Nat×Nat)}(hp:∀i x,place' i=some x->place i=some x):∀(ps:List (Nat×Value)) (qs:List (Nat×AV E)) (C:Array Value) (X Y:List (AV E)),
  ps.length=qs.length->(∀(i:Nat) p q,ps[i]? = some p->qs[i]? = some q->p.1=q.1/\aJ E w ro ι p.2 q.2)->Rel E w ro ι C X->QJ place' X qs=some Y ->
  ∃D,Instr.fill place C ps=some D/\Rel E w ro ι D Y
 | [],[],C,X,Y,_,_,hrel,h=>by cases h;exact⟨C,rfl,hrel⟩
 | p::ps,q::qs,C,X,Y,hl,hpq,hrel,h=>by
  obtain⟨i,v⟩:=p;obtain⟨i',x⟩:=q;obtain⟨h1,h2⟩:=hpq 0 _ _ rfl rfl;simp only at h1 h2;subst h1;unfold QJ at h;cases hpl:place' i with
  | none=>rw[hpl]at h;cases h
  | some os =>
   obtain⟨off,size⟩:=os;rw[hpl]at h;simp only at h;cases hc:nK x with
   | none=>rw[hc]at h;cases h
   | some vs =>
    rw[hc]at h;simp only at h;split at h
    ·rename_i hcond;obtain⟨hsz,hle⟩:=hcond;obtain⟨c1,c2⟩:=nM h2 hc;have hC:=hrel.1;obtain⟨f1,f2⟩:=Py off v.cells.toList 0 C;have hrel':Rel E w ro ι (v.cells.zipIdx.foldl (fun cs (c,j)=>cs.setIfInBounds (off+j) c) C) (X.take off++vs++X.drop (off+size)):=by
      have e:(v.cells.zipIdx.foldl (fun cs (c,j)=>cs.setIfInBounds (off+j) c) C)=((v.cells.toList.zipIdx 0).foldl (fun(cs:Array Value) p=>cs.setIfInBounds (off+p.2) p.1) C):=by rw[<- Array.foldl_toList,Array.toList_zipIdx]
      rw[e];refine⟨?_,fun j u y hu hy=>?_⟩
      ·rw[f1,hC];simp only[List.length_append,acV,acW];omega
      ·rw[f2 j]at hu;simp only[ah7,agS,alI]at hu;rcases ahx j off with hjo | hjo
       ·rw[if_neg (by omega)]at hu;rw[acN,acY (by simp;omega),ags hjo]at hy;exact hrel.2 j u y hu hy
       ·rcases ahx j (off+size)with hjn | hjn
        ·grind
        ·rw[if_neg (by omega)]at hu;have e2:(X.take off++vs).length=off+size:=by simp;omega
         rw[acT (by omega),e2,adZ,show off+size+(j-(off+size))=j from by omega]at hy;exact hrel.2 j u y hu hy
     obtain⟨D,hD,hr⟩:=Pz hp ps qs _ _ Y (by simpa using hl) (fun i p q hp hq=>hpq (i+1) p q (by simpa using hp) (by simpa using hq)) hrel' h;refine⟨D,?_,hr⟩;unfold Instr.fill;rw[hp i _ hpl];simp only;rw[if_neg (by simp;omega)];exact hD
    ·cases h
 | [],_::_,_,_,_,hl,_,_,_=>by simp at hl
 | _::_,[],_,_,_,hl,_,_,_=>by simp at hl
theorem U3(c:Ctx E S asm a w ι ro)(ps:Array (Nat×Operand)):∀(i:Nat) p q,(ps.map fun(i,x)=>(i,a.eval x)).toList[i]? = some p->(mG S.tmps asm ps)[i]? = some q->p.1=q.1/\aJ E w ro ι p.2 q.2:=by
 intro i p q hp hq;unfold mG at hq;rw[acS]at hq;rw[Array.toList_map,acS]at hp;cases hx:ps.toList[i]? with
 | none=>rw[hx]at hq;cases hq
 | some x =>rw[hx]at hp hq;cases hp;cases hq;exact⟨rfl,c.get x.2⟩
theorem XT(z:Value):Rel E w ro ι z.cells (z.cells.toList.map uY):=by
 refine⟨by simp,fun j v x hv hx=>?_⟩;rw[acS]at hx;have:z.cells.toList[j]? = some v:=by simpa using hv
 rw[this]at hx;cases hx;exact BQ v
theorem agC{T:TypeId}{ps:List (Nat×Value)}{qs:List (Nat×AV E)}{cs:List (AV E)}(hl:ps.length=qs.length)(hpq:∀(i:Nat) p q,ps[i]? = some p->qs[i]? = some q->p.1=q.1/\aJ E w ro ι p.2 q.2)
  (h:QK T qs=some cs):∃D,P.built T ps=some D/\Rel E w ro ι D cs:=by
 unfold QK at h;unfold Program.built;cases hit:P.info? T with
 | none=>rw[hit]at h;cases h
 | some it =>
  rw[hit]at h;cases hu:P.underlying T with
  | none=>rw[hu]at h;cases h
  | some d =>
   rw[hu]at h;cases d<;>try (cases h;done)
   case array n e =>
    simp only at h ⊢;cases hz:it.zero with
    | none=>rw[hz]at h;cases h
    | some z =>
     rw[hz]at h;cases hie:P.info? e with
     | none=>rw[hie]at h;cases h
     | some ie =>rw[hie]at h;exact Pz (fun _ _ h=>h) ps qs _ _ cs hl hpq (XT z) h
   case struct fields =>
    simp only at h ⊢;cases hz:it.zero with
    | none=>rw[hz]at h;cases h
    | some z =>
     rw[hz]at h;cases hp:fields.toList.mapM (fun f=>(P.info? f.type).map fun i=>(f.offset,i.size))with
     | none=>rw[hp]at h;cases h
     | some places =>rw[hp]at h;exact Pz (fun _ _ h=>h) ps qs _ _ cs hl hpq (XT z) h
theorem ael(c:Ctx E S asm a w ι ro){o:Oper}{T:TypeId}{ps:Array (Nat×Operand)}(ho:o.op = .build T ps){r:AV E}(h:SV T (mG S.tmps asm ps)=some r):bn E o a w ι ro S.next (.pure r):=by
 unfold SV at h;cases hb:QK T (mG S.tmps asm ps)with
 | none=>rw[hb]at h;cases h
 | some cs =>rw[hb]at h;cases h;obtain⟨D,hD,hrel⟩:=agC (by simp[mG]) (U3 c ps) hb;exact c.pure (val:=.agg D) (by simp only[execOp,ho,Sem.run_bind,run_build w T _ D hD,Result.andThen_ok,Sem.run_pure]) (K7 (.agg D cs hrel.1 hrel.2))
theorem aem(c:Ctx E S asm a w ι ro){o:Oper}{s:TypeId}{x:Operand}{f:Nat}(ho:o.op = .fieldAddr s x f){r:AV E}(h:SQ s (aS S.tmps asm x) f=some r):bn E o a w ι ro S.next (.pure r):=by
 have hx:=c.get x;generalize dM:a.eval x=vx at hx;generalize aS S.tmps asm x=X at *;unfold SQ at h;split at h
 ·rename_i fs hu;split at h
  ·rename_i fl hfl;split at h
   ·rename_i n hn;obtain⟨i,d,hinfo,hd,hin⟩:=qD hn;split at h
    ·rename_i id off;cases h;cases hx with
     | ptr gh g _ _ hi hgv =>exact c.pure (val:=.pointer (some ⟨g,off+fl.offset,none⟩)) (by simp[execOp,ho,dM,Instr.fieldAt,run_underlying hu,hfl,Instr.sureAddr,fieldPlace,run_sizeOf hinfo,hin,iR]) (.ptr gh g id _ hi hgv)
    ·rename_i cs;cases h;cases hx with
     | iF g off fv _ h1 h2 =>
      refine c.pure (val:=.pointer (some ⟨g,off+fl.offset,none⟩)) (by simp[execOp,ho,dM,Instr.fieldAt,run_underlying hu,hfl,Instr.sureAddr,fieldPlace,run_sizeOf hinfo,hin,iR])
       (.iF g (off+fl.offset) (fun j=>fv (fl.offset+j)) _ (fun j c hc=>?_) (fun j c hc=>?_))
      ·grind
      grind
    ·rename_i id i off;cases h;cases hx with
     | elt gh g _ _ _ cap hi hgv hlt =>exact c.pure (val:=.pointer (some ⟨g,i*gh.sz+off+fl.offset,none⟩)) (by simp[execOp,ho,dM,Instr.fieldAt,run_underlying hu,hfl,Instr.sureAddr,fieldPlace,run_sizeOf hinfo,hin,iR]) (by rw[alh];exact .elt gh g id i _ cap hi hgv hlt)
    ·cases h
   ·cases h
  ·cases h
 ·cases h
theorem wG{T:TypeId}{vs:Array Value}{cs:List (AV E)}{off:Nat}{r:AV E}(hrel:Rel E w ro ι vs cs)(h:takeA T (cs.drop off)=some r):∃val,(part T vs off).run P w = .ok val w/\aJ E w ro ι val r:=by
 unfold takeA at h;cases hsz:sizeT P T with
 | none=>rw[hsz]at h;cases h
 | some n =>
  obtain⟨i,d,hi,hd,hn⟩:=qD hsz;rw[hsz]at h;simp only at h;by_cases ha:Cx P T=true
  ·rw[if_pos ha]at h;split at h
   ·rename_i hle;cases h;have hlen:=hrel.1;simp only[acW]at hle;refine⟨.agg (vs.extract off (off+n)),?_,K7 (.agg _ _ (by simp;omega) (fun j v c hv hc=>?_))⟩
    ·unfold part;simp[Ef hd,ha,run_sizeOf hi,hn]
    ·have hj:j<n:=by have:=(List.getElem?_eq_some_iff.1 hc).1;simp at this;omega
     rw[ags hj,adZ]at hc;refine hrel.2 (off+j) v c ?_ hc;grind
   ·cases h
  ·rw[if_neg ha]at h;rw[adZ,ah7]at h;have hlt:off<vs.size:=by rw[hrel.1];exact(List.getElem?_eq_some_iff.1 h).1
   refine⟨vs[off],?_,hrel.2 off _ r (acZ hlt) h⟩;unfold part;simp[Ef hd,ha,hlt]
theorem aa3(c:Ctx E S asm a w ι ro){o:Oper}{s:TypeId}{x:Operand}{f:Nat}(ho:o.op = .field s x f){r:AV E}(h:Pm s (aS S.tmps asm x) f=some r):bn E o a w ι ro S.next (.pure r):=by
 have hx:=c.get x;generalize dM:a.eval x=vx at hx;generalize aS S.tmps asm x=X at *;unfold Pm at h;split at h
 ·rename_i fs hu;split at h
  ·rename_i fl hfl;split at h
   ·rename_i cs hcs;obtain⟨k1,k2⟩:=nM hx hcs;have hrel:Rel E w ro ι vx.cells cs:=⟨k1,fun j v x hv hx=>(k2 j v x hv hx).2⟩
    split at h
    ·cases hx with
     | st vs t y ha hrow =>obtain⟨val,hrun,hr⟩:=wG (P:=P) hrel h;exact c.pure (val:=val) (by simp only[Value.cells]at hrun;simp[execOp,ho,dM,Instr.field,run_underlying hu,hfl,asAgg,hrun]) hr
    ·cases hx with
     | agg vs cs' hs hi =>obtain⟨val,hrun,hr⟩:=wG (P:=P) hrel h;exact c.pure (val:=val) (by simp only[Value.cells]at hrun;simp[execOp,ho,dM,Instr.field,run_underlying hu,hfl,asAgg,hrun]) hr
    ·cases h
   ·cases h
  ·cases h
 ·cases h
theorem XU(c:Ctx E S asm a w ι ro){o:Oper}{x:Operand}{i:Nat}(ho:o.op = .extract x i){r:AV E}(h:KY (aS S.tmps asm x) i=some r):bn E o a w ι ro S.next (.pure r):=by
 have hx:=c.get x;generalize dM:a.eval x=vx at hx;generalize aS S.tmps asm x=X at *;unfold KY at h;split at h
 ·rename_i vs;cases hx with
  | ni us _ hs hi =>
   split at h
   ·cases h
   ·rename_i v hv hne;cases h;have hlt:i<us.size:=by rw[hs];exact(List.getElem?_eq_some_iff.1 hne).1
    exact c.pure (val:=us[i]) (by simp[execOp,ho,dM,Instr.extract,hlt]) (hi i _ _ (acZ hlt) hne)
   ·cases h
 ·cases h
theorem yg{v:Value}{x:AV E}{e:TypeId}{t:E.Ty}{l:List (E.Den t)}(h:aJ E w ro ι v x)(hs:Av e x=some ⟨t,l⟩):cu E w ro v (.slice t l):=by
 unfold Av at hs;split at hs
 ·cases hs;exact toD_rep h rfl
 ·cases hs;exact toD_rep h rfl
 ·have:=h.gD;subst this;split at hs
  ·cases hs;exact .nil _ _ _
  ·cases hs
 ·cases hs
theorem cu.nN{v:Value}{t:E.Ty}{l:List (E.Den t)}(h:cu E w ro v (.slice t l)):∃ad cap,v = .slice ad l.length cap/\(l=[]\/∃g off,ad=some ⟨g,off,none⟩/\l.length<=cap/\∃f:Nat->Nat->Value,
  (∀i x j c,l[i]? = some x->(E.cells t x)[j]? = some c->ro g (off+i*E.size t+j)/\w.cell? ⟨g,off+i*E.size t+j,none⟩=some (f i j)) /\
  (∀i x j c,l[i]? = some x->(E.cells t x)[j]? = some c->cu E w ro (f i j) c)):=by
 cases h with
 | nil t a cap=>exact⟨a,cap,rfl,.inl rfl⟩
 | slice t l g off cap f hl h1 h2=>exact⟨_,cap,rfl,.inr ⟨g,off,rfl,hl,f,h1,h2⟩⟩
theorem kL{T e:TypeId}(h:xZ P T=some e):P.underlying T=some (.slice e):=by unfold xZ at h;grind
theorem ug{T:TypeId}(h:CB P T=true):P.underlying T=some .string:=by unfold CB at h;grind
theorem pE(t:E.Ty):(sizeOf (E.tid t)).run P w = .ok (E.size t) w:=by obtain⟨i,z,hi,hs,_⟩:=E.tZ t;rw[run_sizeOf hi,hs]
theorem PD{α:Type}{l:List α}{i:Nat}(h:i<l.length)(d:α):l[i]? = some (l.getD i d):=by grind
theorem Tf(c:Ctx E S asm a w ι ro){o:Oper}{T:TypeId}{x i:Operand}(ho:o.op = .indexAddr T x i){r:Bool×AV E}(h:EW T (aS S.tmps asm x) (aS S.tmps asm i)=some r)(hok:r.1=true) :
  bn E o a w ι ro S.next (.test r.1 r.2):=by
 obtain⟨ok,r⟩:=r;have hx:=c.get x;have hi:=c.get i;generalize dM:a.eval x=vx at hx;generalize Aw:a.eval i=vi at hi;generalize aS S.tmps asm x=X at *;generalize aS S.tmps asm i=I at *;unfold EW at h;split at h
 ·rename_i e k n he;have e1:=hi.iX;subst e1;split at h
  ·rename_i t len id;split at h
   ·rename_i ht;have ht:=ab5 ht;subst ht;cases h;simp only[ach,acJ]at hok;obtain⟨h0,h1⟩:=hok;have hu:=kL he;cases hx with
    | row gh _ _ ad cap hi hge hgs hgv had =>
     have hlt:n.toNat<gh.n:=by omega
     obtain⟨g,rfl⟩:=had (by omega);refine .pure c.aO c.fresh (val:=.pointer (some ⟨g,n.toNat*gh.sz+0,none⟩)) ?_ rfl rfl (.elt gh g id n.toNat 0 cap hi hgv hlt);simp[execOp,ho,dM,Aw,hgv,Instr.indexAt,asIntOf,run_underlying hu,h0,h1,pE,iR,hgs]
   ·cases h
  ·split at h
   ·rename_i t l hsl;split at h
    ·rename_i ht;have ht:=ab5 ht;subst ht;cases h;simp only[ach,acJ]at hok;obtain⟨h0,h1⟩:=hok;have hu:=kL he;obtain⟨ad,cap,rfl,hd⟩:=(yg hx hsl).nN;rcases hd with rfl | ⟨g,off,rfl,hcap,f,f1,f2⟩
     ·simp at h1;omega
     ·have hlt:n.toNat<l.length:=by omega
      have hg:=PD hlt (E.dflt t);refine .pure c.aO c.fresh (val:=.pointer (some ⟨g,off+n.toNat*E.size t,none⟩)) ?_ rfl rfl
       (.iF g _ (f n.toNat) _ (fun j c hc=>f1 _ _ j c hg hc) (fun j c hc=>f2 _ _ j c hg hc))
      simp[execOp,ho,dM,Aw,Instr.indexAt,asIntOf,run_underlying hu,h0,h1,pE,iR]
    ·cases h
   ·cases h
 ·cases h
theorem PE{T:TypeId}{n:Nat}{e:TypeId}(h:XJ P T=some (n,e)):P.underlying T=some (.array n e):=by unfold XJ at h;grind
theorem Wx(c:Ctx E S asm a w ι ro){o:Oper}{T:TypeId}{x i:Operand}(ho:o.op = .indexAddr T x i){r:Bool×AV E}(h:Ic T (aS S.tmps asm x) (aS S.tmps asm i)=some r)(hok:r.1=true) :
  bn E o a w ι ro S.next (.test r.1 r.2):=by
 obtain⟨ok,r⟩:=r;have hx:=c.get x;have hi:=c.get i;generalize dM:a.eval x=vx at hx;generalize Aw:a.eval i=vi at hi;generalize aS S.tmps asm x=X at *;generalize aS S.tmps asm i=I at *;unfold Ic at h;split at h
 ·rename_i len e k n hT;have e1:=hi.iX;subst e1;split at h
  ·rename_i id off;split at h
   ·rename_i size hs;split at h
    ·rename_i h2;cases h;simp only[ach,acJ]at hok;obtain⟨h0,h1⟩:=hok;obtain⟨ti,d,hinfo,hd,hin⟩:=qD hs;have hu:=PE hT;have hl:¬ len<=1:=by have:=Nat.le_of_ble_eq_true h2;omega
     cases hx with
     | ptr gh g _ _ hgi hgv =>exact .pure c.aO c.fresh (val:=.pointer (some ⟨g,off+n.toNat*size,none⟩)) (by simp[execOp,ho,dM,Aw,Instr.indexAt,asIntOf,run_underlying hu,Instr.sureAddr,h0,h1,run_sizeOf hinfo,hin,iR]) rfl rfl (.ptr gh g id _ hgi hgv)
    ·cases h
   ·cases h
  ·cases h
 ·cases h
theorem Wy(_:Ctx E S asm a w ι ro){o:Oper}{T:TypeId}{x i:Operand}(_:o.op = .indexAddr T x i){r:Bool×AV E}(h:Ie T (aS S.tmps asm x) (aS S.tmps asm i)=some r)(_:r.1=true) :
  bn E o a w ι ro S.next (.test r.1 r.2):=by
 unfold Ie at h;cases h
theorem aen(c:Ctx E S asm a w ι ro){o:Oper}{T:TypeId}{x i:Operand}(ho:o.op = .index T x i){r:Bool×AV E}(h:SY T (aS S.tmps asm x) (aS S.tmps asm i)=some r)(hok:r.1=true) :
  bn E o a w ι ro S.next (.test r.1 r.2):=by
 obtain⟨ok,r⟩:=r;have hx:=c.get x;have hi:=c.get i;generalize dM:a.eval x=vx at hx;generalize Aw:a.eval i=vi at hi;generalize aS S.tmps asm x=X at *;generalize aS S.tmps asm i=I at *;unfold SY at h;split at h
 ·rename_i hT;split at h
  ·rename_i s k n;have e1:=hi.iX;have e2:=hx.zw;subst e1;subst e2;cases h;simp only[ach,acJ]at hok;obtain⟨h0,h1⟩:=hok;have hlt:n.toNat<s.length:=by omega
   have hg:=PD hlt 0;refine .pure c.aO c.fresh (val:=.int .u8 (s.getD n.toNat 0).toNat) ?_ rfl rfl (.d _ _ (.int _ _));have hb:(⟨s.toArray⟩:ByteArray)[n.toNat]? = some (s.getD n.toNat 0):=by
    have hlt':n.toNat<(ByteArray.mk s.toArray).size:=by show n.toNat<s.toArray.size;simpa using hlt
    have e3:(ByteArray.mk s.toArray)[n.toNat]? = some ((ByteArray.mk s.toArray)[n.toNat]'hlt'):=by rw[getElem?_pos]
    rw[e3];have e4:(ByteArray.mk s.toArray)[n.toNat]'hlt'=s[n.toNat]:=rfl;grind
   simp only[execOp,ho,dM,Aw,Instr.index,asIntOf];simp only[Sem.run_bind,Sem.run_pure,Result.andThen_ok,run_underlying (ug hT),if_pos h0,hb]
  ·cases h
 ·cases h
theorem XV{e:TypeId}{t:E.Ty}{sz:Nat}:∀{n:Nat} {cs:List (AV E)} {xs:List (E.Den t)},Nf e t sz n cs=some xs->xs.length=n/\∀(k:Nat) y,xs[k]? = some y->∃v,takeA e (cs.drop (k*sz))=some v/\ng t v=some y
 | 0,cs,xs,h=>by cases h;exact⟨rfl,fun k y hy=>by simp at hy⟩
 | n+1,cs,xs,h=>by
  unfold Nf at h;split at h
  ·rename_i v hv;split at h
   ·rename_i x hx;split at h
    ·rename_i ys hys;cases h;obtain⟨h1,h2⟩:=XV hys;refine⟨by simp[h1],fun k y hy=>?_⟩;cases k with
     | zero =>grind
     | succ k =>obtain⟨u,hu,hf⟩:=h2 k y (by simpa using hy);refine⟨u,?_,hf⟩;rw[alv]at hu;grind
    ·cases h
   ·cases h
  ·cases h
theorem aa4(c:Ctx E S asm a w ι ro){o:Oper}{T:TypeId}{x i:Operand}(ho:o.op = .index T x i){r:Bool×AV E}(h:Pn T (aS S.tmps asm x) (aS S.tmps asm i)=some r)(hok:r.1=true) :
  bn E o a w ι ro S.next (.test r.1 r.2):=by
 obtain⟨ok,r⟩:=r;have hx:=c.get x;have hi:=c.get i;generalize dM:a.eval x=vx at hx;generalize Aw:a.eval i=vi at hi;generalize aS S.tmps asm x=X at *;generalize aS S.tmps asm i=I at *;unfold Pn at h;split at h
 ·rename_i len e k n hT;have e1:=hi.iX;subst e1;have hu:=PE hT;split at h
  ·rename_i t sz cs ht hs hcs;obtain⟨ti,d,hinfo,hd,hin⟩:=qD hs;obtain⟨k1,k2⟩:=nM hx hcs;have hrel:Rel E w ro ι vx.cells cs:=⟨k1,fun j v x hv hx=>(k2 j v x hv hx).2⟩
   have main:∀xs:List (E.Den t),(∃us,vx = .agg us)->Nf e t sz len cs=some xs->(decide (0<=n)&&decide (n<len))=true ->
     bn E o a w ι ro S.next (.test (decide (0<=n)&&decide (n<len)) (eD t (xs.getD n.toNat (E.dflt t)))):=by
    rintro xs ⟨us,rfl⟩ he hok;simp only[ach,acJ]at hok;obtain⟨h0,h1⟩:=hok;obtain⟨hl,hat⟩:=XV he;have hlt:n.toNat<xs.length:=by omega
    obtain⟨v,hv,hf⟩:=hat n.toNat _ (PD hlt (E.dflt t));obtain⟨val,hrun,hr⟩:=wG (P:=P) hrel hv;simp only[Value.cells]at hrun;exact .pure c.aO c.fresh (val:=val) (by simp[execOp,ho,dM,Aw,Instr.index,asIntOf,run_underlying hu,h0,h1,run_sizeOf hinfo,hin,hrun]) rfl rfl (j3 (kK hr hf))
   split at h
   ·split at h
    ·rename_i xs he;cases h;cases hx with
     | st vs t y ha hrow=>exact main xs ⟨_,rfl⟩ he hok
    ·cases h
   ·split at h
    ·rename_i xs he;cases h;cases hx with
     | agg vs cs' hs hi=>exact main xs ⟨_,rfl⟩ he hok
    ·cases h
   ·cases h
  ·cases h
 ·cases h
theorem EX{x y:Nat}{a b:Int}(hx:kH.qC x a)(hy:kH.qC y b)(ha:jd a=true)(hb:jd b=true):Op.floatEq .f64 x y=(a==b):=by simp only[jd,acJ]at ha hb;unfold Op.floatEq;rw[kH.KT hx hy ha hb];exact cmp_eq a b
theorem agD{T:TypeId}{x y:AV E}{o b:Bool}(h:eqS T x y=some (o,b))(ho:o=true){vx vy:Value}(hx:aJ E w ro ι vx x)(hy:aJ E w ro ι vy y)(d:Nat):(Op.equalIn (d+1) T vx vy).run P w = .ok b w:=by
 unfold eqS at h;split at h
 ·rename_i hu;split at h
  ·cases h;rw[hx.lM,hy.lM];simp[Op.equalIn,run_underlying hu]
  ·cases h
 ·rename_i k hu;split at h
  ·rename_i k1 a k2 b';split at h
   ·rename_i hk;have hkk:k1=k2:=by simpa[sameKind]using hk
    subst hkk;cases h;rw[hx.iX,hy.iX];simp[Op.equalIn,run_underlying hu]
   ·cases h
  ·cases h
 ·rename_i hu;split at h
  ·rename_i a b';cases h;rw[hx.zw,hy.zw,run_equalIn_string w d T _ _ hu];simp[ByteArray.toList_eq]
  ·cases h
 ·rename_i k hu;split at h
  ·rename_i a b';cases h;simp only[ach]at ho;obtain⟨x',e1,hx'⟩:=hx.wV;obtain⟨y',e2,hy'⟩:=hy.wV;rw[e1,e2];simp[Op.equalIn,run_underlying hu,EX hx' hy' ho.1 ho.2]
  ·cases h
 ·rename_i k hu;split at h
  ·rename_i a1 a2 b1 b2;cases h;simp only[ach]at ho;obtain⟨x1,x2,e1,hx1,hx2⟩:=hx.Co;obtain⟨y1,y2,e2,hy1,hy2⟩:=hy.Co;rw[e1,e2];simp[Op.equalIn,run_underlying hu,EX hx1 hy1 ho.1.1 ho.1.2,EX hx2 hy2 ho.2.1 ho.2.2]
  ·cases h
 ·cases h
def aeo(E:Env P)(w:World)(ro:Nat->Nat->Prop)(ι:Nat->Option Gh)(rec:TypeId->AV E->AV E->Option (Bool×Bool))(D:Nat):Prop :=
 ∀T x y o b,rec T x y=some (o,b)->o=true->∀vx vy,aJ E w ro ι vx x->aJ E w ro ι vy y->(Op.equalIn D T vx vy).run P w = .ok b w
theorem Il{rec:TypeId->AV E->AV E->Option (Bool×Bool)}{D:Nat}(hrec:aeo E w ro ι rec D){vs us:Array Value}{xs ys:List (AV E)}(hv:Rel E w ro ι vs xs)(hu:Rel E w ro ι us ys) :
  ∀(fs:List Field) (o b:Bool),XK rec fs xs ys=some (o,b)->o=true->(Op.eqFields D vs us fs).run P w = .ok b w
 | [],o,b,h,_=>by cases h;simp[Op.eqFields]
 | f::r,o,b,h,ho=>by
  unfold XK at h;split at h
  ·rename_i hn;have ih:=Il hrec hv hu r o b h ho;simpa[Op.eqFields,hn]using ih
  ·rename_i hn;split at h
   ·rename_i a1 a2 h1 h2;split at h
    ·rename_i o1 b1 o2 b2 h3 h4;cases h;simp only[ach]at ho;obtain⟨v1,r1,p1⟩:=wG (P:=P) hv h1;obtain⟨v2,r2,p2⟩:=wG (P:=P) hu h2;have h5:=hrec f.type a1 a2 o1 b1 h3 ho.1 v1 v2 p1 p2;have ih:=Il hrec hv hu r o2 b2 h4 ho.2;simp only[Op.eqFields];rw[if_pos hn];simp only[Sem.run_bind,r1,r2,h5,Result.andThen_ok];cases b1
     ·simp
     ·simpa using ih
    ·cases h
   ·cases h
theorem Q5{rec:TypeId->AV E->AV E->Option (Bool×Bool)}{D:Nat}(hrec:aeo E w ro ι rec D){vs us:Array Value}{xs ys:List (AV E)}(hv:Rel E w ro ι vs xs)(hu:Rel E w ro ι us ys){e:TypeId}{sz:Nat} :
  ∀(n j:Nat) (o b:Bool),ad8 rec e sz n (xs.drop (j*sz)) (ys.drop (j*sz))=some (o,b)->o=true->(Op.eqItems D e sz vs us (List.range' j n)).run P w = .ok b w
 | 0,j,o,b,h,_=>by cases h;simp[Op.eqItems]
 | n+1,j,o,b,h,ho=>by
  unfold ad8 at h;split at h
  ·rename_i a1 a2 h1 h2;split at h
   ·rename_i o1 b1 o2 b2 h3 h4;cases h;simp only[ach]at ho;obtain⟨v1,r1,p1⟩:=wG (P:=P) hv h1;obtain⟨v2,r2,p2⟩:=wG (P:=P) hu h2;have h5:=hrec e a1 a2 o1 b1 h3 ho.1 v1 v2 p1 p2;rw[alv,alv,show j*sz+sz=(j+1)*sz from by rw[alH]]at h4;have ih:=Q5 hrec hv hu n (j+1) o2 b2 h4 ho.2;rw[List.range'_succ];simp only[Op.eqItems,Sem.run_bind,r1,r2,h5,Result.andThen_ok];cases b1
    ·simp
    ·simpa using ih
   ·cases h
  ·cases h
theorem zy{x:AV E}{v:Value}{xs:List (AV E)}(h:Po x=some xs)(hv:aJ E w ro ι v x):∃vs,v = .agg vs/\Rel E w ro ι vs xs:=by
 cases hv with
 | st vs t y ha hrow =>obtain⟨k1,k2⟩:=nM (.st vs t y ha hrow) h;exact⟨vs,rfl,k1,fun j v x hv hx=>(k2 j v x hv hx).2⟩
 | agg vs cs hs hi =>obtain⟨k1,k2⟩:=nM (.agg vs cs hs hi) h;exact⟨vs,rfl,k1,fun j v x hv hx=>(k2 j v x hv hx).2⟩
 | _=>cases h
theorem BS:∀(d k:Nat),aeo E w ro ι (S9 d) (d+k)
 | 0,_,T,x,y,o,b,h,_,_,_,_,_=>by cases h
 | d+1,k,T,x,y,o,b,h,ho,vx,vy,hx,hy=>by
  have e:d+1+k=d+k+1:=by omega
  rw[e];unfold S9 at h;split at h
  ·rename_i fs hu;split at h
   ·rename_i xs ys hp h1 h2;obtain⟨vs,rfl,hv⟩:=zy h1 hx;obtain⟨us,rfl,hw⟩:=zy h2 hy;have hf:P.fieldsOf T=fs:=by simp[Program.fieldsOf,hu]
    rw[run_equalIn_struct w (d+k) T vs us (by rw[hf];exact hu) hp,hf];exact Il (BS d k) hv hw _ _ _ h ho
   ·cases h
  ·rename_i n e' hu;split at h
   ·rename_i sz xs ys hs h1 h2;obtain⟨vs,rfl,hv⟩:=zy h1 hx;obtain⟨us,rfl,hw⟩:=zy h2 hy;obtain⟨i,dd,hi,hd,hn⟩:=qD hs;have hc:P.cellsOf e'=sz:=by simp[Program.cellsOf,hi,hn]
    rw[run_equalIn_array w (d+k) vs us hu hi,hc,List.range_eq_range'];refine Q5 (BS d k) hv hw n 0 o b ?_ ho;simpa using h
   ·cases h
  ·exact agD h ho hx hy _
theorem aep(c:Ctx E S asm a w ι ro){o:Oper}{op:BinOp}{T T':TypeId}{x y:Operand}(ho:o.op = .binOp op T x y T'){r:Bool×AV E}(h:Ta op T (aS S.tmps asm x) (aS S.tmps asm y)=some r)(hok:r.1=true) :
  bn E o a w ι ro S.next (.test r.1 r.2):=by
 obtain⟨ok,r⟩:=r;have hx:=c.get x;have hy:=c.get y;generalize dM:a.eval x=vx at hx;generalize rC:a.eval y=vy at hy;generalize aS S.tmps asm x=X at *;generalize aS S.tmps asm y=Y at *;unfold Ta at h;split at h
 ·rename_i xs ys hm h1 h2;obtain⟨vs,rfl,_⟩:=zy h1 hx;obtain⟨us,rfl,_⟩:=zy h2 hy;split at h
  ·split at h
   ·rename_i o' b hb;cases h;have hr:=BS (P:=P) 8 9992 T X Y _ b hb hok _ _ hx hy;have hr':(Op.equal T (.agg vs) (.agg us)).run P w = .ok b w:=hr;refine .pure c.aO c.fresh (val:=.bool b) ?_ rfl rfl (.d _ _ (.bool _));simp[execOp,ho,dM,rC,eqGuard,run_program,hm,binOp,hr']
   ·cases h
  ·split at h
   ·rename_i o' b hb;cases h;have hr:=BS (P:=P) 8 9992 T X Y _ b hb hok _ _ hx hy;have hr':(Op.equal T (.agg vs) (.agg us)).run P w = .ok b w:=hr;refine .pure c.aO c.fresh (val:=.bool !b) ?_ rfl rfl (.d _ _ (.bool _));simp[execOp,ho,dM,rC,eqGuard,run_program,hm,binOp,hr']
   ·cases h
  ·cases h
 ·cases h
theorem ajq(c:Ctx E S asm a w ι ro){o:Oper}{T:TypeId}{x:Operand}{cs:Array TypeId}(ho:o.op = .call { callee:=.builtin .len,args:=#[x],argTypes:=cs })(hcs:cs.toList=[T]){r:AV E}(h:ad7 T (aS S.tmps asm x)=some r) :
  bn E o a w ι ro S.next (.pure r):=by
 have hx:=c.get x;generalize dM:a.eval x=vx at hx;generalize aS S.tmps asm x=X at *;obtain rfl:cs = #[T]:=by cases cs;simp at hcs;simp[hcs]
 unfold ad7 at h;split at h
 ·rename_i hT;split at h
  ·rename_i s;have e2:=hx.zw;subst e2;cases h;refine c.pure (val:=.int .i64 s.length) ?_ (.d _ _ (.int _ _));have hsz:(⟨s.toArray⟩:ByteArray).size=s.length:=by show s.toArray.size=_;simp
   simp[execOp,ho,dM,resolve,invoke,builtin,Builtin.len_,run_underlying (ug hT),goInt,hsz]
  ·cases h
 ·split at h
  ·rename_i e he;split at h
   ·rename_i t n id;cases h;have hu:=kL he;cases hx with
    | row gh _ _ ad cap hi hge hgs hgv had =>exact c.pure (val:=.int .i64 gh.n) (by simp[execOp,ho,dM,hgv,resolve,invoke,builtin,Builtin.len_,run_underlying hu,goInt]) (.d _ _ (.int _ _))
   ·rename_i n id;cases h;have hu:=kL he;cases hx with
    | Cv gh g _ _ cap hi hgv =>exact c.pure (val:=.int .i64 n) (by simp[execOp,ho,dM,resolve,invoke,builtin,Builtin.len_,run_underlying hu,goInt]) (.d _ _ (.int _ _))
   ·split at h
    ·rename_i t l hsl;cases h;have hu:=kL he;obtain⟨ad,cap,rfl,hd⟩:=(yg hx hsl).nN;exact c.pure (val:=.int .i64 l.length) (by simp[execOp,ho,dM,resolve,invoke,builtin,Builtin.len_,run_underlying hu,goInt]) (.d _ _ (.int _ _))
    ·cases h
  ·cases h
theorem wW(c:Ctx E S asm a w ι ro)(x:Option Operand){len:Nat}{m:Int} :
  (loA (kJ S.tmps asm x)=some m->(x.map a.eval=none/\m=0)\/∃k,x.map a.eval=some (.int k m)) /\
  (hiA len (kJ S.tmps asm x)=some m->(x.map a.eval=none/\m=len)\/∃k,x.map a.eval=some (.int k m)):=by
 cases x with
 | none=>exact⟨fun h=>by cases h;exact .inl ⟨rfl,rfl⟩,fun h=>by cases h;exact .inl ⟨rfl,rfl⟩⟩
 | some x =>
  have hx:=c.get x;refine⟨fun h=>?_,fun h=>?_⟩
  ·simp only[kJ,loA]at h;split at h
   ·rename_i hq;cases hq
   ·rename_i k q hq;cases h;cases hq2:aS S.tmps asm x with
    | d cv =>rw[hq2]at hq hx;cases hq;exact .inr ⟨k,by simp[hx.iX]⟩
    | _=>rw[hq2]at hq;cases hq
   ·cases h
  ·simp only[kJ,hiA]at h;split at h
   ·rename_i hq;cases hq
   ·rename_i k q hq;cases h;cases hq2:aS S.tmps asm x with
    | d cv =>rw[hq2]at hq hx;cases hq;exact .inr ⟨k,by simp[hx.iX]⟩
    | _=>rw[hq2]at hq;cases hq
   ·cases h
theorem Im(isSlice:Bool)(len cap:Nat)(low high:Option Value)(l h:Int)(hl:(low=none/\l=0)\/∃k,low=some (.int k l))(hh:(high=none/\h=len)\/∃k,high=some (.int k h))
  (h0:0<=l) (h1:l<=h) (h2:h<=len) (hcap:len<=cap):(Instr.sliceBounds isSlice len cap low high none).run P w = .ok (l.toNat,h.toNat,cap) w:=by
 have e1:(h.toNat:Int)=h:=Int.toNat_of_nonneg (by omega);rcases hl with⟨rfl,rfl⟩ | ⟨k1,rfl⟩<;>rcases hh with⟨rfl,rfl⟩ | ⟨k2,rfl⟩
 ·simp[Instr.sliceBounds]
 ·have hc:0<=h/\h<=(cap:Int):=⟨by omega,by omega⟩
  simp[Instr.sliceBounds,Instr.sliceBound,asIntOf,hc.1,hc.2]
 ·simp[Instr.sliceBounds,Instr.sliceBound,asIntOf,h0,h1]
 ·have hc:0<=h/\h<=(cap:Int):=⟨by omega,by omega⟩
  simp[Instr.sliceBounds,Instr.sliceBound,asIntOf,hc.1,hc.2,h0,e1,h1]
theorem aer(c:Ctx E S asm a w ι ro){o:Oper}{T:TypeId}{x:Operand}{lo hi mx:Option Operand}(ho:o.op = .slice T x lo hi mx){r:Bool×AV E}
  (h:Tc T (aS S.tmps asm x) (kJ S.tmps asm lo) (kJ S.tmps asm hi) (kJ S.tmps asm mx)=some r) (hok:r.1=true):bn E o a w ι ro S.next (.test r.1 r.2):=by
 obtain⟨ok,r⟩:=r;have hx:=c.get x;generalize dM:a.eval x=vx at hx;generalize aS S.tmps asm x=X at *;unfold Tc at h;cases mx with
 | some m=>simp only[kJ]at h;cases h
 | none =>
  simp only[kJ]at h;split at h
  ·rename_i hT;split at h
   ·rename_i s;have e2:=hx.zw;subst e2;split at h
    ·rename_i l hh hl' hh';cases h;simp only[ach,acJ]at hok;obtain⟨⟨h0,h1⟩,h2⟩:=hok;have hlo:=(wW c lo (len:=s.length) (m:=l)).1 hl';have hhi:=(wW c hi (len:=s.length) (m:=hh)).2 hh';have hsz:(ByteArray.mk s.toArray).size=s.length:=by show s.toArray.size=_;simp
     have hrun:=Im (P:=P) (w:=w) false s.length s.length _ _ l hh hlo hhi h0 h1 h2 (acM _);refine .pure c.aO c.fresh (val:=.string ⟨((s.drop l.toNat).take (hh.toNat-l.toNat)).toArray⟩) ?_ rfl rfl (.d _ _ (.str _));have hext:=Lib.extract_eq ⟨s.toArray⟩ l.toNat hh.toNat;simp only at hext;simp[execOp,ho,dM,Instr.sliceAt,Instr.slice,run_underlying (ug hT),hsz,hrun,hext]
    ·cases h
   ·cases h
  ·split at h
   ·rename_i e he;split at h
    ·rename_i t l hsl;split at h
     ·rename_i ht;have ht:=ab5 ht;subst ht;split at h
      ·rename_i lv hv hl' hh';cases h;simp only[ach,acJ]at hok;obtain⟨⟨h0,h1⟩,h2⟩:=hok;have hlo:=(wW c lo (len:=l.length) (m:=lv)).1 hl';have hhi:=(wW c hi (len:=l.length) (m:=hv)).2 hh';have hu:=kL he;obtain⟨ad,cap,rfl,hd⟩:=(yg hx hsl).nN;have apL:l.length<=cap:=by
        rcases hd with rfl | ⟨g,off,rfl,hcap,_⟩
        ·simp
        ·exact hcap
       have hrun:=Im (P:=P) (w:=w) true l.length cap _ _ lv hv hlo hhi h0 h1 h2 apL;have hlen:((l.drop lv.toNat).take (hv.toNat-lv.toNat)).length=hv.toNat-lv.toNat:=by simp;omega
       refine .pure c.aO c.fresh (val:=.slice (if cap=lv.toNat then ad else ad.map (·.add (lv.toNat*E.size t))) (hv.toNat-lv.toNat) (cap-lv.toNat)) ?_ rfl rfl (.d _ _ ?_)
       ·simp[execOp,ho,dM,Instr.sliceAt,Instr.slice,run_underlying hu,hrun,pE]
       ·by_cases hz:hv.toNat-lv.toNat=0
        ·rw[hz,List.take_zero];exact .nil _ _ _
        ·rcases hd with rfl | ⟨g,off,rfl,hcap,f,f1,f2⟩
         ·simp at h2;omega
         ·rw[if_neg (by omega)];have e3:(some (⟨g,off,none⟩:Addr)).map (·.add (lv.toNat*E.size t))=some ⟨g,off+lv.toNat*E.size t,none⟩:=by simp[iR]
          rw[e3];have key:=fun i x (hi:((l.drop lv.toNat).take (hv.toNat-lv.toNat))[i]? = some x)=>(show l[lv.toNat+i]? = some x by
           have hlt:i<hv.toNat-lv.toNat:=by rw[<- hlen];exact(List.getElem?_eq_some_iff.1 hi).1
           rw[ags hlt,adZ]at hi;exact hi)
          have:=cu.slice (E:=E) (w:=w) (ro:=ro) t ((l.drop lv.toNat).take (hv.toNat-lv.toNat)) g (off+lv.toNat*E.size t) (cap-lv.toNat) (fun i j=>f (lv.toNat+i) j) (by rw[hlen];omega)
           (fun i x j c hi hc=>by
            have h3:=f1 _ x j c (key i x hi) hc;have e4:off+lv.toNat*E.size t+i*E.size t+j=off+(lv.toNat+i)*E.size t+j:=by rw[Nat.add_mul];omega
            rw[e4];exact h3)
           (fun i x j c hi hc=>f2 _ x j c (key i x hi) hc)
          rw[hlen]at this;exact this
      ·cases h
     ·cases h
    ·cases h
   ·cases h
theorem U4{t:E.Ty}:∀{cs:List (bE E.Den)} {l:List (E.Den t)},QN t cs=some l->l.length=cs.length/\∀(i:Nat) x,l[i]? = some x->∃c,cs[i]? = some c/\Cw [c] (E.cells t x)
 | [],l,h=>by cases h;exact⟨rfl,fun i x hx=>by simp at hx⟩
 | c::r,l,h=>by
  unfold QN at h;split at h
  ·rename_i x hx;split at h
   ·rename_i xs hxs;cases h;obtain⟨h1,h2⟩:=U4 hxs;refine⟨by simp[h1],fun i y hy=>?_⟩;cases i with
    | zero=>simp at hy;subst hy;exact⟨c,rfl,E.o8 _ _ _ hx⟩
    | succ i=>exact h2 i y (by simpa using hy)
   ·cases h
  ·cases h
theorem aa5(_:Ctx E S asm a w ι ro){o:Oper}{T:TypeId}{x:Operand}{lo hi mx:Option Operand}(_:o.op = .slice T x lo hi mx){r:Bool×AV E}
  (h:Pp T (aS S.tmps asm x) (kJ S.tmps asm lo) (kJ S.tmps asm hi) (kJ S.tmps asm mx)=some r) (_:r.1=true):bn E o a w ι ro S.next (.test r.1 r.2):=by
 unfold Pp at h;cases h
theorem aa6(c:Ctx E S asm a w ι ro){o:Oper}{T:TypeId}{x:Operand}{lo hi mx:Option Operand}(ho:o.op = .slice T x lo hi mx){r:Bool×AV E}
  (h:Ig S.objs T (aS S.tmps asm x) (kJ S.tmps asm lo) (kJ S.tmps asm hi) (kJ S.tmps asm mx)=some r) (hok:r.1=true):bn E o a w ι ro S.next (.test r.1 r.2):=by
 obtain⟨ok,r⟩:=r;have hx:=c.get x;generalize dM:a.eval x=vx at hx;generalize aS S.tmps asm x=X at *;cases mx with
 | some m=>unfold Ig at h;simp only[kJ]at h;cases h
 | none =>
  unfold Ig at h;simp only[kJ]at h;split at h
  ·rename_i n e id _ hT;split at h
   ·rename_i t l bX;split at h
    ·rename_i lv hv he hl' hh';cases h;have he:=ab5 he;subst he;simp only[ach,acJ]at hok;obtain⟨hln,⟨h0,h1⟩,h2⟩:=hok;have hln:=ab5 hln;have hlo:=(wW c lo (len:=n) (m:=lv)).1 hl';have hhi:=(wW c hi (len:=n) (m:=hv)).2 hh';have hu:P.underlying T=some (.array n (E.tid t)):=PE hT;obtain⟨hag,gh,g,vs,e0,hi0,hgv,hblk,hh,hsz,hcell,hro,hge⟩:=c.objs id _ bX;have hro:=hro.2 rfl;rw[zx]at hsz;have h1s:=E.one t hag;have hrun:=Im (P:=P) (w:=w) false n n _ _ lv hv hlo hhi h0 h1 h2 (acM _);cases hx with
     | ptr aX g' _ _ hi' sU =>
      rw[hi0]at hi';cases hi';rw[hgv]at sU;cases sU;have hl2:((l.drop lv.toNat).take (hv.toNat-lv.toNat)).length=hv.toNat-lv.toNat:=by simp;omega
      refine .pure c.aO c.fresh (val:=.slice (some (if n=lv.toNat then⟨g,0,none⟩else(⟨g,0,none⟩:Addr).add (lv.toNat*E.size t))) (hv.toNat-lv.toNat) (n-lv.toNat)) ?_ rfl rfl (.d _ _ ?_)
      ·simp[execOp,ho,dM,Instr.sliceAt,Instr.sureAddr,run_underlying hu,hrun,pE]
      ·by_cases hz:hv.toNat-lv.toNat=0
       ·rw[hz,List.take_zero];exact .nil _ _ _
       ·rw[if_neg (by omega),iR,h1s,ahL];have key:=fun i x (hi:((l.drop lv.toNat).take (hv.toNat-lv.toNat))[i]? = some x)=>(show l[lv.toNat+i]? = some x by
         have hlt:i<hv.toNat-lv.toNat:=by rw[<- hl2];exact(List.getElem?_eq_some_iff.1 hi).1
         rw[ags hlt,adZ]at hi;exact hi)
        have cell:∀i x j d,((l.drop lv.toNat).take (hv.toNat-lv.toNat))[i]? = some x->(E.cells t x)[j]? = some d->j=0/\lv.toNat+i<l.length/\cu E w ro (vs.getD (lv.toNat+i) undef) d:=fun i x j d hi hd=>by
         have hk:=key i x hi;obtain⟨c0,q1,q2⟩:=Pw hag x;rw[q1]at hd;have hj:j=0:=by have:=(List.getElem?_eq_some_iff.1 hd).1;simp at this;exact this
         subst hj;simp only[ak4,Option.some.injEq]at hd;subst hd;have hlt:=(List.getElem?_eq_some_iff.1 hk).1;have hv:=acZ (show lv.toNat+i<vs.size by omega);have hcc:(kI t l)[lv.toNat+i]? = some (cell1 t x):=by simp[kI,hk]
         have hr:=(hcell _ _ _ hv hcc).2;rw[q2]at hr;refine⟨rfl,hlt,?_⟩;have e1:vs.getD (lv.toNat+i) undef=vs[lv.toNat+i]:=by simp[Array.getD,show lv.toNat+i<vs.size by omega]
         rw[e1];generalize vs[lv.toNat+i]=u at hr;cases hr with
         | d _ _ hd=>exact hd
        have:=cu.slice (E:=E) (w:=w) (ro:=ro) t ((l.drop lv.toNat).take (hv.toNat-lv.toNat)) g (0+lv.toNat) (n-lv.toNat) (fun i _=>vs.getD (lv.toNat+i) undef) (by rw[hl2];omega)
         (fun i x j d hi hd=>by obtain⟨rfl,hlt,_⟩:=cell i x j d hi hd;rw[h1s,ahL,ah7,adr];refine⟨hro _ hlt,?_⟩;simp[World.cell?,hh,Array.getD,show lv.toNat+i<vs.size by omega])
         (fun i x j d hi hd=>(cell i x j d hi hd).2.2)
        rw[hl2]at this;exact this
    ·cases h
   ·cases h
  ·cases h
theorem agE(c:Ctx E S asm a w ι ro){o:Oper}{s d:TypeId}{x:Operand}(ho:o.op = .convert s d x){r:Bool×AV E}(h:XI s d (aS S.tmps asm x)=some r)(hok:r.1=true):bn E o a w ι ro S.next (.test r.1 r.2):=by
 have hx:=c.get x;generalize dM:a.eval x=vx at hx;generalize aS S.tmps asm x=X at *;unfold XI at h;split at h
 ·rename_i k0 n;have e1:=hx.iX;subst e1;split at h
  ·rename_i k1 k h1 h2;cases h;exact .pure c.aO c.fresh (val:=.int k (k.wrap n)) (by simp[execOp,ho,dM,convert,run_underlying (BR h1),run_underlying (BR h2),Conv.intToInt]) rfl rfl (.d _ _ (.int _ _))
  ·rename_i k1 h1 h2;split at h
   ·rename_i hd;cases h;exact .pure c.aO c.fresh (val:=.float .f64 (floatOfInt .f64 n)) (by simp only[execOp,ho,dM,Sem.run_bind,run_convert_int_float w s d k0 .f64 n (by rw[BR h1];rfl) (QZ hd),Result.andThen_ok,Sem.run_pure]) rfl rfl (.d _ _ (.flt _ _ (kH.agj n)))
   ·cases h
  ·cases h
 ·rename_i n;obtain⟨b,e1,hb⟩:=hx.wV;subst e1;split at h
  ·rename_i h2;split at h
   ·rename_i hs;cases h;have hn:n.natAbs<9007199254740992:=of_decide_eq_true hok;exact .pure c.aO c.fresh (val:=.int .i64 n) (by simp only[execOp,ho,dM,Sem.run_bind,run_convert_float_int (P:=P) w s d .f64 .i64 b n (by rw[QZ hs];rfl) (BR h2) (kH.U0 hb hn),Result.andThen_ok,Sem.run_pure]) rfl rfl (.d _ _ (.int _ _))
   ·cases h
  ·cases h
 ·split at h
  ·rename_i v hv;cases h;unfold ab0 at hv;split at hv
   ·rename_i e hT he;split at hv
    ·rename_i t l hu8 hsl;split at hv
     ·rename_i f hf;cases hv;have hu:P.underlying e=some (.int .u8):=by
       unfold anS at hu8;split at hu8
       ·assumption
       ·cases hu8
      obtain⟨ad,cap,rfl,hd⟩:=(yg hx hsl).nN;refine .pure c.aO c.fresh (val:=.string ⟨(l.map fun y=>UInt8.ofNat (f y).toNat).toArray⟩) ?_ rfl rfl (.d _ _ (.str _));have hrun:(convert s d (.slice ad l.length cap)).run P w = .ok (.string ⟨(l.map fun y=>UInt8.ofNat (f y).toNat).toArray⟩) w:=by
       rcases hd with rfl | ⟨g,off,rfl,hcap,fv,f1,f2⟩
       ·rw[run_convert_bytes_string w s d e _ _ cap (kL he) hu (ug hT)];cases ad with
        | none=>simp[Conv.bytesToString];rfl
        | some ad=>rw[run_bytesToString w ad _ cap [] (by simp[loadCells,loadCellsFrom])];rfl
       ·have hlen:(l.map f).length=l.length:=by simp
        rw[run_convert_bytes_arg w s e (kL he) hu g off l.length cap (l.map f) hlen (fun i hi=>?_) d (ug hT)]
        ·simp[strOfNums,Function.comp_def]
        ·have hc:=E.Nb t f hf l[i];have h1:E.size t=1:=by rw[<- E.fA t l[i],hc];rfl
         have hc0:(E.cells t l[i])[0]? = some (.int .u8 (f l[i])):=by rw[hc];rfl
         have g1:=f1 i l[i] 0 _ (aae hi) hc0;have g2:=f2 i l[i] 0 _ (aae hi) hc0;have e1:fv i 0 = .int .u8 (f l[i]):=by generalize fv i 0=u at g2;cases g2;rfl
         grind
      simp only[execOp,ho,dM,Sem.run_bind,hrun,Result.andThen_ok,Sem.run_pure]
     ·cases hv
    ·cases hv
   ·cases hv
  ·cases h
theorem jQ.cells{v:Value}{t:E.Ty}{x:E.Den t}(h:jQ E w ro v t x):jP E w ro v.cells (E.cells t x):=by
 rcases h with⟨ha,vs,rfl,hrow⟩ | ⟨ha,c,hc,hd⟩
 ·exact hrow
 ·rw[Value.cells_one hd.one,hc];refine⟨rfl,fun j u e hu he=>?_⟩;grind
theorem XW(t:E.Ty):∀(ps:List (Nat×Value)) (qs:List (Nat×AV E)) (k:Nat) (xs:List (E.Den t)) (C:Array Value),ps.length=qs.length ->
  (∀(i:Nat) p q,ps[i]? = some p->qs[i]? = some q->p.1=q.1/\aJ E w ro ι p.2 q.2)->K5 t k qs=some xs->(k+xs.length)*E.size t<=C.size ->
  ∃D,Instr.fill (fun i=>some (i*E.size t,E.size t)) C ps=some D/\D.size=C.size/\(∀q,q<k*E.size t->D[q]? = C[q]?) /\
   ∀(i:Nat) x (j:Nat) c,xs[i]? = some x->(E.cells t x)[j]? = some c->∃u,D[(k+i)*E.size t+j]? = some u/\cu E w ro u c
 | [],[],k,xs,C,_,_,h,_=>by cases h;exact⟨C,rfl,rfl,fun _ _=>rfl,fun i x j c hi=>by simp at hi⟩
 | p::ps,q::qs,k,xs,C,hl,hpq,h,hC=>by
  obtain⟨i,v⟩:=p;obtain⟨i',x⟩:=q;obtain⟨h1,h2⟩:=hpq 0 _ _ rfl rfl;simp only at h1 h2;subst h1;unfold K5 at h;split at h
  ·rename_i hk;have hk:=ab5 hk;subst hk;cases hf:ng t x with
   | none=>rw[hf]at h;cases h
   | some y =>
    rw[hf]at h;cases hr:K5 t (i+1) qs with
    | none=>rw[hr]at h;cases h
    | some ys =>
     rw[hr]at h;cases h;have hrow:=(kK h2 hf).cells;have hvs:v.cells.size=E.size t:=hrow.1.trans (E.fA t y);obtain⟨f1,f2⟩:=Py (i*E.size t) v.cells.toList 0 C;have e:(v.cells.zipIdx.foldl (fun cs (c,j)=>cs.setIfInBounds (i*E.size t+j) c) C)=((v.cells.toList.zipIdx 0).foldl (fun(cs:Array Value) p=>cs.setIfInBounds (i*E.size t+p.2) p.1) C):=by rw[<- Array.foldl_toList,Array.toList_zipIdx]
     simp only[acj]at hC;have hC1:(i+1)*E.size t<=C.size:=acy (ac6 _ (by omega)) hC;have hsucc:(i+1)*E.size t=i*E.size t+E.size t:=alH _ _;obtain⟨D,hD,hDs,hD1,hD2⟩:=XW t ps qs (i+1) ys _ (by simpa using hl) (fun i p q hp hq=>hpq (i+1) p q (by simpa using hp) (by simpa using hq)) hr
      (show(i+1+ys.length)*E.size t<=((v.cells.toList.zipIdx 0).foldl (fun(cs:Array Value) p=>cs.setIfInBounds (i*E.size t+p.2) p.1) C).size by rw[f1];exact acy (ac6 _ (by omega)) hC)
     refine⟨D,?_,hDs.trans f1,fun q hq=>?_,fun n x' j c hx hc=>?_⟩
     ·unfold Instr.fill;simp only;rw[if_neg (by simp;omega),e];exact hD
     ·rw[hD1 q (by omega),f2 q,if_neg (by omega)]
     ·have hj:j<E.size t:=by rw[<- E.fA t x'];exact(List.getElem?_eq_some_iff.1 hc).1
      cases n with
      | zero =>
       simp at hx;subst hx;rw[ah7,hD1 _ (by omega),f2,if_pos (by simp;omega)];have XY:j<v.cells.size:=by omega
       refine⟨v.cells[j],?_,hrow.2 j _ c (acZ XY) hc⟩;rw[show i*E.size t+j-i*E.size t-0=j from by omega];simp[XY]
      | succ n =>grind
  ·cases h
 | [],_::_,_,_,_,hl,_,_,_=>by simp at hl
 | _::_,[],_,_,_,hl,_,_,_=>by simp at hl
theorem dh.amF(c:Ctx E S asm a w ι ro)(ob:Obj)(val:Value)(x:AV E)(hv:aJ E (w.alloc ob) (fun k o=>ro k o\/k=w.heap.size) ι val x) :
  dh E w (w.alloc ob) ι ι ro (fun k o=>ro k o\/k=w.heap.size) S.next (.pure x) val where
 os:=rfl
 tape:=rfl
 output:=rfl
 size:=by simp
 frame:=fun k hk _=>heap_alloc_old w _ hk
 cell:=fun k o h=>qI w _ (c.aO k o h) o
 mono:=fun _ _ h=>.inl h
 aO:=fun k o h=>by
  rcases h with h | h
  ·have:=c.aO k o h;simp;omega
  ·simp;omega
 fresh:=fun k o h=>by grind
 iG:=fun _ _=>rfl
 lK:=fun gh k h=>by rw[c.fresh]at h;cases h
 jK:=fun _=>rfl
 upd:=fun id o h=>by cases h
 new:=fun o h=>by cases h
 val:=hv
theorem Q6(c:Ctx E S asm a w ι ro){o:Oper}{T:TypeId}{n:Nat}{ps:Array (Nat×Operand)}(ho:o.op = .buildSlice T n ps){r:AV E}(h:CF T n (mG S.tmps asm ps)=some r) :
  bn E o a w ι ro S.next (.pure r):=by
 unfold CF at h;split at h
 ·rename_i e he;split at h
  ·rename_i t ht;have ajr:=E.Cm e t ht;subst ajr;split at h
   ·rename_i xs hxs;split at h
    ·rename_i hcond;obtain⟨hn,hmax⟩:=hcond;cases h;subst hn;obtain⟨i,z,hi,his,hib,hz,hzs⟩:=E.tZ t;have hu:=kL he;have hrel:=U3 c ps;let zs:Array Value:=if xs.length*E.size t=0 then #[]else z.cells
     let C:Array Value:=(Array.range (xs.length*E.size t)).map (zs[· % zs.size]!);have hCs:C.size=xs.length*E.size t:=by simp[C]
     obtain⟨D,hD,hDs,_,hD2⟩:=XW (w:=w) (ro:=ro) (ι:=ι) t (ps.map fun(i,x)=>(i,a.eval x)).toList (mG S.tmps asm ps) 0 xs C (by simp[mG]) hrel hxs (by rw[hCs,adr];exact acM _);refine .inl ⟨.slice (some ⟨w.heap.size,0,none⟩) xs.length xs.length,w.alloc (.cells D (E.tid t)),ι,fun k o=>ro k o\/k=w.heap.size,?_,?_⟩
     ·have h24:¬ (xs.length*E.size t > 2 ^ 24):=by omega
      simp only[execOp,ho,Instr.buildSlice];simp only[Sem.run_bind,run_underlying hu,Result.andThen_ok,pE,if_neg h24];have hD':Instr.fill (fun i=>some (i*E.size t,E.size t)) ((Array.range (xs.length*E.size t)).map (zs[· % zs.size]!)) (ps.map fun(i,x)=>(i,a.eval x)).toList=some D:=hD;by_cases h0:xs.length*E.size t=0
      ·have e0:zs = #[]:=if_pos h0;rw[e0]at hD';rw[if_pos h0];simp only[Sem.run_bind,Sem.run_pure,Result.andThen_ok];rw[hD'];simp[newRow]
      ·have e0:zs=z.cells:=if_neg h0;rw[e0]at hD';have hzv:(zeroValue (E.tid t)).run P w = .ok z w:=by simp[zeroValue,typeInfo,hi,hz]
       rw[if_neg h0];simp only[Sem.run_bind,hzv,Sem.run_pure,Result.andThen_ok];rw[hD'];simp[newRow]
     ·refine dh.amF c _ _ _ (.d _ _ ?_);refine .slice t xs w.heap.size 0 xs.length (fun i j=>(D[i*E.size t+j]?).getD undef) (acM _) (fun i x j cc hx hc=>?_) (fun i x j cc hx hc=>?_)
      ·obtain⟨u,hu1,hd⟩:=hD2 i x j cc hx hc;simp only[adr]at hu1 ⊢;refine⟨.inr trivial,?_⟩;rw[cell_of_row (w.alloc (.cells D (E.tid t))) w.heap.size _ D (E.tid t) (0,0) (heap_alloc_new w _),hu1];rfl
      ·obtain⟨u,hu1,hd⟩:=hD2 i x j cc hx hc;simp only[adr]at hu1;simp only[hu1,Option.getD_some];exact hd.mono (fun _ _ h=>.inl h) (fun k o h=>qI w _ (c.aO k o h) o)
    ·cases h
   ·cases h
  ·cases h
 ·cases h
theorem Wz(_:Ctx E S asm a w ι ro){o:Oper}{T:TypeId}{n:Nat}{ps:Array (Nat×Operand)}(_:o.op = .buildSlice T n ps){r:dR E}(h:BP S.next T n (mG S.tmps asm ps)=some r) :
  bn E o a w ι ro S.next r:=by
 unfold BP at h;cases h
theorem ajs{f:FuncId}{vs us:Array Value}{x y:List (AV E)}(h1:vs.size=x.length)(h2:us.size=y.length)(h3:∀(j:Nat) v c,vs[j]? = some v->x[j]? = some c->aJ E w ro ι v c)(h4:∀(j:Nat) v c,us[j]? = some v->y[j]? = some c->aJ E w ro ι v c):aJ E w ro ι (.func (.func f) vs us) (K6 f x y):=by
 cases x with
 | cons a x=>exact .fn f vs us _ _ h1 h2 h3 h4
 | nil =>
  cases y with
  | cons b y=>exact .fn f vs us _ _ h1 h2 h3 h4
  | nil =>obtain rfl:=ak3 h1;obtain rfl:=ak3 h2;exact .d _ _ (.raw _ rfl)
theorem Lb(c:Ctx E S asm a w ι ro)(ps:Array Operand):∀(i:Nat) v x,(ps.map a.eval)[i]? = some v->(bI S.tmps asm ps)[i]? = some x->aJ E w ro ι v x:=by
 intro i v x hv hx;unfold bI at hx;rw[acS]at hx;rw[Array.getElem?_map]at hv;cases hi:ps[i]? with
 | none=>rw[hi]at hv;cases hv
 | some y =>
  have hi':ps.toList[i]? = some y:=by simpa using hi
  rw[hi]at hv;rw[hi']at hx;cases hv;cases hx;exact c.get y
theorem WA(c:Ctx E S asm a w ι ro){o:Oper}{f:FuncId}{x y:Array Operand}(ho:o.op = .makeFunc (.func f) x y):bn E o a w ι ro S.next (.pure (K6 f (bI S.tmps asm x) (bI S.tmps asm y))) :=
 c.pure (val:=.func (.func f) (x.map a.eval) (y.map a.eval)) (by simp[execOp,ho,Instr.makeFunc]) (ajs (by simp[bI]) (by simp[bI]) (Lb c x) (Lb c y))
theorem cu.row{v:Value}{t:E.Ty}{l:List (E.Den t)}(h:cu E w ro v (.slice t l)):∃(ad:Option Addr) (cap:Nat) (news:List Value),v = .slice ad l.length cap/\news.length=l.length*E.size t/\(ad=none->l.length=0) /\
  (∀a,ad=some a->∀j u,news[j]? = some u->w.cell? (a.add j)=some u)/\(∀u∈news,u.oneCell'=true) /\
  (∀(i:Nat) x (j:Nat) c,l[i]? = some x->(E.cells t x)[j]? = some c->∃u,news[i*E.size t+j]? = some u/\cu E w ro u c):=by
 obtain⟨ad,cap,rfl,hd⟩:=h.nN;rcases hd with rfl | ⟨g,off,rfl,hcap,f,f1,f2⟩
 ·exact⟨ad,cap,[],rfl,by simp,fun _=>rfl,fun a _ j u hu=>by simp at hu,fun u hu=>by simp at hu,fun i x j c hi=>by simp at hi⟩
 ·have hpos:=E.size_pos t;have hmem:∀q,q<l.length*E.size t->∃x c,l[q / E.size t]? = some x/\(E.cells t x)[q%E.size t]? = some c:=by
   intro q hq;have h1:q / E.size t<l.length:=Nat.div_lt_of_lt_mul (by rw[alr];exact hq);have h2:q%E.size t<(E.cells t l[q / E.size t]).length:=by rw[E.fA];exact Nat.mod_lt _ hpos
   exact⟨_,_,aae h1,aae h2⟩
  refine⟨_,cap,(List.range (l.length*E.size t)).map fun q=>f (q / E.size t) (q%E.size t),rfl,by simp,(fun h=>by cases h),fun a ha j u hu=>?_,fun u hu=>?_,fun i x j c hi hc=>?_⟩
  ·cases ha;have hj:j<l.length*E.size t:=by have:=(List.getElem?_eq_some_iff.1 hu).1;simpa using this
   simp[hj]at hu;obtain⟨x,c,hx,hc⟩:=hmem j hj;have:=(f1 _ x _ c hx hc).2;rw[alh,show j / E.size t*E.size t+j%E.size t=j from by rw[alr];exact Nat.div_add_mod j _]at this;rw[iR,this,hu]
  ·simp only[List.mem_map,List.mem_range]at hu;obtain⟨q,hq,rfl⟩:=hu;obtain⟨x,c,hx,hc⟩:=hmem q hq;exact(f2 _ x _ c hx hc).one
  ·have hj:j<E.size t:=by rw[<- E.fA t x];exact(List.getElem?_eq_some_iff.1 hc).1
   have hi':i<l.length:=(List.getElem?_eq_some_iff.1 hi).1;have hq:i*E.size t+j<l.length*E.size t:=by have:=ac6 (E.size t) (show i+1<=l.length by omega);rw[alH]at this;omega
   have e1:(i*E.size t+j) / E.size t=i:=by rw[alr,Nat.mul_add_div hpos];simp[Nat.div_eq_of_lt hj]
   have e2:(i*E.size t+j)%E.size t=j:=by rw[alr,Nat.mul_add_mod];exact Nat.mod_eq_of_lt hj
   grind
theorem WB{v:Value}{t:E.Ty}{l:List (E.Den t)}{xs:List Value}{b:Option Nat}
  (hown:(w.ownsRow 0 (E.tid t) (E.size t) v l.length xs/\b=v.ownBlock)\/(l.length=0/\xs=[]/\b=none/\∃ad,v = .slice ad 0 0)) (hd1:cu E w ro v (.slice t l)):jJ E w ro t xs l:=by
 intro i x j c hx hc;obtain⟨ad1,as2,hv,hd⟩:=hd1.nN;rcases hd with rfl | ⟨g,off,rfl,_,f,f1,f2⟩
 ·simp at hx
 ·have hi':i<l.length:=(List.getElem?_eq_some_iff.1 hx).1;rcases hown with⟨hown,_⟩ | ⟨h0,_⟩
  ·have hcell:=(f1 i x j c hx hc).2;have hj:j<E.size t:=by rw[<- E.fA t x];exact(List.getElem?_eq_some_iff.1 hc).1
   have hq:i*E.size t+j<xs.length:=by rw[hown.1];have:=ac6 (E.size t) (show i+1<=l.length by omega);rw[alH]at this;omega
   have hoff:off=0:=by
    rcases hown.2 with⟨h0,_⟩ | ⟨g',cap',cur,h0,_⟩
    ·rw[h0]at hv;cases hv
    ·rw[h0]at hv;cases hv;rfl
   subst hoff;have:=hown.cells (g:=g) (by rw[hv];rfl) _ _ (aae hq);rw[iR,<- alh,hcell]at this;grind
  ·omega
theorem Bj{v:Value}{t:E.Ty}{l:List (E.Den t)}{xs:List Value}{b:Option Nat}(hown:(w.ownsRow 0 (E.tid t) (E.size t) v l.length xs/\b=v.ownBlock)\/(l.length=0/\xs=[]/\b=none/\∃ad,v = .slice ad 0 0))
  (hro:∀g o,b=some g->o<l.length*E.size t->ro g o) (hrow:jJ E w ro t xs l):cu E w ro v (.slice t l):=by
 rcases hown with⟨hown,rfl⟩ | ⟨h0,_,_,ad,rfl⟩
 ·rcases hown.2 with⟨h0,hn⟩ | ⟨g',cap',cur,h0,_,hg,hnc',_,hcs,htake⟩
  ·have e1:l=[]:=ac1 hn;rw[h0,e1];exact .nil _ _ _
  ·have:=cu.slice (E:=E) (w:=w) (ro:=ro) t l g' 0 cap' (fun i j=>(xs[i*E.size t+j]?).getD undef) hnc'
    (fun i x j cc hx hc=>by obtain⟨u,hu,hd⟩:=hrow i x j cc hx hc;simp only[adr];refine⟨hro g' _ (by rw[h0];rfl) (by rw[<- hown.1];exact(List.getElem?_eq_some_iff.1 hu).1),?_⟩;have:=hown.cells (g:=g') (by rw[h0];rfl) _ _ hu;rw[iR,adr]at this;rw[this,hu];rfl)
    (fun i x j cc hx hc=>by obtain⟨u,hu,hd⟩:=hrow i x j cc hx hc;simp only[hu,Option.getD_some];exact hd)
   rw[h0];exact this
 ·have e1:l=[]:=ac1 h0;rw[e1];exact .nil _ _ _
theorem jJ.mono{w':World}{ro':Nat->Nat->Prop}{t:E.Ty}{xs:List Value}{l:List (E.Den t)}(hr:∀k o,ro k o->ro' k o)(hc:∀k o,ro k o->w'.cell? ⟨k,o,none⟩=w.cell? ⟨k,o,none⟩)(h:jJ E w ro t xs l):jJ E w' ro' t xs l :=
 fun i x j c hx hc'=>by obtain⟨u,hu,hd⟩:=h i x j c hx hc';exact⟨u,hu,hd.mono hr hc⟩
theorem jJ.app{t:E.Ty}{xs news:List Value}{l1 l2:List (E.Den t)}(hx:xs.length=l1.length*E.size t)(h1:jJ E w ro t xs l1)(h2:jJ E w ro t news l2):jJ E w ro t (xs++news) (l1++l2):=by
 intro i x j c hx' hc;rcases ahx i l1.length with hi1 | hi1
 ·rw[acY hi1]at hx';obtain⟨u,hu,hd⟩:=h1 i x j c hx' hc;grind
 ·rw[acT hi1]at hx';obtain⟨u,hu,hd⟩:=h2 (i-l1.length) x j c hx' hc;have e1:i*E.size t=l1.length*E.size t+(i-l1.length)*E.size t:=by rw[<- Nat.add_mul];congr 1;omega
  grind
theorem o9.shape{gh:Gh}{xs:List Value}(h:o9 w gh xs):∃ad cap,gh.v = .slice ad gh.n cap/\(0<gh.n->∃g,ad=some ⟨g,0,none⟩):=by
 rcases h with⟨h,_⟩ | ⟨h0,_,_,ad,h⟩
 ·rcases h.2 with⟨h1,h2⟩ | ⟨g,cap,cur,h1,_⟩
  ·grind
  grind
 grind
theorem cu.src{v:Value}{t:E.Ty}{l:List (E.Den t)}{T e':TypeId}(h:cu E w ro v (.slice t l))(hT:P.underlying T=some (.slice e')):∃news,Src P (E.size t) T v l.length news w/\jJ E w ro t news l:=by
 obtain⟨ad,cap,news,rfl,hnl,had,hnc,hn1,hnd⟩:=h.row;cases ad with
 | none =>have h0:=had rfl;have hn:news=[]:=ac1 (by rw[hnl,h0,Nat.zero_mul]);subst hn;exact⟨[],by rw[h0];exact Src.ofNil w hT cap,hnd⟩
 | some A=>exact⟨news,Src.ofSlice w hT A _ cap news hnl (hnc A rfl) hn1,hnd⟩
theorem amG{t:E.Ty}{T:TypeId}(g:Int->E.Den t)(hg:∀n,E.cells t (g n)=[.int .u8 n])(hT:P.underlying T=some .string)(s:alJ) :
  ∃news,Src P (E.size t) T (.string ⟨s.toArray⟩) (s.map fun b=>g (b.toNat:Int)).length news w/\jJ E w ro t news (s.map fun b=>g (b.toNat:Int)):=by
 have h1:E.size t=1:=by rw[<- E.fA t (g 0),hg];rfl
 refine⟨byteCells ⟨s.toArray⟩,?_,fun i x j c hx hc=>?_⟩
 ·rw[h1,agU];exact Src.ofString w hT ⟨s.toArray⟩
 ·rw[acS]at hx;cases hb:s[i]? with
  | none=>rw[hb]at hx;cases hx
  | some b =>
   rw[hb]at hx;cases hx;rw[hg]at hc;have hj:j=0:=by have:=(List.getElem?_eq_some_iff.1 hc).1;simpa using this
   subst hj;cases hc;refine⟨.int .u8 b.toNat,?_,.int .u8 _⟩;rw[h1,ahL,ah7];unfold byteCells;simp[hb]
theorem Ot(c:Ctx E S asm a w ι ro)(t:E.Ty)(T T' ty:TypeId)(hT:P.underlying T=some (.slice (E.tid t)))(v:Value)(l1 l2:List (E.Den t))(xs:List Value)(u:Value)(news:List Value)(upd:Option (Nat×aH E))(b:Option Nat)
  (hown:(w.ownsRow 0 (E.tid t) (E.size t) v l1.length xs/\b=v.ownBlock)\/(l1.length=0/\xs=[]/\b=none/\∃ad,v = .slice ad 0 0)) (hxs:jJ E w ro t xs l1)
  (hro:∀g,b=some g->∀o,l1.length*E.size t<=o->¬ ro g o) (hs2:Src P (E.size t) T' u l2.length news w) (hnd:jJ E w ro t news l2)
  (hb:(l1.length+l2.length)*E.bytes t<=140737488355328) (pF:b=none/\upd=none\/∃id gh,upd=some (id,.dead)/\ι id=some gh/\gh.blk=b) :
  ∃v' w' ι' ro',(Builtin.append_ #[T,T'] ty #[v,u]).run P w = .ok v' w'/\dh E w w' ι ι' ro ro' S.next ⟨true,.grow t (l1++l2) S.next,upd,some (.tail true)⟩ v':=by
 obtain⟨i,z,hi,his,hib,hz,hzs⟩:=E.tZ t;have hbp:=E.KW t;have h63:l1.length+l2.length<=maxLen:=by have:l1.length+l2.length<=(l1.length+l2.length)*E.bytes t:=Nat.le_mul_of_pos_right _ hbp;unfold maxLen;omega
 obtain⟨v',w',b',hrun,hown',hgrow,hat,hkept⟩:=Gc (P:=P) (w:=w) T T' ty (E.tid t) i z hT hi hz (by rw[hzs,his]) v l1.length xs b (by rw[his];exact hown) u l2.length news (by rw[his];exact hs2) h63 (by rw[hib];exact hb);rw[his]at hown';have hxl:xs.length=l1.length*E.size t:=by
  rcases hown with h | ⟨h0,h1,_⟩
  ·exact h.1.1
  ·rw[h0,h1];simp
 have pq:∀k o,ro k o->w'.cell? ⟨k,o,none⟩=w.cell? ⟨k,o,none⟩:=by
  intro k o hr;by_cases hk:b=some k
  ·have ho:o<l1.length*E.size t:=by
    grind
   have hox:o<xs.length:=by rw[hxl];exact ho
   rcases hown with⟨hown,hbe⟩ | ⟨_,_,hbe,_⟩
   ·have h1:=hkept k hk o _ (aae hox);have h2:=hown.cells (hbe▸hk) o _ (aae hox);rw[iR,adr]at h2;rw[h1,h2]
   ·rw[hbe]at hk;cases hk
  ·exact World.cell?_of_block (hgrow.block k (c.aO k o hr) (fun e=>hk e.symm))
 let ro':Nat->Nat->Prop:=fun k o=>ro k o\/(b'=some k/\o<(l1.length+l2.length)*E.size t)
 let aX:Gh:=⟨v',l1.length+l2.length,E.tid t,E.size t,b'⟩
 have hlen:(l1++l2).length=l1.length+l2.length:=by simp
 have hown2:(w'.ownsRow 0 (E.tid t) (E.size t) v' (l1++l2).length (xs++news)/\b'=v'.ownBlock)\/((l1++l2).length=0/\xs++news=[]/\b'=none/\∃ad,v' = .slice ad 0 0):=by rw[hlen];exact hown'
 have hd':cu E w' ro' v' (.slice t (l1++l2)) :=
  Bj hown2 (fun g o hg ho=>.inr ⟨hg,by rw[<- hlen];exact ho⟩) ((jJ.app hxl hxs hnd).mono (fun _ _ h=>.inl h) pq)
 have hlt':∀k,b'=some k->k<w'.heap.size:=by
  intro k hk;rcases hown' with⟨h,rfl⟩ | ⟨_,_,h,_⟩
  ·exact(h.lt k hk).2
  ·rw[h]at hk;cases hk
 have agF:∀g,b'=some g->∀o,(l1.length+l2.length)*E.size t<=o->¬ ro g o:=by
  intro g hg o ho hr;rcases hat with h | h
  ·grind
  ·rw[h]at hg;cases hg;exact absurd (c.aO _ _ hr) (by omega)
 refine⟨v',w',gy ι S.next aX,ro',hrun, {
  os:=hgrow.os
  tape:=hgrow.tape
  output:=hgrow.output
  size:=hgrow.size
  frame:=fun k hk hne=>hgrow.block k hk (fun e=>by
   rcases pF with⟨h1,h2⟩ | ⟨id,gh,h1,h2,h3⟩
   ·rw[h1]at e;cases e
   ·exact hne id _ gh h1 h2 (by rw[h3,<- e]))
  cell:=pq
  mono:=fun _ _ h=>.inl h
  aO:=fun k o h=>by
   rcases h with h | ⟨h,_⟩
   ·exact adg (c.aO k o h) hgrow.size
   ·exact hlt' k h
  fresh:=fun k o h=>by grind
  iG:=fun id h=>if_neg h
  lK:=fun gh k h hk=>by
   simp[gy]at h;subst h;have hk:b'=some k:=hk;refine⟨hlt' k hk,?_⟩;rcases hat with e | e
   ·rw[e]at hk;rcases pF with⟨h1,h2⟩ | ⟨id,gh,h1,h2,h3⟩
    ·rw[h1]at hk;cases hk
    ·exact .inr ⟨id,_,gh,h1,rfl,h2,by rw[h3,hk]⟩
   grind
  jK:=fun h=>by cases h
  upd:=fun id o h=>by
   rcases pF with⟨h1,h2⟩ | ⟨id',gh,h1,h2,h3⟩
   ·rw[h2]at h;cases h
   ·rw[h1]at h;cases h;trivial
  new:=fun o h=>by cases h;intro _;refine⟨aX,xs++news,if_pos rfl,hown',fun g hg o ho hr=>?_⟩;grind
  val:=.grow aX t (l1++l2) S.next (if_pos rfl) (by simp[aX]) rfl rfl hd' }⟩
theorem Q7(c:Ctx E S asm a w ι ro)(t:E.Ty)(T T' ty:TypeId)(hT:P.underlying T=some (.slice (E.tid t)))(v:Value)(l1 l2:List (E.Den t))(xs:List Value)(u:Value)(news:List Value)(upd:Option (Nat×aH E))(b:Option Nat)
  (hown:(w.ownsRow 0 (E.tid t) (E.size t) v l1.length xs/\b=v.ownBlock)\/(l1.length=0/\xs=[]/\b=none/\∃ad,v = .slice ad 0 0)) (hxs:jJ E w ro t xs l1)
  (hro:∀g,b=some g->∀o,¬ ro g o) (hs2:Src P (E.size t) T' u l2.length news w) (hnd:jJ E w ro t news l2)
  (hb:(l1.length+l2.length)*E.bytes t<=140737488355328) (pF:b=none/\upd=none\/∃id gh,upd=some (id,.dead)/\ι id=some gh/\gh.blk=b) :
  ∃v' w' ι',(Builtin.append_ #[T,T'] ty #[v,u]).run P w = .ok v' w'/\dh E w w' ι ι' ro ro S.next ⟨true,.row t (l1.length+l2.length) S.next,upd,some (.row t (l1++l2))⟩ v':=by
 obtain⟨i,z,hi,his,hib,hz,hzs⟩:=E.tZ t;have hbp:=E.KW t;have h63:l1.length+l2.length<=maxLen:=by have:l1.length+l2.length<=(l1.length+l2.length)*E.bytes t:=Nat.le_mul_of_pos_right _ hbp;unfold maxLen;omega
 obtain⟨v',w',b',hrun,hown',hgrow,hat,hkept⟩:=Gc (P:=P) (w:=w) T T' ty (E.tid t) i z hT hi hz (by rw[hzs,his]) v l1.length xs b (by rw[his];exact hown) u l2.length news (by rw[his];exact hs2) h63 (by rw[hib];exact hb);rw[his]at hown';have hxl:xs.length=l1.length*E.size t:=by
  rcases hown with h | ⟨h0,h1,_⟩
  ·exact h.1.1
  ·rw[h0,h1];simp
 have pq:∀k o,ro k o->w'.cell? ⟨k,o,none⟩=w.cell? ⟨k,o,none⟩:=by intro k o hr;exact World.cell?_of_block (hgrow.block k (c.aO k o hr) (fun e=>hro k e.symm o hr))
 let aX:Gh:=⟨v',l1.length+l2.length,E.tid t,E.size t,b'⟩
 have hlen:(l1++l2).length=l1.length+l2.length:=by simp
 have hrow':jJ E w' ro t (xs++news) (l1++l2):=(jJ.app hxl hxs hnd).mono (fun _ _ h=>h) pq;have hlt':∀k,b'=some k->k<w'.heap.size:=by
  intro k hk;rcases hown' with⟨h,rfl⟩ | ⟨_,_,h,_⟩
  ·exact(h.lt k hk).2
  ·rw[h]at hk;cases hk
 have agF:∀g,b'=some g->∀o,¬ ro g o:=by
  intro g hg o hr;rcases hat with h | h
  ·rw[h]at hg;exact hro g hg o hr
  ·rw[h]at hg;cases hg;exact absurd (c.aO _ _ hr) (by omega)
 have ak5:o9 w' aX (xs++news):=hown';obtain⟨ad',cap',hgv,arQ⟩:=ak5.shape;refine⟨v',w',gy ι S.next aX,hrun, {
  os:=hgrow.os
  tape:=hgrow.tape
  output:=hgrow.output
  size:=hgrow.size
  frame:=fun k hk hne=>hgrow.block k hk (fun e=>by
   rcases pF with⟨h1,h2⟩ | ⟨id,gh,h1,h2,h3⟩
   ·rw[h1]at e;cases e
   ·exact hne id _ gh h1 h2 (by rw[h3,<- e]))
  cell:=pq
  mono:=fun _ _ h=>h
  aO:=fun k o h=>adg (c.aO k o h) hgrow.size
  fresh:=fun k o h=>.inl h
  iG:=fun id h=>if_neg h
  lK:=fun gh k h hk=>by
   simp[gy]at h;subst h;have hk:b'=some k:=hk;refine⟨hlt' k hk,?_⟩;rcases hat with e | e
   ·rw[e]at hk;rcases pF with⟨h1,h2⟩ | ⟨id,gh,h1,h2,h3⟩
    ·rw[h1]at hk;cases hk
    ·exact .inr ⟨id,_,gh,h1,rfl,h2,by rw[h3,hk]⟩
   grind
  jK:=fun h=>by cases h
  upd:=fun id o h=>by
   rcases pF with⟨h1,h2⟩ | ⟨id',gh,h1,h2,h3⟩
   ·rw[h2]at h;cases h
   ·rw[h1]at h;cases h;trivial
  new:=fun o h=>by cases h;exact⟨aX,xs++news,if_pos rfl,hlen.symm,rfl,rfl,ak5,hrow',agF⟩
  val:=.row aX t S.next ad' cap' (if_pos rfl) rfl rfl hgv arQ }⟩
end
end Go.Proofs.YtibpdjmikfmmaaaGreat.bB
