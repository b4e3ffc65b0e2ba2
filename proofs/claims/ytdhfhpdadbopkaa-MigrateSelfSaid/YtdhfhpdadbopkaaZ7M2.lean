/-
  Migrate: keys of markings and pairs; sets of pairs.
-/
import Derived.Test.YtdhfhpdadbopkaaZ7M1
set_option linter.all false
namespace Go.Proofs.Ytdhfhpdadbopkaa
open Go.K Go.M
abbrev Pr:Type:=ab
abbrev Stp:Type:=ag
abbrev Mp:Type:=List (ByteArray×Bool)
theorem jfy{a b:Int}(ha:0≤a∧a<65536)(hb:0≤b∧b<65536)(h:by2 a=by2 b):a=b:=by
 unfold by2 at h;simp only[List.cons.injEq,and_true]at h;obtain⟨h1,h2⟩:=h;have h1:=congrArg UInt8.toNat h1;have h2:=congrArg UInt8.toNat h2;rw[UInt8.toNat_ofNat',UInt8.toNat_ofNat']at h1 h2;omega
def Low(l:List Int):Prop:=∀x∈l,0≤x∧x<65536
theorem qpx:∀{a b:List Int},Low a→Low b→xk a=xk b→a=b
 |[],[],_,_,_=>rfl
 |[],y::b,_,_,h=>by
  have:=congrArg List.length h;rw[uw,uw]at this;simp at this
 |x::a,[],_,_,h=>by
  have:=congrArg List.length h;rw[uw,uw]at this;simp at this
 |x::a,y::b,ha,hb,h=>by
  have h' :by2 x++xk a=by2 y++xk b:=h;obtain⟨h1,h2⟩:=List.append_inj h' rfl;have e1:=jfy (ha x List.mem_cons_self) (hb y List.mem_cons_self) h1;have e2:=qpx (fun z hz=>ha z (List.mem_cons_of_mem _ hz)) (fun z hz=>hb z (List.mem_cons_of_mem _ hz)) h2;rw[e1,e2]
theorem qxm(l:List Int)(h:l.length≤1000000):iv l=some ⟨(xk l).toArray⟩:=if_pos h
def qcz(l:List Int):ByteArray:=⟨(xk l).toArray⟩
theorem q6d{a b:List Int}(ha:Low a)(hb:Low b)(h:qcz a=qcz b):a=b:=by
 refine qpx ha hb ?_;have:=congrArg (fun x=>x.data.toList) h;simpa[qcz]using this
def jek(x y:List Int):List UInt8:=xk x++124::xk y
def rh(x y:List Int):ByteArray:=⟨(jek x y).toArray⟩
theorem qwl(x y:List Int)(hx:x.length≤1000)(hy:y.length≤1000):jr x y=some (rh x y):=by
 have s1:ByteArray.size ⟨(xk x).toArray⟩=2*x.length:=(uw x);have s2:ByteArray.size ⟨(xk y).toArray⟩=2*y.length:=(uw y);have s3:ByteArray.size ⟨#[124]⟩=1:=rfl;have s4:ByteArray.size (⟨(xk x).toArray⟩++⟨#[124]⟩)=2*x.length+1:=by rw[ByteArray.size_append,s1,s3]
 have c1:decide (((ByteArray.size ⟨(xk x).toArray⟩+ByteArray.size ⟨#[124]⟩:Nat):Int)≤9223372036854775807)=true:=decide_eq_true (by rw[s1,s3];omega);have c2:decide (((ByteArray.size (⟨(xk x).toArray⟩++⟨#[124]⟩)+ByteArray.size ⟨(xk y).toArray⟩:Nat):Int)≤9223372036854775807)=true:=decide_eq_true (by rw[s4,s2];omega);unfold jr;rw[qxm x (by omega),ah,vk c1,qxm y (by omega),ah,vk c2];refine congrArg some (ByteArray.ext ?_);rw[ByteArray.data_append,ByteArray.data_append];show(xk x).toArray++ #[124]++(xk y).toArray=(xk x++124::xk y).toArray;simp
theorem q2e{x y x' y' :List Int}(hl:x.length=x'.length)(h1:Low x)(h2:Low x')(h3:Low y)(h4:Low y')(h:rh x y=rh x' y'):x=x' ∧y=y' :=by
 have h' :jek x y=jek x' y' :=by
  have:=congrArg (fun x=>x.data.toList) h;simpa[rh]using this
 obtain⟨a,b⟩:=List.append_inj h' (by rw[uw,uw,hl]);exact⟨qpx h1 h2 a,qpx h3 h4 (List.cons.inj b).2⟩
theorem sd{N:Int}{m:List Int}(h:bu N m=true):Low m:=fun x hx=>by
 obtain⟨i,hi,rfl⟩:=je 0 hx;have:=(qc9.1 h).2 i hi;omega
theorem c0{N:Int}{m:List Int}(h:bu N m=true):(m.length:Int)=N:=(qc9.1 h).1
def Tab(a b:Int)(S:Mp)(f:List Int→List Int→Bool):Prop:=∀x y,bu a x=true→bu b y=true→(l8 .str (rh x y) S).getD false=f x y
theorem jfj(a b:Int):Tab a b [] fun _ _=>false:=fun _ _ _ _=>rfl
theorem jfk{a b:Int}{S:Mp}{f:List Int→List Int→Bool}(h:Tab a b S f){x0 y0:List Int}(hx:bu a x0=true)(hy:bu b y0=true):
  Tab a b (tj .str (rh x0 y0) true S) fun x y=>(decide (x0=x)&&decide (y0=y))||f x y:=fun x y h1 h2=>by
 rw[ql0];have l1:=c0 hx;have l2:=c0 h1;by_cases e:x0=x∧y0=y
 ·obtain⟨rfl,rfl⟩:=e;rw[qao];simp
 ·have hn:gp (rh x y) (rh x0 y0)=false:=by
   cases hq:gp (rh x y) (rh x0 y0)with
   |false=>rfl
   |true=>
    obtain⟨e1,e2⟩:=q2e (by omega) (sd h1) (sd hx) (sd h2) (sd hy) (mr.1 hq);exact absurd ⟨e1.symm,e2.symm⟩ e
  rw[hn,cond_false,h x y h1 h2];have:(decide (x0=x)&&decide (y0=y))=false:=by
   rw[Bool.and_eq_false_iff,decide_eq_false_iff_not,decide_eq_false_iff_not];by_cases e1:x0=x
   ·exact .inr fun e2=>e ⟨e1,e2⟩
   ·exact .inl e1
  show f x y=((decide (x0=x)&&decide (y0=y))||f x y);rw[this];rfl
def inB(l:List Pr)(x y:List Int):Bool:=l.any fun p=>decide (p.1=x)&&decide (p.2.1=y)
theorem qog{α C:Type}{step:Int×C→Option (LR (Int×C) C (Int×C))}(l:List α)(d:α)(q:α→Bool)(c:C)(hl:l.length≤9223372036854775806)
  (h:∀i:Nat,i<l.length→step ((i:Int),c)=some (bif q (l.getD i d)then .ret ((i:Int),c)else .next (((i+1:Nat):Int),c))) (hd:step ((l.length:Int),c)=some (.done c)):
  bx step (0,c)=some (match kz q l with|some i=> .inr ((i:Int),c)|none=> .inl c):=by
 cases hf:kz q l with
 |none=>
  refine qdn (fun i:Nat=>((i:Int),c)) l.length (by unfold many;omega) (.inl c) (fun i hi=> ?_) hd;rw[h i hi,zw hf _ (aw d hi)];rfl
 |some k=>
  obtain⟨h1,h2,h3⟩:=zx d hf;refine qhq (fun i:Nat=>((i:Int),c)) k (by unfold many;omega) (.ret ((k:Int),c)) (.inr ((k:Int),c)) rfl (fun i hi=> ?_) ?_
  ·rw[h i (by omega),h3 i hi];rfl
  ·rw[h k h1,h2];rfl
theorem qv(x y:List Int)(h:x.length≤1000000):bp x y=some (decide (x=y)):=jct x y h
end Go.Proofs.Ytdhfhpdadbopkaa
