/-
  Migrate: keys of markings and pairs; sets of pairs.
-/
import Derived.Test.YtdhfhpdadbopkaaGreatZ3M1
set_option linter.all false
namespace Go.Proofs.YtdhfhpdadbopkaaGreat
open Go.K Go.M
abbrev Pr:Type:=ab
abbrev Stp:Type:=ag
abbrev Mp:Type:=List (ByteArray×Bool)
theorem jj2{a b:Int}(ha:0≤a∧a<65536)(hb:0≤b∧b<65536)(h:by2 a=by2 b):a=b:=by
 unfold by2 at h;simp only[List.cons.injEq,and_true]at h;obtain⟨h1,h2⟩:=h;have h1:=congrArg UInt8.toNat h1;have h2:=congrArg UInt8.toNat h2;rw[UInt8.toNat_ofNat',UInt8.toNat_ofNat']at h1 h2;omega
def Low(l:List Int):Prop:=∀x∈l,0≤x∧x<65536
theorem qrj:∀{a b:List Int},Low a→Low b→ya a=ya b→a=b
 |[],[],_,_,_=>rfl
 |[],y::b,_,_,h=>by
  have:=congrArg List.length h;rw[va,va]at this;simp at this
 |x::a,[],_,_,h=>by
  have:=congrArg List.length h;rw[va,va]at this;simp at this
 |x::a,y::b,ha,hb,h=>by
  have h' :by2 x++ya a=by2 y++ya b:=h;obtain⟨h1,h2⟩:=List.append_inj h' rfl;have e1:=jj2 (ha x List.mem_cons_self) (hb y List.mem_cons_self) h1;have e2:=qrj (fun z hz=>ha z (List.mem_cons_of_mem _ hz)) (fun z hz=>hb z (List.mem_cons_of_mem _ hz)) h2;rw[e1,e2]
theorem q0o(l:List Int)(h:l.length≤1000000):ir l=some ⟨(ya l).toArray⟩:=if_pos h
def qdd(l:List Int):ByteArray:=⟨(ya l).toArray⟩
theorem jab{a b:List Int}(ha:Low a)(hb:Low b)(h:qdd a=qdd b):a=b:=by
 refine qrj ha hb ?_;have:=congrArg (fun x=>x.data.toList) h;simpa[qdd]using this
def jio(x y:List Int):List UInt8:=ya x++124::ya y
def rc(x y:List Int):ByteArray:=⟨(jio x y).toArray⟩
theorem qzo(x y:List Int)(hx:x.length≤1000)(hy:y.length≤1000):jl x y=some (rc x y):=by
 have s1:ByteArray.size ⟨(ya x).toArray⟩=2*x.length:=(va x);have s2:ByteArray.size ⟨(ya y).toArray⟩=2*y.length:=(va y);have s3:ByteArray.size ⟨#[124]⟩=1:=rfl;have s4:ByteArray.size (⟨(ya x).toArray⟩++⟨#[124]⟩)=2*x.length+1:=by rw[ByteArray.size_append,s1,s3]
 have c1:decide (((ByteArray.size ⟨(ya x).toArray⟩+ByteArray.size ⟨#[124]⟩:Nat):Int)≤9223372036854775807)=true:=decide_eq_true (by rw[s1,s3];omega);have c2:decide (((ByteArray.size (⟨(ya x).toArray⟩++⟨#[124]⟩)+ByteArray.size ⟨(ya y).toArray⟩:Nat):Int)≤9223372036854775807)=true:=decide_eq_true (by rw[s4,s2];omega);unfold jl;rw[q0o x (by omega),ah,qx c1,q0o y (by omega),ah,qx c2];refine congrArg some (ByteArray.ext ?_);rw[ByteArray.data_append,ByteArray.data_append];show(ya x).toArray++ #[124]++(ya y).toArray=(ya x++124::ya y).toArray;simp
theorem q5x{x y x' y' :List Int}(hl:x.length=x'.length)(h1:Low x)(h2:Low x')(h3:Low y)(h4:Low y')(h:rc x y=rc x' y'):x=x' ∧y=y' :=by
 have h' :jio x y=jio x' y' :=by
  have:=congrArg (fun x=>x.data.toList) h;simpa[rc]using this
 obtain⟨a,b⟩:=List.append_inj h' (by rw[va,va,hl]);exact⟨qrj h1 h2 a,qrj h3 h4 (List.cons.inj b).2⟩
theorem ru{N:Int}{m:List Int}(h:bq N m=true):Low m:=fun x hx=>by
 obtain⟨i,hi,rfl⟩:=ov 0 hx;have:=(qdp.1 h).2 i hi;omega
theorem b7{N:Int}{m:List Int}(h:bq N m=true):(m.length:Int)=N:=(qdp.1 h).1
def Tab(a b:Int)(S:Mp)(f:List Int→List Int→Bool):Prop:=∀x y,bq a x=true→bq b y=true→(ls .str (rc x y) S).getD false=f x y
theorem jjl(a b:Int):Tab a b [] fun _ _=>false:=fun _ _ _ _=>rfl
theorem jjm{a b:Int}{S:Mp}{f:List Int→List Int→Bool}(h:Tab a b S f){x0 y0:List Int}(hx:bq a x0=true)(hy:bq b y0=true):
  Tab a b (tf .str (rc x0 y0) true S) fun x y=>(decide (x0=x)&&decide (y0=y))||f x y:=fun x y h1 h2=>by
 rw[qne];have l1:=b7 hx;have l2:=b7 h1;by_cases e:x0=x∧y0=y
 ·obtain⟨rfl,rfl⟩:=e;rw[qa6];simp
 ·have hn:ge (rc x y) (rc x0 y0)=false:=by
   cases hq:ge (rc x y) (rc x0 y0)with
   |false=>rfl
   |true=>
    obtain⟨e1,e2⟩:=q5x (by omega) (ru h1) (ru hx) (ru h2) (ru hy) (mi.1 hq);exact absurd ⟨e1.symm,e2.symm⟩ e
  rw[hn,cond_false,h x y h1 h2];have:(decide (x0=x)&&decide (y0=y))=false:=by
   rw[Bool.and_eq_false_iff,decide_eq_false_iff_not,decide_eq_false_iff_not];by_cases e1:x0=x
   ·exact .inr fun e2=>e ⟨e1,e2⟩
   ·exact .inl e1
  show f x y=((decide (x0=x)&&decide (y0=y))||f x y);rw[this];rfl
def n8(l:List Pr)(x y:List Int):Bool:=l.any fun p=>decide (p.1=x)&&decide (p.2.1=y)
theorem qpx{α C:Type}{step:Int×C→Option (LR (Int×C) C (Int×C))}(l:List α)(d:α)(q:α→Bool)(c:C)(hl:l.length≤9223372036854775806)
  (h:∀i:Nat,i<l.length→step ((i:Int),c)=some (bif q (l.getD i d)then .ret ((i:Int),c)else .next (((i+1:Nat):Int),c))) (hd:step ((l.length:Int),c)=some (.done c)):
  bp step (0,c)=some (match nj q l with|some i=> .inr ((i:Int),c)|none=> .inl c):=by
 cases hf:nj q l with
 |none=>
  refine qd4 (fun i:Nat=>((i:Int),c)) l.length (by unfold many;omega) (.inl c) (fun i hi=> ?_) hd;rw[h i hi,qdm hf _ (au d hi)];rfl
 |some k=>
  obtain⟨h1,h2,h3⟩:=qdn d hf;refine qif (fun i:Nat=>((i:Int),c)) k (by unfold many;omega) (.ret ((k:Int),c)) (.inr ((k:Int),c)) rfl (fun i hi=> ?_) ?_
  ·rw[h i (by omega),h3 i hi];rfl
  ·rw[h k h1,h2];rfl
theorem sx(x y:List Int)(h:x.length≤1000000):bz x y=some (decide (x=y)):=jgw x y h
end Go.Proofs.YtdhfhpdadbopkaaGreat
