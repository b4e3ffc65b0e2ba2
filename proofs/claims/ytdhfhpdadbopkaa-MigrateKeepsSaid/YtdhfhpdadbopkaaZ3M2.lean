/-
  Migrate: keys of markings and pairs; sets of pairs.
-/
import Derived.Test.YtdhfhpdadbopkaaZ3M1
set_option linter.all false
namespace Go.Proofs.Ytdhfhpdadbopkaa
open Go.K Go.M
abbrev Pr:Type:=ab
abbrev Stp:Type:=ag
abbrev Mp:Type:=List (ByteArray×Bool)
theorem jc0{a b:Int}(ha:0≤a∧a<65536)(hb:0≤b∧b<65536)(h:by2 a=by2 b):a=b:=by
 unfold by2 at h;simp only[List.cons.injEq,and_true]at h;obtain⟨h1,h2⟩:=h;have h1:=congrArg UInt8.toNat h1;have h2:=congrArg UInt8.toNat h2;rw[UInt8.toNat_ofNat',UInt8.toNat_ofNat']at h1 h2;omega
def Low(l:List Int):Prop:=∀x∈l,0≤x∧x<65536
theorem qvv:∀{a b:List Int},Low a→Low b→v6 a=v6 b→a=b
 |[],[],_,_,_=>rfl
 |[],y::b,_,_,h=>by
  have:=congrArg List.length h;rw[s7,s7]at this;simp at this
 |x::a,[],_,_,h=>by
  have:=congrArg List.length h;rw[s7,s7]at this;simp at this
 |x::a,y::b,ha,hb,h=>by
  have h' :by2 x++v6 a=by2 y++v6 b:=h;obtain⟨h1,h2⟩:=List.append_inj h' rfl;have e1:=jc0 (ha x List.mem_cons_self) (hb y List.mem_cons_self) h1;have e2:=qvv (fun z hz=>ha z (List.mem_cons_of_mem _ hz)) (fun z hz=>hb z (List.mem_cons_of_mem _ hz)) h2;rw[e1,e2]
theorem jaz(l:List Int)(h:l.length≤1000000):l6 l=some ⟨(v6 l).toArray⟩:=if_pos h
def jbi(x y:List Int):List UInt8:=v6 x++124::v6 y
def qhr(x y:List Int):ByteArray:=⟨(jbi x y).toArray⟩
theorem q7h(x y:List Int)(hx:x.length≤1000)(hy:y.length≤1000):l7 x y=some (qhr x y):=by
 have s1:ByteArray.size ⟨(v6 x).toArray⟩=2*x.length:=(s7 x);have s2:ByteArray.size ⟨(v6 y).toArray⟩=2*y.length:=(s7 y);have s3:ByteArray.size ⟨#[124]⟩=1:=rfl;have s4:ByteArray.size (⟨(v6 x).toArray⟩++⟨#[124]⟩)=2*x.length+1:=by rw[ByteArray.size_append,s1,s3]
 have c1:decide (((ByteArray.size ⟨(v6 x).toArray⟩+ByteArray.size ⟨#[124]⟩:Nat):Int)≤9223372036854775807)=true:=decide_eq_true (by rw[s1,s3];omega);have c2:decide (((ByteArray.size (⟨(v6 x).toArray⟩++⟨#[124]⟩)+ByteArray.size ⟨(v6 y).toArray⟩:Nat):Int)≤9223372036854775807)=true:=decide_eq_true (by rw[s4,s2];omega);unfold l7;rw[jaz x (by omega),al,qdk c1,jaz y (by omega),al,qdk c2];refine congrArg some (ByteArray.ext ?_);rw[ByteArray.data_append,ByteArray.data_append];show(v6 x).toArray++ #[124]++(v6 y).toArray=(v6 x++124::v6 y).toArray;simp
theorem q85{x y x' y' :List Int}(hl:x.length=x'.length)(h1:Low x)(h2:Low x')(h3:Low y)(h4:Low y')(h:qhr x y=qhr x' y'):x=x' ∧y=y' :=by
 have h' :jbi x y=jbi x' y' :=by
  have:=congrArg (fun x=>x.data.toList) h;simpa[qhr]using this
 obtain⟨a,b⟩:=List.append_inj h' (by rw[s7,s7,hl]);exact⟨qvv h1 h2 a,qvv h3 h4 (List.cons.inj b).2⟩
theorem qoq{N:Int}{m:List Int}(h:c7 N m=true):Low m:=fun x hx=>by
 obtain⟨i,hi,rfl⟩:=qi 0 hx;have:=(qb6.1 h).2 i hi;omega
theorem jh{N:Int}{m:List Int}(h:c7 N m=true):(m.length:Int)=N:=(qb6.1 h).1
def Tab(a b:Int)(S:Mp)(f:List Int→List Int→Bool):Prop:=∀x y,c7 a x=true→c7 b y=true→(s8 .str (qhr x y) S).getD false=f x y
theorem jci(a b:Int):Tab a b [] fun _ _=>false:=fun _ _ _ _=>rfl
theorem jcj{a b:Int}{S:Mp}{f:List Int→List Int→Bool}(h:Tab a b S f){x0 y0:List Int}(hx:c7 a x0=true)(hy:c7 b y0=true):
  Tab a b (qef .str (qhr x0 y0) true S) fun x y=>(decide (x0=x)&&decide (y0=y))||f x y:=fun x y h1 h2=>by
 rw[qzz];have l1:=jh hx;have l2:=jh h1;by_cases e:x0=x∧y0=y
 ·obtain⟨rfl,rfl⟩:=e;rw[qxw];simp
 ·have hn:qas (qhr x y) (qhr x0 y0)=false:=by
   cases hq:qas (qhr x y) (qhr x0 y0)with
   |false=>rfl
   |true=>
    obtain⟨e1,e2⟩:=q85 (by omega) (qoq h1) (qoq hx) (qoq h2) (qoq hy) (qga.1 hq);exact absurd ⟨e1.symm,e2.symm⟩ e
  rw[hn,cond_false,h x y h1 h2];have:(decide (x0=x)&&decide (y0=y))=false:=by
   rw[Bool.and_eq_false_iff,decide_eq_false_iff_not,decide_eq_false_iff_not];by_cases e1:x0=x
   ·exact .inr fun e2=>e ⟨e1,e2⟩
   ·exact .inl e1
  show f x y=((decide (x0=x)&&decide (y0=y))||f x y);rw[this];rfl
def inB(l:List Pr)(x y:List Int):Bool:=l.any fun p=>decide (p.1=x)&&decide (p.2.1=y)
theorem qv4{α C:Type}{step:Int×C→Option (LR (Int×C) C (Int×C))}(l:List α)(d:α)(q:α→Bool)(c:C)(hl:l.length≤9223372036854775806)
  (h:∀i:Nat,i<l.length→step ((i:Int),c)=some (bif q (l.getD i d)then .ret ((i:Int),c)else .next (((i+1:Nat):Int),c))) (hd:step ((l.length:Int),c)=some (.done c)):
  bi step (0,c)=some (match og q l with|some i=> .inr ((i:Int),c)|none=> .inl c):=by
 cases hf:og q l with
 |none=>
  refine qck (fun i:Nat=>((i:Int),c)) l.length (by unfold many;omega) (.inl c) (fun i hi=> ?_) hd;rw[h i hi,qqd hf _ (ba d hi)];rfl
 |some k=>
  obtain⟨h1,h2,h3⟩:=qqe d hf;refine qmx (fun i:Nat=>((i:Int),c)) k (by unfold many;omega) (.ret ((k:Int),c)) (.inr ((k:Int),c)) rfl (fun i hi=> ?_) ?_
  ·rw[h i (by omega),h3 i hi];rfl
  ·rw[h k h1,h2];rfl
theorem qx(x y:List Int)(h:x.length≤1000000):az x y=some (decide (x=y)):=q9r x y h
end Go.Proofs.Ytdhfhpdadbopkaa
