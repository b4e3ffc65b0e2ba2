/-
  Predict: firing, as the reference has it; keys of markings.
-/
import Derived.Test.YtokeielgplbdeaaZ7N1
set_option linter.all false
namespace Go.Proofs.Ytokeielgplbdeaa
open Go.K Go.M
theorem q8u{n:cz}{m:List Int}{T:ag}(F:FireF n m T)(hc:k7 T m=true):df n.1 (c7 T m)= !(c7 T m).any (fun k=>decide (100<k)):=by
 have hlen:=F.len;have hml:=F.ml;unfold df;rw[decide_eq_true (by omega),Bool.true_and];refine congrArg (!·) ?_;rw[Bool.eq_iff_iff,List.any_eq_true,List.any_eq_true];constructor
 ·rintro⟨k,hk,hb⟩;refine⟨k,hk,?_⟩;obtain⟨j,hj,rfl⟩:=j7 0 hk;have:=F.nn hc j (by omega);unfold qnb at hb;simp only[Bool.or_eq_true,decide_eq_true_eq]at hb;exact decide_eq_true (by omega)
 ·rintro⟨k,hk,hb⟩;exact⟨k,hk,by unfold qnb;rw[hb,Bool.or_true]⟩
theorem jar{n:cz}{m:List Int}{t:Nat}(F:FireF n m (n.2.1.getD t ag.z))(hc:k7 (n.2.1.getD t ag.z) m=true):q6i n m t=bif df n.1 (c7 (n.2.1.getD t ag.z) m)then(0,c7 (n.2.1.getD t ag.z) m)else(5,[]):=by
 unfold q6i;rw[hc,q8u F hc,cond_true];cases(c7 (n.2.1.getD t ag.z) m).any (fun k=>decide (100<k))<;>rfl
theorem q90{n:cz}{m:List Int}{t:Nat}(ht:t<n.2.1.length)(htl:n.2.1.length≤1000)(F:FireF n m (n.2.1.getD t ag.z)):qaf n m (t:Int)=some (df n.1 (c7 (n.2.1.getD t ag.z) m),c7 (n.2.1.getD t ag.z) m):=by
 have hN:=F.N;have hml:=F.ml;have hl1:=F.l1;have hl2:=F.l2;have h0:qjl n.1 n.2.1 n.2.2.1 n.2.2.2.1 (n.2.1.getD t ag.z).1 (n.2.1.getD t ag.z).2.1 (n.2.1.getD t ag.z).2.2.1 (0,m)=some (.inl (ge (-1) (n.2.1.getD t ag.z).2.1 m)):=by
  have e:ge (-1) (n.2.1.getD t ag.z).2.1 m=ge (-1) ((n.2.1.getD t ag.z).2.1.take (n.2.1.getD t ag.z).2.1.length) m:=by rw[List.take_length]
  rw[e];refine jl (fun i:Nat=>((i:Int),ge (-1) ((n.2.1.getD t ag.z).2.1.take i) m)) (n.2.1.getD t ag.z).2.1.length (bv (by omega)) _ (fun i hi=> ?_) ?_ _ rfl
  ·have hb:=F.i1 _ (ba 0 hi);have hq:=F.mb ((n.2.1.getD t ag.z).2.1.getD i 0).toNat (by omega);have hlen:(ge (-1) ((n.2.1.getD t ag.z).2.1.take i) m).length=m.length:=v5 _ _ _;have hat:=qdj (-1) ((n.2.1.getD t ag.z).2.1.take i) m (q66 F.s1 i) (fun p hp=>F.i1 p (List.mem_of_mem_take hp)) ((n.2.1.getD t ag.z).2.1.getD i 0).toNat;have hbd: -1≤(ge (-1) ((n.2.1.getD t ag.z).2.1.take i) m).getD ((n.2.1.getD t ag.z).2.1.getD i 0).toNat 0∧(ge (-1) ((n.2.1.getD t ag.z).2.1.take i) m).getD ((n.2.1.getD t ag.z).2.1.getD i 0).toNat 0≤100:=by
    rw[hat];split<;>omega
   rw[qwp (-1) _ i hi];simp(disch:=omega)only[td,hlen,rs];rw[al];rfl
  ·simp(disch:=omega)only[td,rs]
 have h1:qjm n.1 n.2.1 n.2.2.1 n.2.2.2.1 (n.2.1.getD t ag.z).1 (n.2.1.getD t ag.z).2.1 (n.2.1.getD t ag.z).2.2.1 (0,ge (-1) (n.2.1.getD t ag.z).2.1 m)=some (.inl (c7 (n.2.1.getD t ag.z) m)):=by
  have e:c7 (n.2.1.getD t ag.z) m=ge 1 ((n.2.1.getD t ag.z).2.2.1.take (n.2.1.getD t ag.z).2.2.1.length) (ge (-1) (n.2.1.getD t ag.z).2.1 m):=by rw[List.take_length];rfl
  have hl0:=F.len1;rw[e];refine jl (fun i:Nat=>((i:Int),ge 1 ((n.2.1.getD t ag.z).2.2.1.take i) (ge (-1) (n.2.1.getD t ag.z).2.1 m))) (n.2.1.getD t ag.z).2.2.1.length (bv (by omega)) _ (fun i hi=> ?_) ?_ _ rfl
  ·have hb:=F.i2 _ (ba 0 hi);have hq:=F.mb ((n.2.1.getD t ag.z).2.2.1.getD i 0).toNat (by omega);have hlen:(ge 1 ((n.2.1.getD t ag.z).2.2.1.take i) (ge (-1) (n.2.1.getD t ag.z).2.1 m)).length=m.length:=(v5 _ _ _).trans hl0;have hat:=qdj 1 ((n.2.1.getD t ag.z).2.2.1.take i) (ge (-1) (n.2.1.getD t ag.z).2.1 m) (q66 F.s2 i) (fun p hp=>F.i2' p (List.mem_of_mem_take hp)) ((n.2.1.getD t ag.z).2.2.1.getD i 0).toNat;have hat1:=F.at1 ((n.2.1.getD t ag.z).2.2.1.getD i 0).toNat;have hbd: -1≤(ge 1 ((n.2.1.getD t ag.z).2.2.1.take i) (ge (-1) (n.2.1.getD t ag.z).2.1 m)).getD ((n.2.1.getD t ag.z).2.2.1.getD i 0).toNat 0∧(ge 1 ((n.2.1.getD t ag.z).2.2.1.take i) (ge (-1) (n.2.1.getD t ag.z).2.1 m)).getD ((n.2.1.getD t ag.z).2.2.1.getD i 0).toNat 0≤101:=by
    rw[hat,hat1];split<;>split<;>omega
   rw[qwp 1 _ i hi];simp(disch:=omega)only[te,hlen,rs];rw[al]
  ·simp(disch:=omega)only[te,rs]
 have hlen:=F.len;have h2:=ql n (c7 (n.2.1.getD t ag.z) m) (by omega);have hap:([]:List Int)++m=m:=rfl;unfold qaf;simp(disch:=omega)only[hap,h0,h1,h2,rs]
theorem q7r{k:Int}(h0:0≤k)(h1:k≤255):IntKind.wrap .u8 k=k:=by
 unfold IntKind.wrap;simp[IntKind.bits,IntKind.signed];omega
theorem jn8{k:Int}(h0:0≤k)(h1:k≤255):qo2 .i64 k 8=0:=by
 have e:(2:Int) ^ min (8:Int).toNat IntKind.i64.bits=256:=by decide
 unfold qo2;rw[e,Int.fdiv_eq_ediv_of_nonneg _ (by decide)];omega
def qid(m:List Int):List Int:=m.flatMap fun k=>[k,0]
theorem q1u:∀m:List Int,(qid m).length=2*m.length
 |[]=>rfl
 |k::m=>by
  show([k,0]++qid m).length=_;rw[List.length_append,q1u m];simp only[List.length_cons,List.length_nil];omega
theorem q8o(m:List Int)(k:Int):qid (m++[k])=qid m++[k,0]:=by simp[qid]
theorem q1t:∀{a b:List Int},qid a=qid b→a=b
 |[],[],_=>rfl
 |[],_::_,h=>by cases h
 |_::_,[],h=>by cases h
 |x::a,y::b,h=>by
  have h:[x,0]++qid a=[y,0]++qid b:=h;simp only[List.cons_append,List.nil_append,List.cons.injEq,true_and]at h;rw[h.1,q1t h.2]
theorem jkq{m:List Int}(hl:m.length≤1000000)(hb:∀i,i<m.length→0≤m.getD i 0∧m.getD i 0≤255):vb m=some (strOfNums (qid m)):=by
 have hL:qqa m (m.length:Int) (0,[])=some (.inl (qid m)):=by
  have e:qid m=qid (m.take m.length):=by rw[List.take_length]
  rw[e];refine jl (fun i:Nat=>((i:Int),qid (m.take i))) m.length (bv (by omega)) _ (fun i hi=> ?_) ?_ _ rfl
  ·have hlen:=q1u (m.take i);rw[List.length_take]at hlen;have:=hb i hi;have ew:=q7r this.1 this.2;have es:=jn8 this.1 this.2;have e0:=q7r (Int.le_refl 0) (show(0:Int)≤255 by decide);rw[cq m i 0 hi,q8o];have e8:decide ((0:Int)≤8)=true:=rfl;simp(disch:=omega)only[yk,ew,es,e0,e8,jae,rs];rw[al]
  ·simp(disch:=omega)only[yk,List.take_length,rs]
 unfold vb;simp(disch:=omega)only[hL,rs]
theorem jbq{a b:List Int}(ha:∀x∈a,0≤x∧x≤255)(hb:∀x∈b,0≤x∧x≤255)(h:strOfNums a=strOfNums b):a=b:=by
 have h1:a.map (fun n=>UInt8.ofNat n.toNat)=b.map fun n=>UInt8.ofNat n.toNat:=by rw[←strOfNums_data,←strOfNums_data,h]
 clear h
 induction a generalizing b with
 |nil=>cases b with
  |nil=>rfl
  |cons y b=>cases h1
 |cons x a ih=>
  cases b with
  |nil=>cases h1
  |cons y b=>
   simp only[List.map_cons,List.cons.injEq]at h1;have hx:=ha x List.mem_cons_self;have hy:=hb y List.mem_cons_self;have e:=congrArg UInt8.toNat h1.1;rw[UInt8.toNat_ofNat',UInt8.toNat_ofNat']at e;rw[ih (fun z hz=>ha z (List.mem_cons_of_mem _ hz)) (fun z hz=>hb z (List.mem_cons_of_mem _ hz)) h1.2];have:x=y:=by omega
   rw[this]
theorem qj4{N:Int}{m:List Int}(h:df N m=true):∀x∈m,0≤x∧x≤255:=fun x hx=>by
 obtain⟨i,hi,rfl⟩:=j7 0 hx;have:=(rf.1 h).2 i hi;omega
theorem qsx{m:List Int}(h:∀x∈m,0≤x∧x≤255):∀x∈qid m,0≤x∧x≤255:=fun x hx=>by
 obtain⟨k,hk,hx⟩:=List.mem_flatMap.1 hx;simp only[List.mem_cons,List.not_mem_nil,or_false]at hx;rcases hx with rfl|rfl
 ·exact h _ hk
 ·omega
def qlo(m:List Int):ByteArray:=strOfNums (qid m)
theorem ja9{N:Int}{a b:List Int}(ha:df N a=true)(hb:df N b=true)(h:qlo a=qlo b):a=b:=
 q1t (jbq (qsx (qj4 ha)) (qsx (qj4 hb)) h)
theorem qrn{N:Int}{m:List Int}(hN:N≤1000)(h:df N m=true):vb m=some (qlo m):=by
 have:=(rf.1 h).1;exact jkq (by omega) fun i hi=>qj4 h _ (ba 0 hi)
end Go.Proofs.Ytokeielgplbdeaa
