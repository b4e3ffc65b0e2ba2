/-
  Predict: firing, as the reference has it; keys of markings.
-/
import Derived.Test.YtokeielgplbdeaaZ3N1
set_option linter.all false
namespace Go.Proofs.Ytokeielgplbdeaa
open Go.K Go.M
theorem q9m{n:cx}{m:List Int}{T:ag}(F:FireF n m T)(hc:k6 T m=true):di n.1 (c6 T m)= !(c6 T m).any (fun k=>decide (100<k)):=by
 have hlen:=F.len;have hml:=F.ml;unfold di;rw[decide_eq_true (by omega),Bool.true_and];refine congrArg (!·) ?_;rw[Bool.eq_iff_iff,List.any_eq_true,List.any_eq_true];constructor
 ·rintro⟨k,hk,hb⟩;refine⟨k,hk,?_⟩;obtain⟨j,hj,rfl⟩:=j3 0 hk;have:=F.nn hc j (by omega);unfold qoc at hb;simp only[Bool.or_eq_true,decide_eq_true_eq]at hb;exact decide_eq_true (by omega)
 ·rintro⟨k,hk,hb⟩;exact⟨k,hk,by unfold qoc;rw[hb,Bool.or_true]⟩
theorem jbh{n:cx}{m:List Int}{t:Nat}(F:FireF n m (n.2.1.getD t ag.z))(hc:k6 (n.2.1.getD t ag.z) m=true):q7a n m t=bif di n.1 (c6 (n.2.1.getD t ag.z) m)then(0,c6 (n.2.1.getD t ag.z) m)else(5,[]):=by
 unfold q7a;rw[hc,q9m F hc,cond_true];cases(c6 (n.2.1.getD t ag.z) m).any (fun k=>decide (100<k))<;>rfl
theorem jaq{n:cx}{m:List Int}{t:Nat}(ht:t<n.2.1.length)(htl:n.2.1.length≤1000)(F:FireF n m (n.2.1.getD t ag.z)):qam n m (t:Int)=some (di n.1 (c6 (n.2.1.getD t ag.z) m),c6 (n.2.1.getD t ag.z) m):=by
 have hN:=F.N;have hml:=F.ml;have hl1:=F.l1;have hl2:=F.l2;have h0:qj9 n.1 n.2.1 n.2.2.1 n.2.2.2.1 (n.2.1.getD t ag.z).1 (n.2.1.getD t ag.z).2.1 (n.2.1.getD t ag.z).2.2.1 (0,m)=some (.inl (gc (-1) (n.2.1.getD t ag.z).2.1 m)):=by
  have e:gc (-1) (n.2.1.getD t ag.z).2.1 m=gc (-1) ((n.2.1.getD t ag.z).2.1.take (n.2.1.getD t ag.z).2.1.length) m:=by rw[List.take_length]
  rw[e];refine jh (fun i:Nat=>((i:Int),gc (-1) ((n.2.1.getD t ag.z).2.1.take i) m)) (n.2.1.getD t ag.z).2.1.length (bv (by omega)) _ (fun i hi=> ?_) ?_ _ rfl
  ·have hb:=F.i1 _ (ba 0 hi);have hq:=F.mb ((n.2.1.getD t ag.z).2.1.getD i 0).toNat (by omega);have hlen:(gc (-1) ((n.2.1.getD t ag.z).2.1.take i) m).length=m.length:=wc _ _ _;have hat:=qd5 (-1) ((n.2.1.getD t ag.z).2.1.take i) m (q7y F.s1 i) (fun p hp=>F.i1 p (List.mem_of_mem_take hp)) ((n.2.1.getD t ag.z).2.1.getD i 0).toNat;have hbd: -1≤(gc (-1) ((n.2.1.getD t ag.z).2.1.take i) m).getD ((n.2.1.getD t ag.z).2.1.getD i 0).toNat 0∧(gc (-1) ((n.2.1.getD t ag.z).2.1.take i) m).getD ((n.2.1.getD t ag.z).2.1.getD i 0).toNat 0≤100:=by
    rw[hat];split<;>omega
   rw[qxl (-1) _ i hi];simp(disch:=omega)only[tj,hlen,rs];rw[al];rfl
  ·simp(disch:=omega)only[tj,rs]
 have h1:qka n.1 n.2.1 n.2.2.1 n.2.2.2.1 (n.2.1.getD t ag.z).1 (n.2.1.getD t ag.z).2.1 (n.2.1.getD t ag.z).2.2.1 (0,gc (-1) (n.2.1.getD t ag.z).2.1 m)=some (.inl (c6 (n.2.1.getD t ag.z) m)):=by
  have e:c6 (n.2.1.getD t ag.z) m=gc 1 ((n.2.1.getD t ag.z).2.2.1.take (n.2.1.getD t ag.z).2.2.1.length) (gc (-1) (n.2.1.getD t ag.z).2.1 m):=by rw[List.take_length];rfl
  have hl0:=F.len1;rw[e];refine jh (fun i:Nat=>((i:Int),gc 1 ((n.2.1.getD t ag.z).2.2.1.take i) (gc (-1) (n.2.1.getD t ag.z).2.1 m))) (n.2.1.getD t ag.z).2.2.1.length (bv (by omega)) _ (fun i hi=> ?_) ?_ _ rfl
  ·have hb:=F.i2 _ (ba 0 hi);have hq:=F.mb ((n.2.1.getD t ag.z).2.2.1.getD i 0).toNat (by omega);have hlen:(gc 1 ((n.2.1.getD t ag.z).2.2.1.take i) (gc (-1) (n.2.1.getD t ag.z).2.1 m)).length=m.length:=(wc _ _ _).trans hl0;have hat:=qd5 1 ((n.2.1.getD t ag.z).2.2.1.take i) (gc (-1) (n.2.1.getD t ag.z).2.1 m) (q7y F.s2 i) (fun p hp=>F.i2' p (List.mem_of_mem_take hp)) ((n.2.1.getD t ag.z).2.2.1.getD i 0).toNat;have hat1:=F.at1 ((n.2.1.getD t ag.z).2.2.1.getD i 0).toNat;have hbd: -1≤(gc 1 ((n.2.1.getD t ag.z).2.2.1.take i) (gc (-1) (n.2.1.getD t ag.z).2.1 m)).getD ((n.2.1.getD t ag.z).2.2.1.getD i 0).toNat 0∧(gc 1 ((n.2.1.getD t ag.z).2.2.1.take i) (gc (-1) (n.2.1.getD t ag.z).2.1 m)).getD ((n.2.1.getD t ag.z).2.2.1.getD i 0).toNat 0≤101:=by
    rw[hat,hat1];split<;>split<;>omega
   rw[qxl 1 _ i hi];simp(disch:=omega)only[tk,hlen,rs];rw[al]
  ·simp(disch:=omega)only[tk,rs]
 have hlen:=F.len;have h2:=v7 n (c6 (n.2.1.getD t ag.z) m) (by omega);have hap:([]:List Int)++m=m:=rfl;unfold qam;simp(disch:=omega)only[hap,h0,h1,h2,rs]
theorem q8k{k:Int}(h0:0≤k)(h1:k≤255):IntKind.wrap .u8 k=k:=by
 unfold IntKind.wrap;simp[IntKind.bits,IntKind.signed];omega
theorem jo2{k:Int}(h0:0≤k)(h1:k≤255):jf3 .i64 k 8=0:=by
 have e:(2:Int) ^ min (8:Int).toNat IntKind.i64.bits=256:=by decide
 unfold jf3;rw[e,Int.fdiv_eq_ediv_of_nonneg _ (by decide)];omega
def qi2(m:List Int):List Int:=m.flatMap fun k=>[k,0]
theorem q2m:∀m:List Int,(qi2 m).length=2*m.length
 |[]=>rfl
 |k::m=>by
  show([k,0]++qi2 m).length=_;rw[List.length_append,q2m m];simp only[List.length_cons,List.length_nil];omega
theorem q9h(m:List Int)(k:Int):qi2 (m++[k])=qi2 m++[k,0]:=by simp[qi2]
theorem q2l:∀{a b:List Int},qi2 a=qi2 b→a=b
 |[],[],_=>rfl
 |[],_::_,h=>by cases h
 |_::_,[],h=>by cases h
 |x::a,y::b,h=>by
  have h:[x,0]++qi2 a=[y,0]++qi2 b:=h;simp only[List.cons_append,List.nil_append,List.cons.injEq,true_and]at h;rw[h.1,q2l h.2]
theorem jlj{m:List Int}(hl:m.length≤1000000)(hb:∀i,i<m.length→0≤m.getD i 0∧m.getD i 0≤255):vm m=some (strOfNums (qi2 m)):=by
 have hL:qrd m (m.length:Int) (0,[])=some (.inl (qi2 m)):=by
  have e:qi2 m=qi2 (m.take m.length):=by rw[List.take_length]
  rw[e];refine jh (fun i:Nat=>((i:Int),qi2 (m.take i))) m.length (bv (by omega)) _ (fun i hi=> ?_) ?_ _ rfl
  ·have hlen:=q2m (m.take i);rw[List.length_take]at hlen;have:=hb i hi;have ew:=q8k this.1 this.2;have es:=jo2 this.1 this.2;have e0:=q8k (Int.le_refl 0) (show(0:Int)≤255 by decide);rw[cq m i 0 hi,q9h];have e8:decide ((0:Int)≤8)=true:=rfl;simp(disch:=omega)only[ym,ew,es,e0,e8,ja4,rs];rw[al]
  ·simp(disch:=omega)only[ym,List.take_length,rs]
 unfold vm;simp(disch:=omega)only[hL,rs]
theorem jch{a b:List Int}(ha:∀x∈a,0≤x∧x≤255)(hb:∀x∈b,0≤x∧x≤255)(h:strOfNums a=strOfNums b):a=b:=by
 have h1:a.map (fun n=>UInt8.ofNat n.toNat)=b.map fun n=>UInt8.ofNat n.toNat:=by rw[←strOfNums_data,←strOfNums_data,h]
 clear h
 induction a generalizing b with
 |nil=>cases b with
  |nil=>rfl
  |cons y b=>cases h1
 |cons x a ih=>
  cases b with
  |nil=>cases h1
  |cons y b=>
   simp only[List.map_cons,List.cons.injEq]at h1;have hx:=ha x List.mem_cons_self;have hy:=hb y List.mem_cons_self;have e:=congrArg UInt8.toNat h1.1;rw[UInt8.toNat_ofNat',UInt8.toNat_ofNat']at e;rw[ih (fun z hz=>ha z (List.mem_cons_of_mem _ hz)) (fun z hz=>hb z (List.mem_cons_of_mem _ hz)) h1.2];have:x=y:=by omega
   rw[this]
theorem qkt{N:Int}{m:List Int}(h:di N m=true):∀x∈m,0≤x∧x≤255:=fun x hx=>by
 obtain⟨i,hi,rfl⟩:=j3 0 hx;have:=(rb.1 h).2 i hi;omega
theorem qtw{m:List Int}(h:∀x∈m,0≤x∧x≤255):∀x∈qi2 m,0≤x∧x≤255:=fun x hx=>by
 obtain⟨k,hk,hx⟩:=List.mem_flatMap.1 hx;simp only[List.mem_cons,List.not_mem_nil,or_false]at hx;rcases hx with rfl|rfl
 ·exact h _ hk
 ·omega
def qmm(m:List Int):ByteArray:=strOfNums (qi2 m)
theorem jbz{N:Int}{a b:List Int}(ha:di N a=true)(hb:di N b=true)(h:qmm a=qmm b):a=b:=
 q2l (jch (qtw (qkt ha)) (qtw (qkt hb)) h)
theorem qsp{N:Int}{m:List Int}(hN:N≤1000)(h:di N m=true):vm m=some (qmm m):=by
 have:=(rb.1 h).1;exact jlj (by omega) fun i hi=>qkt h _ (ba 0 hi)
end Go.Proofs.Ytokeielgplbdeaa
