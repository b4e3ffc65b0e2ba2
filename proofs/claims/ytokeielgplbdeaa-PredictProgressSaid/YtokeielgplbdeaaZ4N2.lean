/-
  Predict: firing, as the reference has it; keys of markings.
-/
import Derived.Test.YtokeielgplbdeaaZ4N1
set_option linter.all false
namespace Go.Proofs.Ytokeielgplbdeaa
open Go.K Go.M
theorem q40{n:c8}{m:List Int}{T:ai}(F:FireF n m T)(hc:jl T m=true):de n.1 (ce T m)= !(ce T m).any (fun k=>decide (100<k)):=by
 have hlen:=F.len;have hml:=F.ml;unfold de;rw[decide_eq_true (by omega),Bool.true_and];refine congrArg (!·) ?_;rw[Bool.eq_iff_iff,List.any_eq_true,List.any_eq_true];constructor
 ·rintro⟨k,hk,hb⟩;refine⟨k,hk,?_⟩;obtain⟨j,hj,rfl⟩:=i5 0 hk;have:=F.nn hc j (by omega);unfold ql4 at hb;simp only[Bool.or_eq_true,decide_eq_true_eq]at hb;exact decide_eq_true (by omega)
 ·rintro⟨k,hk,hb⟩;exact⟨k,hk,by unfold ql4;rw[hb,Bool.or_true]⟩
theorem qxx{n:c8}{m:List Int}{t:Nat}(F:FireF n m (n.2.1.getD t ai.z))(hc:jl (n.2.1.getD t ai.z) m=true):q2s n m t=bif de n.1 (ce (n.2.1.getD t ai.z) m)then(0,ce (n.2.1.getD t ai.z) m)else(5,[]):=by
 unfold q2s;rw[hc,q40 F hc,cond_true];cases(ce (n.2.1.getD t ai.z) m).any (fun k=>decide (100<k))<;>rfl
theorem q54{n:c8}{m:List Int}{t:Nat}(ht:t<n.2.1.length)(htl:n.2.1.length≤1000)(F:FireF n m (n.2.1.getD t ai.z)):qhe n m (t:Int)=some (de n.1 (ce (n.2.1.getD t ai.z) m),ce (n.2.1.getD t ai.z) m):=by
 have hN:=F.N;have hml:=F.ml;have hl1:=F.l1;have hl2:=F.l2;have h0:qi1 n.1 n.2.1 n.2.2.1 n.2.2.2.1 (n.2.1.getD t ai.z).1 (n.2.1.getD t ai.z).2.1 (n.2.1.getD t ai.z).2.2.1 (0,m)=some (.inl (gh (-1) (n.2.1.getD t ai.z).2.1 m)):=by
  have e:gh (-1) (n.2.1.getD t ai.z).2.1 m=gh (-1) ((n.2.1.getD t ai.z).2.1.take (n.2.1.getD t ai.z).2.1.length) m:=by rw[List.take_length]
  rw[e];refine iz (fun i:Nat=>((i:Int),gh (-1) ((n.2.1.getD t ai.z).2.1.take i) m)) (n.2.1.getD t ai.z).2.1.length (bh (by omega)) _ (fun i hi=> ?_) ?_ _ rfl
  ·have hb:=F.i1 _ (aw 0 hi);have hq:=F.mb ((n.2.1.getD t ai.z).2.1.getD i 0).toNat (by omega);have hlen:(gh (-1) ((n.2.1.getD t ai.z).2.1.take i) m).length=m.length:=wl _ _ _;have hat:=qdt (-1) ((n.2.1.getD t ai.z).2.1.take i) m (q3g F.s1 i) (fun p hp=>F.i1 p (List.mem_of_mem_take hp)) ((n.2.1.getD t ai.z).2.1.getD i 0).toNat;have hbd: -1≤(gh (-1) ((n.2.1.getD t ai.z).2.1.take i) m).getD ((n.2.1.getD t ai.z).2.1.getD i 0).toNat 0∧(gh (-1) ((n.2.1.getD t ai.z).2.1.take i) m).getD ((n.2.1.getD t ai.z).2.1.getD i 0).toNat 0≤100:=by
    rw[hat];split<;>omega
   rw[qte (-1) _ i hi];simp(disch:=omega)only[zm,hlen,rs];rw[aj];rfl
  ·simp(disch:=omega)only[zm,rs]
 have h1:qi2 n.1 n.2.1 n.2.2.1 n.2.2.2.1 (n.2.1.getD t ai.z).1 (n.2.1.getD t ai.z).2.1 (n.2.1.getD t ai.z).2.2.1 (0,gh (-1) (n.2.1.getD t ai.z).2.1 m)=some (.inl (ce (n.2.1.getD t ai.z) m)):=by
  have e:ce (n.2.1.getD t ai.z) m=gh 1 ((n.2.1.getD t ai.z).2.2.1.take (n.2.1.getD t ai.z).2.2.1.length) (gh (-1) (n.2.1.getD t ai.z).2.1 m):=by rw[List.take_length];rfl
  have hl0:=F.len1;rw[e];refine iz (fun i:Nat=>((i:Int),gh 1 ((n.2.1.getD t ai.z).2.2.1.take i) (gh (-1) (n.2.1.getD t ai.z).2.1 m))) (n.2.1.getD t ai.z).2.2.1.length (bh (by omega)) _ (fun i hi=> ?_) ?_ _ rfl
  ·have hb:=F.i2 _ (aw 0 hi);have hq:=F.mb ((n.2.1.getD t ai.z).2.2.1.getD i 0).toNat (by omega);have hlen:(gh 1 ((n.2.1.getD t ai.z).2.2.1.take i) (gh (-1) (n.2.1.getD t ai.z).2.1 m)).length=m.length:=(wl _ _ _).trans hl0;have hat:=qdt 1 ((n.2.1.getD t ai.z).2.2.1.take i) (gh (-1) (n.2.1.getD t ai.z).2.1 m) (q3g F.s2 i) (fun p hp=>F.i2' p (List.mem_of_mem_take hp)) ((n.2.1.getD t ai.z).2.2.1.getD i 0).toNat;have hat1:=F.at1 ((n.2.1.getD t ai.z).2.2.1.getD i 0).toNat;have hbd: -1≤(gh 1 ((n.2.1.getD t ai.z).2.2.1.take i) (gh (-1) (n.2.1.getD t ai.z).2.1 m)).getD ((n.2.1.getD t ai.z).2.2.1.getD i 0).toNat 0∧(gh 1 ((n.2.1.getD t ai.z).2.2.1.take i) (gh (-1) (n.2.1.getD t ai.z).2.1 m)).getD ((n.2.1.getD t ai.z).2.2.1.getD i 0).toNat 0≤101:=by
    rw[hat,hat1];split<;>split<;>omega
   rw[qte 1 _ i hi];simp(disch:=omega)only[zn,hlen,rs];rw[aj]
  ·simp(disch:=omega)only[zn,rs]
 have hlen:=F.len;have h2:=wc n (ce (n.2.1.getD t ai.z) m) (by omega);have hap:([]:List Int)++m=m:=rfl;unfold qhe;simp(disch:=omega)only[hap,h0,h1,h2,rs]
theorem q31{k:Int}(h0:0≤k)(h1:k≤255):IntKind.wrap .u8 k=k:=by
 unfold IntKind.wrap;simp[IntKind.bits,IntKind.signed];omega
theorem jkr{k:Int}(h0:0≤k)(h1:k≤255):jbm .i64 k 8=0:=by
 have e:(2:Int) ^ min (8:Int).toNat IntKind.i64.bits=256:=by decide
 unfold jbm;rw[e,Int.fdiv_eq_ediv_of_nonneg _ (by decide)];omega
def qh9(m:List Int):List Int:=m.flatMap fun k=>[k,0]
theorem qx7:∀m:List Int,(qh9 m).length=2*m.length
 |[]=>rfl
 |k::m=>by
  show([k,0]++qh9 m).length=_;rw[List.length_append,qx7 m];simp only[List.length_cons,List.length_nil];omega
theorem q4v(m:List Int)(k:Int):qh9 (m++[k])=qh9 m++[k,0]:=by simp[qh9]
theorem qx6:∀{a b:List Int},qh9 a=qh9 b→a=b
 |[],[],_=>rfl
 |[],_::_,h=>by cases h
 |_::_,[],h=>by cases h
 |x::a,y::b,h=>by
  have h:[x,0]++qh9 a=[y,0]++qh9 b:=h;simp only[List.cons_append,List.nil_append,List.cons.injEq,true_and]at h;rw[h.1,qx6 h.2]
theorem jg5{m:List Int}(hl:m.length≤1000000)(hb:∀i,i<m.length→0≤m.getD i 0∧m.getD i 0≤255):vy m=some (strOfNums (qh9 m)):=by
 have hL:qoi m (m.length:Int) (0,[])=some (.inl (qh9 m)):=by
  have e:qh9 m=qh9 (m.take m.length):=by rw[List.take_length]
  rw[e];refine iz (fun i:Nat=>((i:Int),qh9 (m.take i))) m.length (bh (by omega)) _ (fun i hi=> ?_) ?_ _ rfl
  ·have hlen:=qx7 (m.take i);rw[List.length_take]at hlen;have:=hb i hi;have ew:=q31 this.1 this.2;have es:=jkr this.1 this.2;have e0:=q31 (Int.le_refl 0) (show(0:Int)≤255 by decide);rw[cb m i 0 hi,q4v];have e8:decide ((0:Int)≤8)=true:=rfl;simp(disch:=omega)only[yt,ew,es,e0,e8,q6j,rs];rw[aj]
  ·simp(disch:=omega)only[yt,List.take_length,rs]
 unfold vy;simp(disch:=omega)only[hL,rs]
theorem q7x{a b:List Int}(ha:∀x∈a,0≤x∧x≤255)(hb:∀x∈b,0≤x∧x≤255)(h:strOfNums a=strOfNums b):a=b:=by
 have h1:a.map (fun n=>UInt8.ofNat n.toNat)=b.map fun n=>UInt8.ofNat n.toNat:=by rw[←strOfNums_data,←strOfNums_data,h]
 clear h
 induction a generalizing b with
 |nil=>cases b with
  |nil=>rfl
  |cons y b=>cases h1
 |cons x a ih=>
  cases b with
  |nil=>cases h1
  |cons y b=>
   simp only[List.map_cons,List.cons.injEq]at h1;have hx:=ha x List.mem_cons_self;have hy:=hb y List.mem_cons_self;have e:=congrArg UInt8.toNat h1.1;rw[UInt8.toNat_ofNat',UInt8.toNat_ofNat']at e;rw[ih (fun z hz=>ha z (List.mem_cons_of_mem _ hz)) (fun z hz=>hb z (List.mem_cons_of_mem _ hz)) h1.2];have:x=y:=by omega
   rw[this]
theorem qjf{N:Int}{m:List Int}(h:de N m=true):∀x∈m,0≤x∧x≤255:=fun x hx=>by
 obtain⟨i,hi,rfl⟩:=i5 0 hx;have:=(ko.1 h).2 i hi;omega
theorem qqn{m:List Int}(h:∀x∈m,0≤x∧x≤255):∀x∈qh9 m,0≤x∧x≤255:=fun x hx=>by
 obtain⟨k,hk,hx⟩:=List.mem_flatMap.1 hx;simp only[List.mem_cons,List.not_mem_nil,or_false]at hx;rcases hx with rfl|rfl
 ·exact h _ hk
 ·omega
def qkx(m:List Int):ByteArray:=strOfNums (qh9 m)
theorem q7e{N:Int}{a b:List Int}(ha:de N a=true)(hb:de N b=true)(h:qkx a=qkx b):a=b:=
 qx6 (q7x (qqn (qjf ha)) (qqn (qjf hb)) h)
theorem qpe{N:Int}{m:List Int}(hN:N≤1000)(h:de N m=true):vy m=some (qkx m):=by
 have:=(ko.1 h).1;exact jg5 (by omega) fun i hi=>qjf h _ (aw 0 hi)
end Go.Proofs.Ytokeielgplbdeaa
