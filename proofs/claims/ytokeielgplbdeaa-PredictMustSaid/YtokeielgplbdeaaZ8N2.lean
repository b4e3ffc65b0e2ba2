/-
  Predict: firing, as the reference has it; keys of markings.
-/
import Derived.Test.YtokeielgplbdeaaZ8N1
set_option linter.all false
namespace Go.Proofs.Ytokeielgplbdeaa
open Go.K Go.M
theorem q7r{n:cj}{m:List Int}{T:ag}(F:FireF n m T)(hc:jm T m=true):c8 n.1 (ca T m)= !(ca T m).any (fun k=>decide (100<k)):=by
 have hlen:=F.len;have hml:=F.ml;unfold c8;rw[decide_eq_true (by omega),Bool.true_and];refine congrArg (!·) ?_;rw[Bool.eq_iff_iff,List.any_eq_true,List.any_eq_true];constructor
 ·rintro⟨k,hk,hb⟩;refine⟨k,hk,?_⟩;obtain⟨j,hj,rfl⟩:=ig 0 hk;have:=F.nn hc j (by omega);unfold qm4 at hb;simp only[Bool.or_eq_true,decide_eq_true_eq]at hb;exact decide_eq_true (by omega)
 ·rintro⟨k,hk,hb⟩;exact⟨k,hk,by unfold qm4;rw[hb,Bool.or_true]⟩
theorem q9w{n:cj}{m:List Int}{t:Nat}(F:FireF n m (n.2.1.getD t ag.z))(hc:jm (n.2.1.getD t ag.z) m=true):q5b n m t=bif c8 n.1 (ca (n.2.1.getD t ag.z) m)then(0,ca (n.2.1.getD t ag.z) m)else(5,[]):=by
 unfold q5b;rw[hc,q7r F hc,cond_true];cases(ca (n.2.1.getD t ag.z) m).any (fun k=>decide (100<k))<;>rfl
theorem q8z{n:cj}{m:List Int}{t:Nat}(ht:t<n.2.1.length)(htl:n.2.1.length≤1000)(F:FireF n m (n.2.1.getD t ag.z)):qhw n m (t:Int)=some (c8 n.1 (ca (n.2.1.getD t ag.z) m),ca (n.2.1.getD t ag.z) m):=by
 have hN:=F.N;have hml:=F.ml;have hl1:=F.l1;have hl2:=F.l2;have h0:qjq n.1 n.2.1 n.2.2.1 n.2.2.2.1 (n.2.1.getD t ag.z).1 (n.2.1.getD t ag.z).2.1 (n.2.1.getD t ag.z).2.2.1 (0,m)=some (.inl (fl (-1) (n.2.1.getD t ag.z).2.1 m)):=by
  have e:fl (-1) (n.2.1.getD t ag.z).2.1 m=fl (-1) ((n.2.1.getD t ag.z).2.1.take (n.2.1.getD t ag.z).2.1.length) m:=by rw[List.take_length]
  rw[e];refine jy (fun i:Nat=>((i:Int),fl (-1) ((n.2.1.getD t ag.z).2.1.take i) m)) (n.2.1.getD t ag.z).2.1.length (bm (by omega)) _ (fun i hi=> ?_) ?_ _ rfl
  ·have hb:=F.i1 _ (aw 0 hi);have hq:=F.mb ((n.2.1.getD t ag.z).2.1.getD i 0).toNat (by omega);have hlen:(fl (-1) ((n.2.1.getD t ag.z).2.1.take i) m).length=m.length:=pe _ _ _;have hat:=qd3 (-1) ((n.2.1.getD t ag.z).2.1.take i) m (q50 F.s1 i) (fun p hp=>F.i1 p (List.mem_of_mem_take hp)) ((n.2.1.getD t ag.z).2.1.getD i 0).toNat;have hbd: -1≤(fl (-1) ((n.2.1.getD t ag.z).2.1.take i) m).getD ((n.2.1.getD t ag.z).2.1.getD i 0).toNat 0∧(fl (-1) ((n.2.1.getD t ag.z).2.1.take i) m).getD ((n.2.1.getD t ag.z).2.1.getD i 0).toNat 0≤100:=by
    rw[hat];split<;>omega
   rw[qvf (-1) _ i hi];simp(disch:=omega)only[z5,hlen,rs];rw[al];rfl
  ·simp(disch:=omega)only[z5,rs]
 have h1:qjr n.1 n.2.1 n.2.2.1 n.2.2.2.1 (n.2.1.getD t ag.z).1 (n.2.1.getD t ag.z).2.1 (n.2.1.getD t ag.z).2.2.1 (0,fl (-1) (n.2.1.getD t ag.z).2.1 m)=some (.inl (ca (n.2.1.getD t ag.z) m)):=by
  have e:ca (n.2.1.getD t ag.z) m=fl 1 ((n.2.1.getD t ag.z).2.2.1.take (n.2.1.getD t ag.z).2.2.1.length) (fl (-1) (n.2.1.getD t ag.z).2.1 m):=by rw[List.take_length];rfl
  have hl0:=F.len1;rw[e];refine jy (fun i:Nat=>((i:Int),fl 1 ((n.2.1.getD t ag.z).2.2.1.take i) (fl (-1) (n.2.1.getD t ag.z).2.1 m))) (n.2.1.getD t ag.z).2.2.1.length (bm (by omega)) _ (fun i hi=> ?_) ?_ _ rfl
  ·have hb:=F.i2 _ (aw 0 hi);have hq:=F.mb ((n.2.1.getD t ag.z).2.2.1.getD i 0).toNat (by omega);have hlen:(fl 1 ((n.2.1.getD t ag.z).2.2.1.take i) (fl (-1) (n.2.1.getD t ag.z).2.1 m)).length=m.length:=(pe _ _ _).trans hl0;have hat:=qd3 1 ((n.2.1.getD t ag.z).2.2.1.take i) (fl (-1) (n.2.1.getD t ag.z).2.1 m) (q50 F.s2 i) (fun p hp=>F.i2' p (List.mem_of_mem_take hp)) ((n.2.1.getD t ag.z).2.2.1.getD i 0).toNat;have hat1:=F.at1 ((n.2.1.getD t ag.z).2.2.1.getD i 0).toNat;have hbd: -1≤(fl 1 ((n.2.1.getD t ag.z).2.2.1.take i) (fl (-1) (n.2.1.getD t ag.z).2.1 m)).getD ((n.2.1.getD t ag.z).2.2.1.getD i 0).toNat 0∧(fl 1 ((n.2.1.getD t ag.z).2.2.1.take i) (fl (-1) (n.2.1.getD t ag.z).2.1 m)).getD ((n.2.1.getD t ag.z).2.2.1.getD i 0).toNat 0≤101:=by
    rw[hat,hat1];split<;>split<;>omega
   rw[qvf 1 _ i hi];simp(disch:=omega)only[z6,hlen,rs];rw[al]
  ·simp(disch:=omega)only[z6,rs]
 have hlen:=F.len;have h2:=xa n (ca (n.2.1.getD t ag.z) m) (by omega);have hap:([]:List Int)++m=m:=rfl;unfold qhw;simp(disch:=omega)only[hap,h0,h1,h2,rs]
theorem q6q{k:Int}(h0:0≤k)(h1:k≤255):IntKind.wrap .u8 k=k:=by
 unfold IntKind.wrap;simp[IntKind.bits,IntKind.signed];omega
theorem jnp{k:Int}(h0:0≤k)(h1:k≤255):qos .i64 k 8=0:=by
 have e:(2:Int) ^ min (8:Int).toNat IntKind.i64.bits=256:=by decide
 unfold qos;rw[e,Int.fdiv_eq_ediv_of_nonneg _ (by decide)];omega
def qio(m:List Int):List Int:=m.flatMap fun k=>[k,0]
theorem q0p:∀m:List Int,(qio m).length=2*m.length
 |[]=>rfl
 |k::m=>by
  show([k,0]++qio m).length=_;rw[List.length_append,q0p m];simp only[List.length_cons,List.length_nil];omega
theorem q7m(m:List Int)(k:Int):qio (m++[k])=qio m++[k,0]:=by simp[qio]
theorem q0o:∀{a b:List Int},qio a=qio b→a=b
 |[],[],_=>rfl
 |[],_::_,h=>by cases h
 |_::_,[],h=>by cases h
 |x::a,y::b,h=>by
  have h:[x,0]++qio a=[y,0]++qio b:=h;simp only[List.cons_append,List.nil_append,List.cons.injEq,true_and]at h;rw[h.1,q0o h.2]
theorem jj2{m:List Int}(hl:m.length≤1000000)(hb:∀i,i<m.length→0≤m.getD i 0∧m.getD i 0≤255):wi m=some (strOfNums (qio m)):=by
 have hL:qpu m (m.length:Int) (0,[])=some (.inl (qio m)):=by
  have e:qio m=qio (m.take m.length):=by rw[List.take_length]
  rw[e];refine jy (fun i:Nat=>((i:Int),qio (m.take i))) m.length (bm (by omega)) _ (fun i hi=> ?_) ?_ _ rfl
  ·have hlen:=q0p (m.take i);rw[List.length_take]at hlen;have:=hb i hi;have ew:=q6q this.1 this.2;have es:=jnp this.1 this.2;have e0:=q6q (Int.le_refl 0) (show(0:Int)≤255 by decide);rw[cr m i 0 hi,q7m];have e8:decide ((0:Int)≤8)=true:=rfl;simp(disch:=omega)only[zc,ew,es,e0,e8,q9d,rs];rw[al]
  ·simp(disch:=omega)only[zc,List.take_length,rs]
 unfold wi;simp(disch:=omega)only[hL,rs]
theorem jay{a b:List Int}(ha:∀x∈a,0≤x∧x≤255)(hb:∀x∈b,0≤x∧x≤255)(h:strOfNums a=strOfNums b):a=b:=by
 have h1:a.map (fun n=>UInt8.ofNat n.toNat)=b.map fun n=>UInt8.ofNat n.toNat:=by rw[←strOfNums_data,←strOfNums_data,h]
 clear h
 induction a generalizing b with
 |nil=>cases b with
  |nil=>rfl
  |cons y b=>cases h1
 |cons x a ih=>
  cases b with
  |nil=>cases h1
  |cons y b=>
   simp only[List.map_cons,List.cons.injEq]at h1;have hx:=ha x List.mem_cons_self;have hy:=hb y List.mem_cons_self;have e:=congrArg UInt8.toNat h1.1;rw[UInt8.toNat_ofNat',UInt8.toNat_ofNat']at e;rw[ih (fun z hz=>ha z (List.mem_cons_of_mem _ hz)) (fun z hz=>hb z (List.mem_cons_of_mem _ hz)) h1.2];have:x=y:=by omega
   rw[this]
theorem qj6{N:Int}{m:List Int}(h:c8 N m=true):∀x∈m,0≤x∧x≤255:=fun x hx=>by
 obtain⟨i,hi,rfl⟩:=ig 0 hx;have:=(ja.1 h).2 i hi;omega
theorem qsa{m:List Int}(h:∀x∈m,0≤x∧x≤255):∀x∈qio m,0≤x∧x≤255:=fun x hx=>by
 obtain⟨k,hk,hx⟩:=List.mem_flatMap.1 hx;simp only[List.mem_cons,List.not_mem_nil,or_false]at hx;rcases hx with rfl|rfl
 ·exact h _ hk
 ·omega
def qls(m:List Int):ByteArray:=strOfNums (qio m)
theorem jaf{N:Int}{a b:List Int}(ha:c8 N a=true)(hb:c8 N b=true)(h:qls a=qls b):a=b:=
 q0o (jay (qsa (qj6 ha)) (qsa (qj6 hb)) h)
theorem qqy{N:Int}{m:List Int}(hN:N≤1000)(h:c8 N m=true):wi m=some (qls m):=by
 have:=(ja.1 h).1;exact jj2 (by omega) fun i hi=>qj6 h _ (aw 0 hi)
end Go.Proofs.Ytokeielgplbdeaa
