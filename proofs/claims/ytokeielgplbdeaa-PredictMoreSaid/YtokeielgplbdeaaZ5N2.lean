/-
  Predict: firing, as the reference has it; keys of markings.
-/
import Derived.Test.YtokeielgplbdeaaZ5N1
set_option linter.all false
namespace Go.Proofs.Ytokeielgplbdeaa
open Go.K Go.M
theorem q3u{n:dr}{m:List Int}{T:aj}(F:FireF n m T)(hc:kq T m=true):dg n.1 (da T m)= !(da T m).any (fun k=>decide (100<k)):=by
 have hlen:=F.len;have hml:=F.ml;unfold dg;rw[decide_eq_true (by omega),Bool.true_and];refine congrArg (!·) ?_;rw[Bool.eq_iff_iff,List.any_eq_true,List.any_eq_true];constructor
 ·rintro⟨k,hk,hb⟩;refine⟨k,hk,?_⟩;obtain⟨j,hj,rfl⟩:=kd 0 hk;have:=F.nn hc j (by omega);unfold qk9 at hb;simp only[Bool.or_eq_true,decide_eq_true_eq]at hb;exact decide_eq_true (by omega)
 ·rintro⟨k,hk,hb⟩;exact⟨k,hk,by unfold qk9;rw[hb,Bool.or_true]⟩
theorem q5q{n:dr}{m:List Int}{t:Nat}(F:FireF n m (n.2.1.getD t aj.z))(hc:kq (n.2.1.getD t aj.z) m=true):q1k n m t=bif dg n.1 (da (n.2.1.getD t aj.z) m)then(0,da (n.2.1.getD t aj.z) m)else(5,[]):=by
 unfold q1k;rw[hc,q3u F hc,cond_true];cases(da (n.2.1.getD t aj.z) m).any (fun k=>decide (100<k))<;>rfl
theorem q4z{n:dr}{m:List Int}{t:Nat}(ht:t<n.2.1.length)(htl:n.2.1.length≤1000)(F:FireF n m (n.2.1.getD t aj.z)):qge n m (t:Int)=some (dg n.1 (da (n.2.1.getD t aj.z) m),da (n.2.1.getD t aj.z) m):=by
 have hN:=F.N;have hml:=F.ml;have hl1:=F.l1;have hl2:=F.l2;have h0:qh0 n.1 n.2.1 n.2.2.1 n.2.2.2.1 (n.2.1.getD t aj.z).1 (n.2.1.getD t aj.z).2.1 (n.2.1.getD t aj.z).2.2.1 (0,m)=some (.inl (gk (-1) (n.2.1.getD t aj.z).2.1 m)):=by
  have e:gk (-1) (n.2.1.getD t aj.z).2.1 m=gk (-1) ((n.2.1.getD t aj.z).2.1.take (n.2.1.getD t aj.z).2.1.length) m:=by rw[List.take_length]
  rw[e];refine jo (fun i:Nat=>((i:Int),gk (-1) ((n.2.1.getD t aj.z).2.1.take i) m)) (n.2.1.getD t aj.z).2.1.length (bz (by omega)) _ (fun i hi=> ?_) ?_ _ rfl
  ·have hb:=F.i1 _ (ba 0 hi);have hq:=F.mb ((n.2.1.getD t aj.z).2.1.getD i 0).toNat (by omega);have hlen:(gk (-1) ((n.2.1.getD t aj.z).2.1.take i) m).length=m.length:=vx _ _ _;have hat:=qcy (-1) ((n.2.1.getD t aj.z).2.1.take i) m (q17 F.s1 i) (fun p hp=>F.i1 p (List.mem_of_mem_take hp)) ((n.2.1.getD t aj.z).2.1.getD i 0).toNat;have hbd: -1≤(gk (-1) ((n.2.1.getD t aj.z).2.1.take i) m).getD ((n.2.1.getD t aj.z).2.1.getD i 0).toNat 0∧(gk (-1) ((n.2.1.getD t aj.z).2.1.take i) m).getD ((n.2.1.getD t aj.z).2.1.getD i 0).toNat 0≤100:=by
    rw[hat];split<;>omega
   rw[qse (-1) _ i hi];simp(disch:=omega)only[yz,hlen,rs];rw[aq];rfl
  ·simp(disch:=omega)only[yz,rs]
 have h1:qh1 n.1 n.2.1 n.2.2.1 n.2.2.2.1 (n.2.1.getD t aj.z).1 (n.2.1.getD t aj.z).2.1 (n.2.1.getD t aj.z).2.2.1 (0,gk (-1) (n.2.1.getD t aj.z).2.1 m)=some (.inl (da (n.2.1.getD t aj.z) m)):=by
  have e:da (n.2.1.getD t aj.z) m=gk 1 ((n.2.1.getD t aj.z).2.2.1.take (n.2.1.getD t aj.z).2.2.1.length) (gk (-1) (n.2.1.getD t aj.z).2.1 m):=by rw[List.take_length];rfl
  have hl0:=F.len1;rw[e];refine jo (fun i:Nat=>((i:Int),gk 1 ((n.2.1.getD t aj.z).2.2.1.take i) (gk (-1) (n.2.1.getD t aj.z).2.1 m))) (n.2.1.getD t aj.z).2.2.1.length (bz (by omega)) _ (fun i hi=> ?_) ?_ _ rfl
  ·have hb:=F.i2 _ (ba 0 hi);have hq:=F.mb ((n.2.1.getD t aj.z).2.2.1.getD i 0).toNat (by omega);have hlen:(gk 1 ((n.2.1.getD t aj.z).2.2.1.take i) (gk (-1) (n.2.1.getD t aj.z).2.1 m)).length=m.length:=(vx _ _ _).trans hl0;have hat:=qcy 1 ((n.2.1.getD t aj.z).2.2.1.take i) (gk (-1) (n.2.1.getD t aj.z).2.1 m) (q17 F.s2 i) (fun p hp=>F.i2' p (List.mem_of_mem_take hp)) ((n.2.1.getD t aj.z).2.2.1.getD i 0).toNat;have hat1:=F.at1 ((n.2.1.getD t aj.z).2.2.1.getD i 0).toNat;have hbd: -1≤(gk 1 ((n.2.1.getD t aj.z).2.2.1.take i) (gk (-1) (n.2.1.getD t aj.z).2.1 m)).getD ((n.2.1.getD t aj.z).2.2.1.getD i 0).toNat 0∧(gk 1 ((n.2.1.getD t aj.z).2.2.1.take i) (gk (-1) (n.2.1.getD t aj.z).2.1 m)).getD ((n.2.1.getD t aj.z).2.2.1.getD i 0).toNat 0≤101:=by
    rw[hat,hat1];split<;>split<;>omega
   rw[qse 1 _ i hi];simp(disch:=omega)only[y0,hlen,rs];rw[aq]
  ·simp(disch:=omega)only[y0,rs]
 have hlen:=F.len;have h2:=qj n (da (n.2.1.getD t aj.z) m) (by omega);have hap:([]:List Int)++m=m:=rfl;unfold qge;simp(disch:=omega)only[hap,h0,h1,h2,rs]
theorem q2s{k:Int}(h0:0≤k)(h1:k≤255):IntKind.wrap .u8 k=k:=by
 unfold IntKind.wrap;simp[IntKind.bits,IntKind.signed];omega
theorem jji{k:Int}(h0:0≤k)(h1:k≤255):jah .i64 k 8=0:=by
 have e:(2:Int) ^ min (8:Int).toNat IntKind.i64.bits=256:=by decide
 unfold jah;rw[e,Int.fdiv_eq_ediv_of_nonneg _ (by decide)];omega
def qg7(m:List Int):List Int:=m.flatMap fun k=>[k,0]
theorem qw4:∀m:List Int,(qg7 m).length=2*m.length
 |[]=>rfl
 |k::m=>by
  show([k,0]++qg7 m).length=_;rw[List.length_append,qw4 m];simp only[List.length_cons,List.length_nil];omega
theorem q3o(m:List Int)(k:Int):qg7 (m++[k])=qg7 m++[k,0]:=by simp[qg7]
theorem qw3:∀{a b:List Int},qg7 a=qg7 b→a=b
 |[],[],_=>rfl
 |[],_::_,h=>by cases h
 |_::_,[],h=>by cases h
 |x::a,y::b,h=>by
  have h:[x,0]++qg7 a=[y,0]++qg7 b:=h;simp only[List.cons_append,List.nil_append,List.cons.injEq,true_and]at h;rw[h.1,qw3 h.2]
theorem jfw{m:List Int}(hl:m.length≤1000000)(hb:∀i,i<m.length→0≤m.getD i 0∧m.getD i 0≤255):u9 m=some (strOfNums (qg7 m)):=by
 have hL:qne m (m.length:Int) (0,[])=some (.inl (qg7 m)):=by
  have e:qg7 m=qg7 (m.take m.length):=by rw[List.take_length]
  rw[e];refine jo (fun i:Nat=>((i:Int),qg7 (m.take i))) m.length (bz (by omega)) _ (fun i hi=> ?_) ?_ _ rfl
  ·have hlen:=qw4 (m.take i);rw[List.length_take]at hlen;have:=hb i hi;have ew:=q2s this.1 this.2;have es:=jji this.1 this.2;have e0:=q2s (Int.le_refl 0) (show(0:Int)≤255 by decide);rw[cx m i 0 hi,q3o];have e8:decide ((0:Int)≤8)=true:=rfl;simp(disch:=omega)only[x9,ew,es,e0,e8,q5d,rs];rw[aq]
  ·simp(disch:=omega)only[x9,List.take_length,rs]
 unfold u9;simp(disch:=omega)only[hL,rs]
theorem q6p{a b:List Int}(ha:∀x∈a,0≤x∧x≤255)(hb:∀x∈b,0≤x∧x≤255)(h:strOfNums a=strOfNums b):a=b:=by
 have h1:a.map (fun n=>UInt8.ofNat n.toNat)=b.map fun n=>UInt8.ofNat n.toNat:=by rw[←strOfNums_data,←strOfNums_data,h]
 clear h
 induction a generalizing b with
 |nil=>cases b with
  |nil=>rfl
  |cons y b=>cases h1
 |cons x a ih=>
  cases b with
  |nil=>cases h1
  |cons y b=>
   simp only[List.map_cons,List.cons.injEq]at h1;have hx:=ha x List.mem_cons_self;have hy:=hb y List.mem_cons_self;have e:=congrArg UInt8.toNat h1.1;rw[UInt8.toNat_ofNat',UInt8.toNat_ofNat']at e;rw[ih (fun z hz=>ha z (List.mem_cons_of_mem _ hz)) (fun z hz=>hb z (List.mem_cons_of_mem _ hz)) h1.2];have:x=y:=by omega
   rw[this]
theorem qig{N:Int}{m:List Int}(h:dg N m=true):∀x∈m,0≤x∧x≤255:=fun x hx=>by
 obtain⟨i,hi,rfl⟩:=kd 0 hx;have:=(q9.1 h).2 i hi;omega
theorem qpi{m:List Int}(h:∀x∈m,0≤x∧x≤255):∀x∈qg7 m,0≤x∧x≤255:=fun x hx=>by
 obtain⟨k,hk,hx⟩:=List.mem_flatMap.1 hx;simp only[List.mem_cons,List.not_mem_nil,or_false]at hx;rcases hx with rfl|rfl
 ·exact h _ hk
 ·omega
def qjz(m:List Int):ByteArray:=strOfNums (qg7 m)
theorem q58{N:Int}{a b:List Int}(ha:dg N a=true)(hb:dg N b=true)(h:qjz a=qjz b):a=b:=
 qw3 (q6p (qpi (qig ha)) (qpi (qig hb)) h)
theorem qoa{N:Int}{m:List Int}(hN:N≤1000)(h:dg N m=true):u9 m=some (qjz m):=by
 have:=(q9.1 h).1;exact jfw (by omega) fun i hi=>qig h _ (ba 0 hi)
end Go.Proofs.Ytokeielgplbdeaa
