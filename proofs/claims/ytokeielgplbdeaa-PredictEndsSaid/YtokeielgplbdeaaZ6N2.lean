/-
  Predict: firing, as the reference has it; keys of markings.
-/
import Derived.Test.YtokeielgplbdeaaZ6N1
set_option linter.all false
namespace Go.Proofs.Ytokeielgplbdeaa
open Go.K Go.M
theorem q5u{n:c9}{m:List Int}{T:ai}(F:FireF n m T)(hc:kw T m=true):df n.1 (cw T m)= !(cw T m).any (fun k=>decide (100<k)):=by
 have hlen:=F.len;have hml:=F.ml;unfold df;rw[decide_eq_true (by omega),Bool.true_and];refine congrArg (!·) ?_;rw[Bool.eq_iff_iff,List.any_eq_true,List.any_eq_true];constructor
 ·rintro⟨k,hk,hb⟩;refine⟨k,hk,?_⟩;obtain⟨j,hj,rfl⟩:=j8 0 hk;have:=F.nn hc j (by omega);unfold qmt at hb;simp only[Bool.or_eq_true,decide_eq_true_eq]at hb;exact decide_eq_true (by omega)
 ·rintro⟨k,hk,hb⟩;exact⟨k,hk,by unfold qmt;rw[hb,Bool.or_true]⟩
theorem qyr{n:c9}{m:List Int}{t:Nat}(F:FireF n m (n.2.1.getD t ai.z))(hc:kw (n.2.1.getD t ai.z) m=true):qyq n m t=bif df n.1 (cw (n.2.1.getD t ai.z) m)then(0,cw (n.2.1.getD t ai.z) m)else(5,[]):=by
 unfold qyq;rw[hc,q5u F hc,cond_true];cases(cw (n.2.1.getD t ai.z) m).any (fun k=>decide (100<k))<;>rfl
theorem q6y{n:c9}{m:List Int}{t:Nat}(ht:t<n.2.1.length)(htl:n.2.1.length≤1000)(F:FireF n m (n.2.1.getD t ai.z)):qhm n m (t:Int)=some (df n.1 (cw (n.2.1.getD t ai.z) m),cw (n.2.1.getD t ai.z) m):=by
 have hN:=F.N;have hml:=F.ml;have hl1:=F.l1;have hl2:=F.l2;have h0:qji n.1 n.2.1 n.2.2.1 n.2.2.2.1 (n.2.1.getD t ai.z).1 (n.2.1.getD t ai.z).2.1 (n.2.1.getD t ai.z).2.2.1 (0,m)=some (.inl (gc (-1) (n.2.1.getD t ai.z).2.1 m)):=by
  have e:gc (-1) (n.2.1.getD t ai.z).2.1 m=gc (-1) ((n.2.1.getD t ai.z).2.1.take (n.2.1.getD t ai.z).2.1.length) m:=by rw[List.take_length]
  rw[e];refine iw (fun i:Nat=>((i:Int),gc (-1) ((n.2.1.getD t ai.z).2.1.take i) m)) (n.2.1.getD t ai.z).2.1.length (bm (by omega)) _ (fun i hi=> ?_) ?_ _ rfl
  ·have hb:=F.i1 _ (az 0 hi);have hq:=F.mb ((n.2.1.getD t ai.z).2.1.getD i 0).toNat (by omega);have hlen:(gc (-1) ((n.2.1.getD t ai.z).2.1.take i) m).length=m.length:=wj _ _ _;have hat:=qd0 (-1) ((n.2.1.getD t ai.z).2.1.take i) m (q36 F.s1 i) (fun p hp=>F.i1 p (List.mem_of_mem_take hp)) ((n.2.1.getD t ai.z).2.1.getD i 0).toNat;have hbd: -1≤(gc (-1) ((n.2.1.getD t ai.z).2.1.take i) m).getD ((n.2.1.getD t ai.z).2.1.getD i 0).toNat 0∧(gc (-1) ((n.2.1.getD t ai.z).2.1.take i) m).getD ((n.2.1.getD t ai.z).2.1.getD i 0).toNat 0≤100:=by
    rw[hat];split<;>omega
   rw[qt3 (-1) _ i hi];simp(disch:=omega)only[zm,hlen,rs];rw[aj];rfl
  ·simp(disch:=omega)only[zm,rs]
 have h1:qjj n.1 n.2.1 n.2.2.1 n.2.2.2.1 (n.2.1.getD t ai.z).1 (n.2.1.getD t ai.z).2.1 (n.2.1.getD t ai.z).2.2.1 (0,gc (-1) (n.2.1.getD t ai.z).2.1 m)=some (.inl (cw (n.2.1.getD t ai.z) m)):=by
  have e:cw (n.2.1.getD t ai.z) m=gc 1 ((n.2.1.getD t ai.z).2.2.1.take (n.2.1.getD t ai.z).2.2.1.length) (gc (-1) (n.2.1.getD t ai.z).2.1 m):=by rw[List.take_length];rfl
  have hl0:=F.len1;rw[e];refine iw (fun i:Nat=>((i:Int),gc 1 ((n.2.1.getD t ai.z).2.2.1.take i) (gc (-1) (n.2.1.getD t ai.z).2.1 m))) (n.2.1.getD t ai.z).2.2.1.length (bm (by omega)) _ (fun i hi=> ?_) ?_ _ rfl
  ·have hb:=F.i2 _ (az 0 hi);have hq:=F.mb ((n.2.1.getD t ai.z).2.2.1.getD i 0).toNat (by omega);have hlen:(gc 1 ((n.2.1.getD t ai.z).2.2.1.take i) (gc (-1) (n.2.1.getD t ai.z).2.1 m)).length=m.length:=(wj _ _ _).trans hl0;have hat:=qd0 1 ((n.2.1.getD t ai.z).2.2.1.take i) (gc (-1) (n.2.1.getD t ai.z).2.1 m) (q36 F.s2 i) (fun p hp=>F.i2' p (List.mem_of_mem_take hp)) ((n.2.1.getD t ai.z).2.2.1.getD i 0).toNat;have hat1:=F.at1 ((n.2.1.getD t ai.z).2.2.1.getD i 0).toNat;have hbd: -1≤(gc 1 ((n.2.1.getD t ai.z).2.2.1.take i) (gc (-1) (n.2.1.getD t ai.z).2.1 m)).getD ((n.2.1.getD t ai.z).2.2.1.getD i 0).toNat 0∧(gc 1 ((n.2.1.getD t ai.z).2.2.1.take i) (gc (-1) (n.2.1.getD t ai.z).2.1 m)).getD ((n.2.1.getD t ai.z).2.2.1.getD i 0).toNat 0≤101:=by
    rw[hat,hat1];split<;>split<;>omega
   rw[qt3 1 _ i hi];simp(disch:=omega)only[zn,hlen,rs];rw[aj]
  ·simp(disch:=omega)only[zn,rs]
 have hlen:=F.len;have h2:=wd n (cw (n.2.1.getD t ai.z) m) (by omega);have hap:([]:List Int)++m=m:=rfl;unfold qhm;simp(disch:=omega)only[hap,h0,h1,h2,rs]
theorem q4s{k:Int}(h0:0≤k)(h1:k≤255):IntKind.wrap .u8 k=k:=by
 unfold IntKind.wrap;simp[IntKind.bits,IntKind.signed];omega
theorem jlc{k:Int}(h0:0≤k)(h1:k≤255):jce .i64 k 8=0:=by
 have e:(2:Int) ^ min (8:Int).toNat IntKind.i64.bits=256:=by decide
 unfold jce;rw[e,Int.fdiv_eq_ediv_of_nonneg _ (by decide)];omega
def qil(m:List Int):List Int:=m.flatMap fun k=>[k,0]
theorem qy0:∀m:List Int,(qil m).length=2*m.length
 |[]=>rfl
 |k::m=>by
  show([k,0]++qil m).length=_;rw[List.length_append,qy0 m];simp only[List.length_cons,List.length_nil];omega
theorem q5p(m:List Int)(k:Int):qil (m++[k])=qil m++[k,0]:=by simp[qil]
theorem qyz:∀{a b:List Int},qil a=qil b→a=b
 |[],[],_=>rfl
 |[],_::_,h=>by cases h
 |_::_,[],h=>by cases h
 |x::a,y::b,h=>by
  have h:[x,0]++qil a=[y,0]++qil b:=h;simp only[List.cons_append,List.nil_append,List.cons.injEq,true_and]at h;rw[h.1,qyz h.2]
theorem jhs{m:List Int}(hl:m.length≤1000000)(hb:∀i,i<m.length→0≤m.getD i 0∧m.getD i 0≤255):vz m=some (strOfNums (qil m)):=by
 have hL:qo2 m (m.length:Int) (0,[])=some (.inl (qil m)):=by
  have e:qil m=qil (m.take m.length):=by rw[List.take_length]
  rw[e];refine iw (fun i:Nat=>((i:Int),qil (m.take i))) m.length (bm (by omega)) _ (fun i hi=> ?_) ?_ _ rfl
  ·have hlen:=qy0 (m.take i);rw[List.length_take]at hlen;have:=hb i hi;have ew:=q4s this.1 this.2;have es:=jlc this.1 this.2;have e0:=q4s (Int.le_refl 0) (show(0:Int)≤255 by decide);rw[cb m i 0 hi,q5p];have e8:decide ((0:Int)≤8)=true:=rfl;simp(disch:=omega)only[yv,ew,es,e0,e8,q7c,rs];rw[aj]
  ·simp(disch:=omega)only[yv,List.take_length,rs]
 unfold vz;simp(disch:=omega)only[hL,rs]
theorem q8p{a b:List Int}(ha:∀x∈a,0≤x∧x≤255)(hb:∀x∈b,0≤x∧x≤255)(h:strOfNums a=strOfNums b):a=b:=by
 have h1:a.map (fun n=>UInt8.ofNat n.toNat)=b.map fun n=>UInt8.ofNat n.toNat:=by rw[←strOfNums_data,←strOfNums_data,h]
 clear h
 induction a generalizing b with
 |nil=>cases b with
  |nil=>rfl
  |cons y b=>cases h1
 |cons x a ih=>
  cases b with
  |nil=>cases h1
  |cons y b=>
   simp only[List.map_cons,List.cons.injEq]at h1;have hx:=ha x List.mem_cons_self;have hy:=hb y List.mem_cons_self;have e:=congrArg UInt8.toNat h1.1;rw[UInt8.toNat_ofNat',UInt8.toNat_ofNat']at e;rw[ih (fun z hz=>ha z (List.mem_cons_of_mem _ hz)) (fun z hz=>hb z (List.mem_cons_of_mem _ hz)) h1.2];have:x=y:=by omega
   rw[this]
theorem qjy{N:Int}{m:List Int}(h:df N m=true):∀x∈m,0≤x∧x≤255:=fun x hx=>by
 obtain⟨i,hi,rfl⟩:=j8 0 hx;have:=(ma.1 h).2 i hi;omega
theorem qra{m:List Int}(h:∀x∈m,0≤x∧x≤255):∀x∈qil m,0≤x∧x≤255:=fun x hx=>by
 obtain⟨k,hk,hx⟩:=List.mem_flatMap.1 hx;simp only[List.mem_cons,List.not_mem_nil,or_false]at hx;rcases hx with rfl|rfl
 ·exact h _ hk
 ·omega
def qli(m:List Int):ByteArray:=strOfNums (qil m)
theorem q76{N:Int}{a b:List Int}(ha:df N a=true)(hb:df N b=true)(h:qli a=qli b):a=b:=
 qyz (q8p (qra (qjy ha)) (qra (qjy hb)) h)
theorem qpz{N:Int}{m:List Int}(hN:N≤1000)(h:df N m=true):vz m=some (qli m):=by
 have:=(ma.1 h).1;exact jhs (by omega) fun i hi=>qjy h _ (az 0 hi)
end Go.Proofs.Ytokeielgplbdeaa
