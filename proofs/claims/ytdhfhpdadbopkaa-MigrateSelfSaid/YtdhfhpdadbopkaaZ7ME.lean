/-
  Migrate: the greatest simulation; the markings that are reached.
-/
import Derived.Test.YtdhfhpdadbopkaaZ7MD
set_option linter.all false
namespace Go.Proofs.Ytdhfhpdadbopkaa
open Go.K Go.M
def qji(x:List Int)(ys:Ms):List Pr:=ys.map fun y=>(x,y,())
def m8(xs ys:Ms):List Pr:=xs.flatMap fun x=>qji x ys
theorem qgk(ys:Ms):∀xs:Ms,(m8 xs ys).length=xs.length*ys.length
 |[]=>by simp[m8]
 |x::xs=>by
  have e:m8 (x::xs) ys=qji x ys++m8 xs ys:=by unfold m8;rw[List.flatMap_cons]
  rw[e,List.length_append,qgk ys xs,List.length_cons,Nat.succ_mul];unfold qji;rw[List.length_map];omega
theorem ql4{xs ys:Ms}{p:Pr}:p∈m8 xs ys↔p.1∈xs∧p.2.1∈ys:=by
 unfold m8 qji;simp only[List.mem_flatMap,List.mem_map];constructor
 ·rintro⟨x,hx,y,hy,rfl⟩;exact⟨hx,hy⟩
 ·rintro⟨h1,h2⟩;exact⟨p.1,h1,p.2.1,h2,rfl⟩
theorem jdx{xs ys:Ms}{x y:List Int}:inB (m8 xs ys) x y=true↔x∈xs∧y∈ys:=by
 rw[jgd];constructor
 ·rintro⟨p,hp,rfl,rfl⟩;exact ql4.1 hp
 ·rintro⟨h1,h2⟩;exact⟨(x,y,()),ql4.2 ⟨h1,h2⟩,rfl,rfl⟩
theorem qo0{old new:az}{xs ys:Ms}(h1:rv old xs)(h2:rv new ys):PM old new (m8 xs ys):=fun p hp=>⟨h1 _ (ql4.1 hp).1,h2 _ (ql4.1 hp).2⟩
theorem q2n:∀(l:List Pr) {S:Mp},qmb S→qmb (l.foldl jb5 S)
 |[],_,h=>h
 |_::l,_,h=>q2n l (q5f _ _ h)
structure Greatest (old new : az) (l0 L : List Pr) : Prop where
 sub : ∀ p ∈ L, p ∈ l0
 len : L.length ≤ l0.length
 hold : ∀ p ∈ L, m6 old new (inB L) p.1 p.2.1 = true
 most : ∀ D, Sim old new D → LeF D (inB l0) → LeF D (inB L)
section
variable {old new : az} (ho : Small old) (hn : Small new) (vo : bv old = true) (vn : bv new = true)
include ho hn vo vn
theorem q6a{xs ys:Ms}(hx:rv old xs)(hy:rv new ys)(hxl:xs.length≤3000)(hyl:ys.length≤3000)(hl:xs.length*ys.length≤20000):
  ∃L,oy old new xs ys=some (xs,ys,L)∧Greatest old new (m8 xs ys) L:=by
 have hPM:=qo0 hx hy;have hPL:=qgk ys xs;have hpair:∀x y,x∈xs→y∈ys→jr x y=some (rh x y):=fun x y h1 h2=>q6x ho hn vo vn (p:=(x,y,())) (hx x h1) (hy y h2)
 have hL0:∀(x:List Int) (hxm:x∈xs) (a b:Int) (v:Ms) (l:List Pr) (S:Mp),l.length≤100000→qdv x a b (ys.length:Int) v ys old.1 old.2.1 old.2.2.1 old.2.2.2.1 new.1 new.2.1 new.2.2.1 new.2.2.2.1 (0,l,S)=some (.inl (l++qji x ys,(qji x ys).foldl jb5 S)):=fun x hxm a b v l S hll=>by
  refine nt (fun j=>((j:Int),l++qji x (ys.take j),(qji x (ys.take j)).foldl jb5 S)) ys.length (dl (by omega)) _ (fun j hj=> ?_) ?_ _ ?_
  ·have e1:(qji x (ys.take j)).length=j:=by unfold qji;rw[List.length_map,List.length_take];omega
   have e2:(l++qji x (ys.take j)).length=l.length+j:=by rw[List.length_append,e1]
   have e3:qji x (ys.take (j+1))=qji x (ys.take j)++[(x,ys.getD j [],())]:=by
    rw[bn ys j [] hj];unfold qji;rw[List.map_append];rfl
   unfold ou;dsimp only;rw[cj (by omega),ao (by omega) (by omega),ao (by omega) (by omega),gl (by omega) (by omega)];simp only[Int.toNat_natCast];rw[hpair x _ hxm (aw [] hj),ah,ci (by omega) (by omega),aj,e3,List.foldl_append,←List.append_assoc];rfl
  ·rw[List.take_length];unfold ou;rw[df (by omega)]
  ·show((0:Int),l,S)=(((0:Nat):Int),l++qji x [],(qji x []).foldl jb5 S);rw[show qji x []=[]from rfl,List.append_nil];rfl
 have hL1:qdw (xs.length:Int) xs ys old.1 old.2.1 old.2.2.1 old.2.2.2.1 new.1 new.2.1 new.2.2.1 new.2.2.2.1 (0,[],[])=some (.inl (m8 xs ys,qrk (m8 xs ys))):=by
  refine nt (fun j=>((j:Int),m8 (xs.take j) ys,qrk (m8 (xs.take j) ys))) xs.length (dl (by omega)) _ (fun j hj=> ?_) ?_ _ rfl
  ·have e0:(xs.take j).length=j:=by rw[List.length_take];omega
   have e1:=qgk ys (xs.take j);rw[e0]at e1;have e2:j*ys.length≤xs.length*ys.length:=Nat.mul_le_mul (by omega) (Nat.le_refl _);have e3:m8 (xs.take (j+1)) ys=m8 (xs.take j) ys++qji (xs.getD j []) ys:=by
    rw[bn xs j [] hj];unfold m8;rw[List.flatMap_append];simp only[List.flatMap_cons,List.flatMap_nil,List.append_nil]
   unfold ov;rw[cj (by omega),ao (by omega) (by omega),ao (by omega) (by omega)];simp only[Int.toNat_natCast];rw[hL0 _ (aw [] hj) _ _ _ _ _ (by omega),ah,lq,ci (by omega) (by omega),aj,e3];unfold qrk;rw[List.foldl_append]
  ·rw[List.take_length];unfold ov;rw[df (by omega)]
 have hL2:∃o,qdx xs ys old.1 old.2.1 old.2.2.1 old.2.2.2.1 new.1 new.2.1 new.2.2.1 new.2.2.2.1 (true,m8 xs ys,qrk (m8 xs ys))=some o∧match o with| .inl L=>Greatest old new (m8 xs ys) L| .inr _=>False:=by
  refine ij (fun(st:Bool×List Pr×Mp)=>∃f,Tab old.1 new.1 st.2.2 f∧qmb st.2.2∧LeF f (inB st.2.1)∧(∀D,Sim old new D→LeF D (inB (m8 xs ys))→LeF D f)∧(∀p∈st.2.1,p∈m8 xs ys)∧st.2.1.length≤(m8 xs ys).length∧(st.1=false→∀p∈st.2.1,m6 old new f p.1 p.2.1=true)) (fun st=>st.2.1.length+(bif st.1 then 1 else 0))
   (fun(o:List Pr⊕(Ms×Ms×List Pr))=>match o with| .inl L=>Greatest old new (m8 xs ys) L| .inr _=>False) _ ⟨inB (m8 xs ys),jan hPM,q2n _ List.nodup_nil,fun _ _ h=>h,fun _ _ h=>h,fun _ h=>h,Nat.le_refl _,fun h=>(by cases h)⟩ (by show(m8 xs ys).length+1<many;unfold many;omega) ?_
  rintro⟨c,l,S⟩ ⟨f,h1,h2,h3,h4,h5,h6,h7⟩;have h1:Tab old.1 new.1 S f:=h1;have h2:qmb S:=h2;have h3:LeF f (inB l):=h3;have h5:∀p∈l,p∈m8 xs ys:=h5;have h6:l.length≤(m8 xs ys).length:=h6;cases c with
  |true=>
   obtain⟨S',e1,e2,e3⟩:=q7l ho hn vo vn (l:=l) (fun p hp=>hPM p (h5 p hp)) (by omega) h1 h2;have e1:cx (old.1,old.2.1,old.2.2.1,old.2.2.2.1,()) (new.1,new.2.1,new.2.2.1,new.2.2.2.1,()) l S=some ((iw old new f l).1,S'):=e1;obtain⟨k1,k2,k3,k4,k5⟩:=qn7 (old:=old) (new:=new) l ([],f) h3;have k1:LeF (iw old new f l).2 (inB (iw old new f l).1):=k1;have k3:(iw old new f l).1.Sublist l:=k3;have k5:l.length≤(iw old new f l).1.length→iw old new f l=(l,f)∧∀p∈l,m6 old new f p.1 p.2.1=true:=fun h=>k5 (by show 0+l.length≤_;rw[Nat.zero_add];exact h)
   have hle:=k3.length_le;refine⟨.next (decide (((iw old new f l).1.length:Int)<(l.length:Int)),(iw old new f l).1,S'),?_,⟨(iw old new f l).2,e2,e3,k1,fun D hD hl' =>k4 D hD (h4 D hD hl'),fun p hp=>h5 p (k3.subset hp),by show(iw old new f l).1.length≤_;omega,fun hc p hp=> ?_⟩,?_⟩
   ·unfold ow;dsimp only;rw[cond_true,e1,ah]
   ·have hc:=of_decide_eq_false hc;obtain⟨g1,g2⟩:=k5 (by omega);have hp:p∈(iw old new f l).1:=hp;rw[g1]at hp⊢;exact g2 p hp
   ·show(iw old new f l).1.length+(bif decide (((iw old new f l).1.length:Int)<(l.length:Int))then 1 else 0)<l.length+1;cases hd:decide (((iw old new f l).1.length:Int)<(l.length:Int))with
    |true=>
     have:=of_decide_eq_true hd;rw[cond_true];omega
    |false=>rw[cond_false];omega
  |false=>
   refine⟨.done l,?_,h5,h6,fun p hp=>q12 h3 (h7 rfl p hp),fun D hD hl' x y hd=>h3 x y (h4 D hD hl' x y hd)⟩;unfold ow;dsimp only;rw[cond_false]
 obtain⟨o,e1,e2⟩:=hL2;cases o with
 |inl L=>
  refine⟨L,?_,e2⟩;unfold oy;rw[hL1,ah,lq];dsimp only;rw[e1,ah,lq]
 |inr r=>exact absurd e2 id
end
def qo1(n:az)(M:Nat):Nat→Nat→Ms→Ms
 |0,_,out=>out
 |f+1,i,out=>if i<out.length∧out.length≤M then qo1 n M f (i+1) (pp (xc n (out.getD i [])) (fun t=>(bj n (out.getD i []) t).2) out (List.range n.2.1.length))else out
theorem qec{n:az}{M:Nat}{Q:List Int→Prop}(hQ:∀m t,Q m→t<n.2.1.length→xc n m t=true→Q (bj n m t).2):∀(f i:Nat) (out:Ms),(∀m∈out,Q m)→(∀m∈qo1 n M f i out,Q m)∧(∀m∈out,m∈qo1 n M f i out)
 |0,i,out,h=>⟨h,fun _ h=>h⟩
 |f+1,i,out,h=>by
  unfold qo1;by_cases hc:i<out.length∧out.length≤M
  ·rw[if_pos hc];obtain⟨h1,h2⟩:=qec (M:=M) hQ f (i+1) (pp (xc n (out.getD i [])) (fun t=>(bj n (out.getD i []) t).2) out (List.range n.2.1.length)) fun m hm=>by
    rcases qf.1 hm with hm|⟨t,ht,ho,rfl⟩
    ·exact h m hm
    ·exact hQ _ _ (h _ (aw [] hc.1)) (List.mem_range.1 ht) ho
   exact⟨h1,fun m hm=>h2 m (qf.2 (.inl hm))⟩
  ·rw[if_neg hc];exact⟨h,fun _ h=>h⟩
theorem qk7{n:az}{M:Nat}:∀(f i:Nat) (out:Ms),M<f+i→(∀j,j<i→j<out.length→∀t,t<n.2.1.length→xc n (out.getD j []) t=true→(bj n (out.getD j []) t).2∈out)→(qo1 n M f i out).length≤M→
  ∀m∈qo1 n M f i out,∀t,t<n.2.1.length→xc n m t=true→(bj n m t).2∈qo1 n M f i out
 |0,i,out,hf,hc,hl,m,hm,t,ht,ho=>by
  have hl:out.length≤M:=hl;obtain⟨j,hj,rfl⟩:=je [] (show m∈out from hm);exact hc j (by omega) hj t ht ho
 |f+1,i,out,hf,hc,hl,m,hm,t,ht,ho=>by
  unfold qo1 at hl hm⊢;by_cases hcc:i<out.length∧out.length≤M
  ·rw[if_pos hcc]at hl hm⊢;obtain⟨k1,k2⟩:=q9j (xc n (out.getD i [])) (fun t=>(bj n (out.getD i []) t).2) (List.range n.2.1.length) out;refine qk7 f (i+1) _ (by omega) (fun j hj hjl u hu huo=> ?_) hl m hm t ht ho;by_cases hji:j=i
   ·subst hji;rw[k2 j hcc.1]at huo⊢;exact qf.2 (.inr ⟨u,List.mem_range.2 hu,huo,rfl⟩)
   ·rw[k2 j (by omega)]at huo⊢;exact qf.2 (.inl (hc j (by omega) (by omega) u hu huo))
  ·rw[if_neg hcc]at hl hm⊢;obtain⟨j,hj,rfl⟩:=je [] hm;exact hc j (by omega) hj t ht ho
theorem qy0{n:az}{M:Nat}:∀(f i:Nat) (out:Ms),(qo1 n M f i out).length≤max out.length (M+n.2.1.length)
 |0,i,out=>Nat.le_max_left _ _
 |f+1,i,out=>by
  unfold qo1;by_cases hc:i<out.length∧out.length≤M
  ·rw[if_pos hc];have h1:=qy0 (n:=n) (M:=M) f (i+1) (pp (xc n (out.getD i [])) (fun t=>(bj n (out.getD i []) t).2) out (List.range n.2.1.length));have h2:=qba (xc n (out.getD i [])) (fun t=>(bj n (out.getD i []) t).2) (List.range n.2.1.length) out;rw[List.length_range]at h2;omega
  ·rw[if_neg hc];exact Nat.le_max_left _ _
abbrev rz(l:Ms):Ms:=pp (fun _=>true) id [] l
abbrev ez(n:az)(M:Nat)(l:Ms):Ms:=qo1 n M (M+2) 0 (rz l)
def qa9(N:Int)(S:Mp)(out:Ms):Prop:=∀m,bu N m=true→(l8 .str (qcz m) S).getD false=qme out m
theorem jbq(out:Ms)(y m:List Int):qme (out++[y]) m=(decide (m=y)||qme out m):=by
 unfold qme;rw[List.any_append,List.any_cons,List.any_nil,Bool.or_false,Bool.or_comm]
theorem ja4{N:Int}{S:Mp}{out:Ms}(h:qa9 N S out){y:List Int}(hy:bu N y=true):qa9 N (tj .str (qcz y) true S) (out++[y]):=fun m hm=>by
 rw[ql0,jbq];by_cases e:m=y
 ·rw[e,qao,decide_eq_true rfl];rfl
 ·have hn:gp (qcz m) (qcz y)=false:=by
   cases hq:gp (qcz m) (qcz y)with
   |false=>rfl
   |true=>exact absurd (q6d (sd hm) (sd hy) (mr.1 hq)) e
  rw[hn,cond_false,h m hm,decide_eq_false e,Bool.false_or]
section
variable {n : az} (h : Small n) (hv : bv n = true)
include h hv
theorem jcx{S:Mp}{out:Ms}(hS:qa9 n.1 S out){m:List Int}(hm:bu n.1 m=true)(hl:out.length≤1000000):∃S',qk m S out=some (S',us out m)∧qa9 n.1 S' (us out m):=by
 obtain⟨p1,p2,_⟩:=bi hv h;have hml:=c0 hm;have hK:iv m=some (qcz m):=qxm m (by omega);unfold qk us;rw[hK,ah,hS m hm,ah];cases hh:qme out m with
 |true=>exact⟨S,rfl,hS⟩
 |false=>
  rw[Bool.not_false,cond_true,cond_false,gl (by omega) (by omega)];exact⟨_,rfl,ja4 hS hm⟩
theorem jcf(n:az)(m:List Int)(out:Ms):pp (fun _=>true) (fun s:Stp=>s.2.1) out (ar n m)=pp (xc n m) (fun t=>(bj n m t).2) out (List.range n.2.1.length):=by
 unfold ar okT;have gen:∀(ts:List Nat) (o:Ms),pp (fun _=>true) (fun s:Stp=>s.2.1) o ((ts.filter (xc n m)).map (xh n m))=pp (xc n m) (fun t=>(bj n m t).2) o ts:=by
  intro ts
  induction ts with
  |nil=>intro o;rfl
  |cons t ts ih=>
   intro o;rw[List.filter_cons];cases ht:xc n m t with
   |true=>
    rw[if_pos rfl,List.map_cons];have e1:∀(c:Stp) (cs:List Stp),pp (fun _=>true) (fun s:Stp=>s.2.1) o (c::cs)=pp (fun _=>true) (fun s:Stp=>s.2.1) (us o c.2.1) cs:=fun _ _=>rfl
    have e2:pp (xc n m) (fun t=>(bj n m t).2) o (t::ts)=pp (xc n m) (fun t=>(bj n m t).2) (bif xc n m t then us o (bj n m t).2 else o) ts:=rfl;rw[e1,e2,ih,ht];rfl
   |false=>
    have e2:pp (xc n m) (fun t=>(bj n m t).2) o (t::ts)=pp (xc n m) (fun t=>(bj n m t).2) (bif xc n m t then us o (bj n m t).2 else o) ts:=rfl;rw[e2,ht,if_neg (by simp),ih];rfl
 exact gen _ _
theorem q64{M:Nat}(hM:M≤3000){l:Ms}(hm:rv n l)(hl:l.length≤100000):uz n (M:Int) l=some (decide (((ez n M l).length:Int)≤(M:Int)),l,ez n M l):=by
 obtain⟨p1,p2,_⟩:=bi hv h;have hts:=h.trans;have hfl:=qba (fun _=>true) id l ([]:Ms);rw[List.length_nil,Nat.zero_add]at hfl;have hfm:rv n (rz l):=fun m hm' =>by
  rcases qf.1 hm' with hm' |⟨t,ht,_,rfl⟩
  ·cases hm'
  ·exact hm _ ht
 have hL0:∃o,qin (M:Int) (l.length:Int) l n.1 n.2.1 n.2.2.1 n.2.2.2.1 (0,[],[])=some o∧match o with| .inl e=>e.1=rz l∧qa9 n.1 e.2 e.1| .inr _=>False:=by
  refine ij (fun(st:Int×Ms×Mp)=>∃i:Nat,st.1=(i:Int)∧i≤l.length∧st.2.1=rz (l.take i)∧qa9 n.1 st.2.2 st.2.1) (fun st=>((l.length:Int)-st.1).toNat) (fun(o:(Ms×Mp)⊕(Bool×Ms×Ms))=>match o with| .inl e=>e.1=rz l∧qa9 n.1 e.2 e.1| .inr _=>False) _ ⟨0,rfl,Nat.zero_le _,rfl,fun _ _=>rfl⟩ (by show((l.length:Int)-0).toNat<many;unfold many;omega) ?_;rintro⟨_,o,S⟩ ⟨i,rfl,h1,h2,h3⟩;have h2:o=rz (l.take i):=h2;have h3:qa9 n.1 S o:=h3;by_cases hlt:i<l.length
  ·have hol:=qba (fun _=>true) id (l.take i) ([]:Ms);rw[List.length_nil,Nat.zero_add,List.length_take]at hol;have hol' :o.length≤100000:=by rw[h2];show(pp (fun _=>true) id [] (l.take i)).length≤_;omega
   obtain⟨S',e1,e2⟩:=jcx h hv h3 (hm _ (aw [] hlt)) (by omega);refine⟨.next (((i+1:Nat):Int),us o (l.getD i []),S'),?_,⟨i+1,rfl,by omega,?_,e2⟩,by show((l.length:Int)-((i+1:Nat):Int)).toNat<((l.length:Int)-(i:Int)).toNat;omega⟩
   ·unfold td;dsimp only;rw[cj (by omega),ao (by omega) (by omega),ao (by omega) (by omega)];simp only[Int.toNat_natCast];rw[e1,ah,ci (by omega) (by omega),aj]
   ·show us o (l.getD i [])=rz (l.take (i+1));rw[bn l i [] hlt,h2];exact(q1k (fun _=>true) id [] (l.take i) (l.getD i [])).symm
  ·obtain rfl:i=l.length:=by omega
   rw[List.take_length]at h2;refine⟨.done (o,S),?_,h2,h3⟩;unfold td;dsimp only;rw[df (by omega)]
 have hL1:∀(i:Int) (m:List Int) (o:Ms) (S:Mp),bu n.1 m=true→o.length≤500000→qa9 n.1 S o→∃r,qio (M:Int) i (ar n m) ((ar n m).length:Int) l n.1 n.2.1 n.2.2.1 n.2.2.2.1 (0,o,S)=some r∧match r with| .inl e=>e.1=pp (xc n m) (fun t=>(bj n m t).2) o (List.range n.2.1.length)∧qa9 n.1 e.2 e.1| .inr _=>False:=fun i0 m o0 S0 hmm hol hS0=>by
  have hsl:=qdc n m;refine ij (fun(st:Int×Ms×Mp)=>∃i:Nat,st.1=(i:Int)∧i≤(ar n m).length∧st.2.1=pp (fun _=>true) (fun s:Stp=>s.2.1) o0 ((ar n m).take i)∧qa9 n.1 st.2.2 st.2.1) (fun st=>(((ar n m).length:Int)-st.1).toNat) (fun(r:(Ms×Mp)⊕(Bool×Ms×Ms))=>match r with| .inl e=>e.1=pp (xc n m) (fun t=>(bj n m t).2) o0 (List.range n.2.1.length)∧qa9 n.1 e.2 e.1| .inr _=>False) _ ⟨0,rfl,Nat.zero_le _,rfl,hS0⟩ (by show(((ar n m).length:Int)-0).toNat<many;unfold many;omega) ?_;rintro⟨_,o,S⟩ ⟨i,rfl,h1,h2,h3⟩;have h2:o=pp (fun _=>true) (fun s:Stp=>s.2.1) o0 ((ar n m).take i):=h2;have h3:qa9 n.1 S o:=h3;by_cases hlt:i<(ar n m).length
  ·have hol2:=qba (fun _=>true) (fun s:Stp=>s.2.1) ((ar n m).take i) o0;rw[List.length_take,←h2]at hol2;obtain⟨t,htl,hok,e⟩:=qg2 hlt;have hsm:bu n.1 ((ar n m).getD i ag.z).2.1=true:=by rw[e];exact qaw h hv hmm htl hok
   obtain⟨S',e1,e2⟩:=jcx h hv h3 hsm (by omega);refine⟨.next (((i+1:Nat):Int),us o ((ar n m).getD i ag.z).2.1,S'),?_,⟨i+1,rfl,by omega,?_,e2⟩,by show(((ar n m).length:Int)-((i+1:Nat):Int)).toNat<(((ar n m).length:Int)-(i:Int)).toNat;omega⟩
   ·unfold te;dsimp only;rw[cj (by omega),ao (by omega) (by omega),ao (by omega) (by omega)];simp only[Int.toNat_natCast];rw[e1,ah,ci (by omega) (by omega),aj]
   ·show us o ((ar n m).getD i ag.z).2.1=pp (fun _=>true) (fun s:Stp=>s.2.1) o0 ((ar n m).take (i+1));rw[bn (ar n m) i ag.z hlt,h2];exact(q1k (fun _=>true) (fun s:Stp=>s.2.1) o0 ((ar n m).take i) ((ar n m).getD i ag.z)).symm
  ·obtain rfl:i=(ar n m).length:=by omega
   rw[List.take_length,jcf h hv]at h2;refine⟨.done (o,S),?_,h2,h3⟩;unfold te;dsimp only;rw[df (by omega)]
 obtain⟨o,e1,e2⟩:=hL0;cases o with
 |inr r=>exact absurd e2 id
 |inl e=>
  obtain⟨e3,e4⟩:e.1=rz l∧qa9 n.1 e.2 e.1:=e2;have hL2:∃r,qip (M:Int) l n.1 n.2.1 n.2.2.1 n.2.2.2.1 (0,e.1,e.2)=some r∧match r with| .inl R=>R=ez n M l| .inr _=>False:=by
   refine ij (fun(st:Int×Ms×Mp)=>∃i:Nat,st.1=(i:Int)∧i≤M+1∧st.2.1.length≤200000∧rv n st.2.1∧qo1 n M (M+2-i) i st.2.1=ez n M l∧qa9 n.1 st.2.2 st.2.1) (fun st=>((M:Int)+2-st.1).toNat) (fun(r:Ms⊕(Bool×Ms×Ms))=>match r with| .inl R=>R=ez n M l| .inr _=>False) _ ⟨0,rfl,Nat.zero_le _,by show e.1.length≤_;rw[e3];show(pp (fun _=>true) id [] l).length≤_;omega,by show rv n e.1;rw[e3];exact hfm,by show qo1 n M (M+2-0) 0 e.1=_;rw[e3];rfl,e4⟩ (by show((M:Int)+2-0).toNat<many;unfold many;omega) ?_;rintro⟨_,o,S⟩ ⟨i,rfl,h1,h2,h3,h4,h5⟩;have h2:o.length≤200000:=h2;have h3:rv n o:=h3;have h5:qa9 n.1 S o:=h5;have h4:qo1 n M (M+2-i) i o=ez n M l:=h4;have ef:M+2-i=(M+2-(i+1))+1:=by omega
   rw[ef]at h4;have h4:(if i<o.length∧o.length≤M then qo1 n M (M+2-(i+1)) (i+1) (pp (xc n (o.getD i [])) (fun t=>(bj n (o.getD i []) t).2) o (List.range n.2.1.length))else o)=ez n M l:=h4;by_cases c1:i<o.length
   ·by_cases c2:o.length≤M
    ·rw[if_pos ⟨c1,c2⟩]at h4;have hmi:=h3 _ (aw [] c1);have hs:c9 (n.1,n.2.1,n.2.2.1,n.2.2.2.1,()) (o.getD i [])=some (ar n (o.getD i [])):=qg3 h hv hmi;obtain⟨r,f1,f2⟩:=hL1 (i:Int) (o.getD i []) o S hmi (by omega) h5;cases r with
     |inr r=>exact absurd f2 id
     |inl r=>
      obtain⟨f3,f4⟩:r.1=pp (xc n (o.getD i [])) (fun t=>(bj n (o.getD i []) t).2) o (List.range n.2.1.length)∧qa9 n.1 r.2 r.1:=f2;have f5:=qba (xc n (o.getD i [])) (fun t=>(bj n (o.getD i []) t).2) (List.range n.2.1.length) o;rw[List.length_range,←f3]at f5;rw[←f3]at h4;refine⟨.next (((i+1:Nat):Int),r.1,r.2),?_,⟨i+1,rfl,by omega,by show r.1.length≤_;omega,fun m hm' => ?_,h4,f4⟩,by show((M:Int)+2-((i+1:Nat):Int)).toNat<((M:Int)+2-(i:Int)).toNat;omega⟩
      ·unfold oz;dsimp only;rw[cj (by omega),qr0 (by omega),ao (by omega) (by omega),ao (by omega) (by omega)];simp only[Int.toNat_natCast];rw[hs,ah,f1,ah,lq,ci (by omega) (by omega),aj]
      ·have hm' :m∈r.1:=hm';rw[f3]at hm';rcases qf.1 hm' with hm' |⟨t,ht,hto,rfl⟩
       ·exact h3 m hm'
       ·exact qaw h hv hmi (List.mem_range.1 ht) hto
    ·rw[if_neg (fun hc=>c2 hc.2)]at h4;refine⟨.done o,?_,h4⟩;unfold oz;dsimp only;rw[cj (by omega),qhb (by omega)]
   ·rw[if_neg (fun hc=>c1 hc.1)]at h4;refine⟨.done o,?_,h4⟩;unfold oz;dsimp only;rw[df (by omega)]
  obtain⟨r,f1,f2⟩:=hL2;unfold uz;rw[e1,ah,lq,f1,ah];cases r with
  |inr r=>exact absurd f2 id
  |inl R=>rw[show R=ez n M l from f2];rfl
end
end Go.Proofs.Ytdhfhpdadbopkaa
