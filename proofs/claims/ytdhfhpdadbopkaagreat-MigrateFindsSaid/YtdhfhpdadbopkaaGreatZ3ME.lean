/-
  Migrate: the greatest simulation; the markings that are reached.
-/
import Derived.Test.YtdhfhpdadbopkaaGreatZ3MD
set_option linter.all false
namespace Go.Proofs.YtdhfhpdadbopkaaGreat
open Go.K Go.M
def zi(x:List Int)(ys:Ms):List Pr:=ys.map fun y=>(x,y,())
def gp(xs ys:Ms):List Pr:=xs.flatMap fun x=>zi x ys
theorem qay(ys:Ms):∀xs:Ms,(gp xs ys).length=xs.length*ys.length
 |[]=>by simp[gp]
 |x::xs=>by
  have e:gp (x::xs) ys=zi x ys++gp xs ys:=by unfold gp;rw[List.flatMap_cons]
  rw[e,List.length_append,qay ys xs,List.length_cons,Nat.succ_mul];unfold zi;rw[List.length_map];omega
theorem q5z{xs ys:Ms}{p:Pr}:p∈gp xs ys↔p.1∈xs∧p.2.1∈ys:=by
 unfold gp zi;simp only[List.mem_flatMap,List.mem_map];constructor
 ·rintro⟨x,hx,y,hy,rfl⟩;exact⟨hx,hy⟩
 ·rintro⟨h1,h2⟩;exact⟨p.1,h1,p.2.1,h2,rfl⟩
theorem qil{old new:a7}{xs ys:Ms}(h1:qv old xs)(h2:qv new ys):PM old new (gp xs ys):=fun p hp=>⟨h1 _ (q5z.1 hp).1,h2 _ (q5z.1 hp).2⟩
theorem q6b:∀(l:List Pr) {S:Mp},qnm S→qnm (l.foldl jf9 S)
 |[],_,h=>h
 |_::l,_,h=>q6b l (q9d _ _ h)
structure Greatest (old new : a7) (l0 L : List Pr) : Prop where
 sub : ∀ p ∈ L, p ∈ l0
 len : L.length ≤ l0.length
 hold : ∀ p ∈ L, gb old new (n8 L) p.1 p.2.1 = true
 most : ∀ D, Sim old new D → LeF D (n8 l0) → LeF D (n8 L)
theorem jk4{l l' :List Pr}(h:∀p∈l,p∈l'):LeF (n8 l) (n8 l'):=fun x y hm=>by
 obtain⟨p,hp,e⟩:=q66.1 hm;exact q66.2 ⟨p,h p hp,e⟩
section
variable {old new : a7} (ho : Small old) (hn : Small new) (vo : bu old = true) (vn : bu new = true)
include ho hn vo vn
theorem q97{xs ys:Ms}(hx:qv old xs)(hy:qv new ys)(hxl:xs.length≤3000)(hyl:ys.length≤3000)(hl:xs.length*ys.length≤20000):
  ∃L,ow old new xs ys=some (xs,ys,L)∧Greatest old new (gp xs ys) L:=by
 have hPM:=qil hx hy;have hPL:=qay ys xs;have hpair:∀x y,x∈xs→y∈ys→jl x y=some (rc x y):=fun x y h1 h2=>jaw ho hn vo vn (p:=(x,y,())) (hx x h1) (hy y h2)
 have hL0:∀(x:List Int) (hxm:x∈xs) (a b:Int) (v:Ms) (l:List Pr) (S:Mp),l.length≤100000→qea x a b (ys.length:Int) v ys old.1 old.2.1 old.2.2.1 old.2.2.2.1 new.1 new.2.1 new.2.2.1 new.2.2.2.1 (0,l,S)=some (.inl (l++zi x ys,(zi x ys).foldl jf9 S)):=fun x hxm a b v l S hll=>by
  refine f9 (fun j=>((j:Int),l++zi x (ys.take j),(zi x (ys.take j)).foldl jf9 S)) ys.length (cr (by omega)) _ (fun j hj=> ?_) ?_ _ ?_
  ·have e1:(zi x (ys.take j)).length=j:=by unfold zi;rw[List.length_map,List.length_take];omega
   have e2:(l++zi x (ys.take j)).length=l.length+j:=by rw[List.length_append,e1]
   have e3:zi x (ys.take (j+1))=zi x (ys.take j)++[(x,ys.getD j [],())]:=by
    rw[a8 ys j [] hj];unfold zi;rw[List.map_append];rfl
   unfold ol;dsimp only;rw[cg (by omega),ao (by omega) (by omega),ao (by omega) (by omega),d9 (by omega) (by omega)];simp only[Int.toNat_natCast];rw[hpair x _ hxm (au [] hj),ah,br (by omega) (by omega),ai,e3,List.foldl_append,←List.append_assoc];rfl
  ·rw[List.take_length];unfold ol;rw[cp (by omega)]
  ·show((0:Int),l,S)=(((0:Nat):Int),l++zi x [],(zi x []).foldl jf9 S);rw[show zi x []=[]from rfl,List.append_nil];rfl
 have hL1:qeb (xs.length:Int) xs ys old.1 old.2.1 old.2.2.1 old.2.2.2.1 new.1 new.2.1 new.2.2.1 new.2.2.2.1 (0,[],[])=some (.inl (gp xs ys,qtp (gp xs ys))):=by
  refine f9 (fun j=>((j:Int),gp (xs.take j) ys,qtp (gp (xs.take j) ys))) xs.length (cr (by omega)) _ (fun j hj=> ?_) ?_ _ rfl
  ·have e0:(xs.take j).length=j:=by rw[List.length_take];omega
   have e1:=qay ys (xs.take j);rw[e0]at e1;have e2:j*ys.length≤xs.length*ys.length:=Nat.mul_le_mul (by omega) (Nat.le_refl _);have e3:gp (xs.take (j+1)) ys=gp (xs.take j) ys++zi (xs.getD j []) ys:=by
    rw[a8 xs j [] hj];unfold gp;rw[List.flatMap_append];simp only[List.flatMap_cons,List.flatMap_nil,List.append_nil]
   unfold om;rw[cg (by omega),ao (by omega) (by omega),ao (by omega) (by omega)];simp only[Int.toNat_natCast];rw[hL0 _ (au [] hj) _ _ _ _ _ (by omega),ah,gf,br (by omega) (by omega),ai,e3];unfold qtp;rw[List.foldl_append]
  ·rw[List.take_length];unfold om;rw[cp (by omega)]
 have hL2:∃o,qec xs ys old.1 old.2.1 old.2.2.1 old.2.2.2.1 new.1 new.2.1 new.2.2.1 new.2.2.2.1 (true,gp xs ys,qtp (gp xs ys))=some o∧match o with| .inl L=>Greatest old new (gp xs ys) L| .inr _=>False:=by
  refine ig (fun(st:Bool×List Pr×Mp)=>∃f,Tab old.1 new.1 st.2.2 f∧qnm st.2.2∧LeF f (n8 st.2.1)∧(∀D,Sim old new D→LeF D (n8 (gp xs ys))→LeF D f)∧(∀p∈st.2.1,p∈gp xs ys)∧st.2.1.length≤(gp xs ys).length∧(st.1=false→∀p∈st.2.1,gb old new f p.1 p.2.1=true)) (fun st=>st.2.1.length+(bif st.1 then 1 else 0))
   (fun(o:List Pr⊕(Ms×Ms×List Pr))=>match o with| .inl L=>Greatest old new (gp xs ys) L| .inr _=>False) _ ⟨n8 (gp xs ys),jer hPM,q6b _ List.nodup_nil,fun _ _ h=>h,fun _ _ h=>h,fun _ h=>h,Nat.le_refl _,fun h=>(by cases h)⟩ (by show(gp xs ys).length+1<many;unfold many;omega) ?_
  rintro⟨c,l,S⟩ ⟨f,h1,h2,h3,h4,h5,h6,h7⟩;have h1:Tab old.1 new.1 S f:=h1;have h2:qnm S:=h2;have h3:LeF f (n8 l):=h3;have h5:∀p∈l,p∈gp xs ys:=h5;have h6:l.length≤(gp xs ys).length:=h6;cases c with
  |true=>
   obtain⟨S',e1,e2,e3⟩:=jbq ho hn vo vn (l:=l) (fun p hp=>hPM p (h5 p hp)) (by omega) h1 h2;have e1:c0 (old.1,old.2.1,old.2.2.1,old.2.2.2.1,()) (new.1,new.2.1,new.2.2.1,new.2.2.2.1,()) l S=some ((iv old new f l).1,S'):=e1;obtain⟨k1,k2,k3,k4,k5⟩:=qpr (old:=old) (new:=new) l ([],f) h3;have k1:LeF (iv old new f l).2 (n8 (iv old new f l).1):=k1;have k3:(iv old new f l).1.Sublist l:=k3;have k5:l.length≤(iv old new f l).1.length→iv old new f l=(l,f)∧∀p∈l,gb old new f p.1 p.2.1=true:=fun h=>k5 (by show 0+l.length≤_;rw[Nat.zero_add];exact h)
   have hle:=k3.length_le;refine⟨.next (decide (((iv old new f l).1.length:Int)<(l.length:Int)),(iv old new f l).1,S'),?_,⟨(iv old new f l).2,e2,e3,k1,fun D hD hl' =>k4 D hD (h4 D hD hl'),fun p hp=>h5 p (k3.subset hp),by show(iv old new f l).1.length≤_;omega,fun hc p hp=> ?_⟩,?_⟩
   ·unfold oq;dsimp only;rw[cond_true,e1,ah]
   ·have hc:=of_decide_eq_false hc;obtain⟨g1,g2⟩:=k5 (by omega);have hp:p∈(iv old new f l).1:=hp;rw[g1]at hp⊢;exact g2 p hp
   ·show(iv old new f l).1.length+(bif decide (((iv old new f l).1.length:Int)<(l.length:Int))then 1 else 0)<l.length+1;cases hd:decide (((iv old new f l).1.length:Int)<(l.length:Int))with
    |true=>
     have:=of_decide_eq_true hd;rw[cond_true];omega
    |false=>rw[cond_false];omega
  |false=>
   refine⟨.done l,?_,h5,h6,fun p hp=>q5k h3 (h7 rfl p hp),fun D hD hl' x y hd=>h3 x y (h4 D hD hl' x y hd)⟩;unfold oq;dsimp only;rw[cond_false]
 obtain⟨o,e1,e2⟩:=hL2;cases o with
 |inl L=>
  refine⟨L,?_,e2⟩;unfold ow;rw[hL1,ah,gf];dsimp only;rw[e1,ah,gf]
 |inr r=>exact absurd e2 id
end
def qsl(n:a7)(M:Nat):Nat→Nat→Ms→Ms
 |0,_,out=>out
 |f+1,i,out=>if i<out.length∧out.length≤M then qsl n M f (i+1) (mt (tj n (out.getD i [])) (fun t=>(bm n (out.getD i []) t).2) out (List.range n.2.1.length))else out
theorem ql9{n:a7}{M:Nat}{Q:List Int→Prop}(hQ:∀m t,Q m→t<n.2.1.length→tj n m t=true→Q (bm n m t).2):∀(f i:Nat) (out:Ms),(∀m∈out,Q m)→(∀m∈qsl n M f i out,Q m)∧(∀m∈out,m∈qsl n M f i out)
 |0,i,out,h=>⟨h,fun _ h=>h⟩
 |f+1,i,out,h=>by
  unfold qsl;by_cases hc:i<out.length∧out.length≤M
  ·rw[if_pos hc];obtain⟨h1,h2⟩:=ql9 (M:=M) hQ f (i+1) (mt (tj n (out.getD i [])) (fun t=>(bm n (out.getD i []) t).2) out (List.range n.2.1.length)) fun m hm=>by
    rcases qh.1 hm with hm|⟨t,ht,ho,rfl⟩
    ·exact h m hm
    ·exact hQ _ _ (h _ (au [] hc.1)) (List.mem_range.1 ht) ho
   exact⟨h1,fun m hm=>h2 m (qh.2 (.inl hm))⟩
  ·rw[if_neg hc];exact⟨h,fun _ h=>h⟩
theorem qma{n:a7}{M:Nat}:∀(f i:Nat) (out:Ms),(qsl n M f i out).length≤max out.length (M+n.2.1.length)
 |0,i,out=>Nat.le_max_left _ _
 |f+1,i,out=>by
  unfold qsl;by_cases hc:i<out.length∧out.length≤M
  ·rw[if_pos hc];have h1:=qma (n:=n) (M:=M) f (i+1) (mt (tj n (out.getD i [])) (fun t=>(bm n (out.getD i []) t).2) out (List.range n.2.1.length));have h2:=ni (tj n (out.getD i [])) (fun t=>(bm n (out.getD i []) t).2) (List.range n.2.1.length) out;rw[List.length_range]at h2;omega
  ·rw[if_neg hc];exact Nat.le_max_left _ _
abbrev j5(l:Ms):Ms:=mt (fun _=>true) id [] l
abbrev ck(n:a7)(M:Nat)(l:Ms):Ms:=qsl n M (M+2) 0 (j5 l)
def qbo(N:Int)(S:Mp)(out:Ms):Prop:=∀m,bq N m=true→(ls .str (qdd m) S).getD false=qkk out m
theorem jfu(out:Ms)(y m:List Int):qkk (out++[y]) m=(decide (m=y)||qkk out m):=by
 unfold qkk;rw[List.any_append,List.any_cons,List.any_nil,Bool.or_false,Bool.or_comm]
theorem je8{N:Int}{S:Mp}{out:Ms}(h:qbo N S out){y:List Int}(hy:bq N y=true):qbo N (tf .str (qdd y) true S) (out++[y]):=fun m hm=>by
 rw[qne,jfu];by_cases e:m=y
 ·rw[e,qa6,decide_eq_true rfl];rfl
 ·have hn:ge (qdd m) (qdd y)=false:=by
   cases hq:ge (qdd m) (qdd y)with
   |false=>rfl
   |true=>exact absurd (jab (ru hm) (ru hy) (mi.1 hq)) e
  rw[hn,cond_false,h m hm,decide_eq_false e,Bool.false_or]
section
variable {n : a7} (h : Small n) (hv : bu n = true)
include h hv
theorem jg4{S:Mp}{out:Ms}(hS:qbo n.1 S out){m:List Int}(hm:bq n.1 m=true)(hl:out.length≤1000000):∃S',qm m S out=some (S',zx out m)∧qbo n.1 S' (zx out m):=by
 obtain⟨p1,p2,_⟩:=ba hv h;have hml:=b7 hm;have hK:ir m=some (qdd m):=q0o m (by omega);unfold qm zx;rw[hK,ah,hS m hm,ah];cases hh:qkk out m with
 |true=>exact⟨S,rfl,hS⟩
 |false=>
  rw[Bool.not_false,cond_true,cond_false,d9 (by omega) (by omega)];exact⟨_,rfl,je8 hS hm⟩
theorem jgi(n:a7)(m:List Int)(out:Ms):mt (fun _=>true) (fun s:Stp=>s.2.1) out (aw n m)=mt (tj n m) (fun t=>(bm n m t).2) out (List.range n.2.1.length):=by
 unfold aw okT;have gen:∀(ts:List Nat) (o:Ms),mt (fun _=>true) (fun s:Stp=>s.2.1) o ((ts.filter (tj n m)).map (uh n m))=mt (tj n m) (fun t=>(bm n m t).2) o ts:=by
  intro ts
  induction ts with
  |nil=>intro o;rfl
  |cons t ts ih=>
   intro o;rw[List.filter_cons];cases ht:tj n m t with
   |true=>
    rw[if_pos rfl,List.map_cons];have e1:∀(c:Stp) (cs:List Stp),mt (fun _=>true) (fun s:Stp=>s.2.1) o (c::cs)=mt (fun _=>true) (fun s:Stp=>s.2.1) (zx o c.2.1) cs:=fun _ _=>rfl
    have e2:mt (tj n m) (fun t=>(bm n m t).2) o (t::ts)=mt (tj n m) (fun t=>(bm n m t).2) (bif tj n m t then zx o (bm n m t).2 else o) ts:=rfl;rw[e1,e2,ih,ht];rfl
   |false=>
    have e2:mt (tj n m) (fun t=>(bm n m t).2) o (t::ts)=mt (tj n m) (fun t=>(bm n m t).2) (bif tj n m t then zx o (bm n m t).2 else o) ts:=rfl;rw[e2,ht,if_neg (by simp),ih];rfl
 exact gen _ _
theorem ja3{M:Nat}(hM:M≤3000){l:Ms}(hm:qv n l)(hl:l.length≤100000):u6 n (M:Int) l=some (decide (((ck n M l).length:Int)≤(M:Int)),l,ck n M l):=by
 obtain⟨p1,p2,_⟩:=ba hv h;have hts:=h.trans;have hfl:=ni (fun _=>true) id l ([]:Ms);rw[List.length_nil,Nat.zero_add]at hfl;have hfm:qv n (j5 l):=fun m hm' =>by
  rcases qh.1 hm' with hm' |⟨t,ht,_,rfl⟩
  ·cases hm'
  ·exact hm _ ht
 have hL0:∃o,qjf (M:Int) (l.length:Int) l n.1 n.2.1 n.2.2.1 n.2.2.2.1 (0,[],[])=some o∧match o with| .inl e=>e.1=j5 l∧qbo n.1 e.2 e.1| .inr _=>False:=by
  refine ig (fun(st:Int×Ms×Mp)=>∃i:Nat,st.1=(i:Int)∧i≤l.length∧st.2.1=j5 (l.take i)∧qbo n.1 st.2.2 st.2.1) (fun st=>((l.length:Int)-st.1).toNat) (fun(o:(Ms×Mp)⊕(Bool×Ms×Ms))=>match o with| .inl e=>e.1=j5 l∧qbo n.1 e.2 e.1| .inr _=>False) _ ⟨0,rfl,Nat.zero_le _,rfl,fun _ _=>rfl⟩ (by show((l.length:Int)-0).toNat<many;unfold many;omega) ?_;rintro⟨_,o,S⟩ ⟨i,rfl,h1,h2,h3⟩;have h2:o=j5 (l.take i):=h2;have h3:qbo n.1 S o:=h3;by_cases hlt:i<l.length
  ·have hol:=ni (fun _=>true) id (l.take i) ([]:Ms);rw[List.length_nil,Nat.zero_add,List.length_take]at hol;have hol' :o.length≤100000:=by rw[h2];show(mt (fun _=>true) id [] (l.take i)).length≤_;omega
   obtain⟨S',e1,e2⟩:=jg4 h hv h3 (hm _ (au [] hlt)) (by omega);refine⟨.next (((i+1:Nat):Int),zx o (l.getD i []),S'),?_,⟨i+1,rfl,by omega,?_,e2⟩,by show((l.length:Int)-((i+1:Nat):Int)).toNat<((l.length:Int)-(i:Int)).toNat;omega⟩
   ·unfold ta;dsimp only;rw[cg (by omega),ao (by omega) (by omega),ao (by omega) (by omega)];simp only[Int.toNat_natCast];rw[e1,ah,br (by omega) (by omega),ai]
   ·show zx o (l.getD i [])=j5 (l.take (i+1));rw[a8 l i [] hlt,h2];exact(qm6 (fun _=>true) id [] (l.take i) (l.getD i [])).symm
  ·obtain rfl:i=l.length:=by omega
   rw[List.take_length]at h2;refine⟨.done (o,S),?_,h2,h3⟩;unfold ta;dsimp only;rw[cp (by omega)]
 have hL1:∀(i:Int) (m:List Int) (o:Ms) (S:Mp),bq n.1 m=true→o.length≤500000→qbo n.1 S o→∃r,qjg (M:Int) i (aw n m) ((aw n m).length:Int) l n.1 n.2.1 n.2.2.1 n.2.2.2.1 (0,o,S)=some r∧match r with| .inl e=>e.1=mt (tj n m) (fun t=>(bm n m t).2) o (List.range n.2.1.length)∧qbo n.1 e.2 e.1| .inr _=>False:=fun i0 m o0 S0 hmm hol hS0=>by
  have hsl:=qdt n m;refine ig (fun(st:Int×Ms×Mp)=>∃i:Nat,st.1=(i:Int)∧i≤(aw n m).length∧st.2.1=mt (fun _=>true) (fun s:Stp=>s.2.1) o0 ((aw n m).take i)∧qbo n.1 st.2.2 st.2.1) (fun st=>(((aw n m).length:Int)-st.1).toNat) (fun(r:(Ms×Mp)⊕(Bool×Ms×Ms))=>match r with| .inl e=>e.1=mt (tj n m) (fun t=>(bm n m t).2) o0 (List.range n.2.1.length)∧qbo n.1 e.2 e.1| .inr _=>False) _ ⟨0,rfl,Nat.zero_le _,rfl,hS0⟩ (by show(((aw n m).length:Int)-0).toNat<many;unfold many;omega) ?_;rintro⟨_,o,S⟩ ⟨i,rfl,h1,h2,h3⟩;have h2:o=mt (fun _=>true) (fun s:Stp=>s.2.1) o0 ((aw n m).take i):=h2;have h3:qbo n.1 S o:=h3;by_cases hlt:i<(aw n m).length
  ·have hol2:=ni (fun _=>true) (fun s:Stp=>s.2.1) ((aw n m).take i) o0;rw[List.length_take,←h2]at hol2;obtain⟨t,htl,hok,e⟩:=qhv hlt;have hsm:bq n.1 ((aw n m).getD i ag.z).2.1=true:=by rw[e];exact tl h hv hmm htl hok
   obtain⟨S',e1,e2⟩:=jg4 h hv h3 hsm (by omega);refine⟨.next (((i+1:Nat):Int),zx o ((aw n m).getD i ag.z).2.1,S'),?_,⟨i+1,rfl,by omega,?_,e2⟩,by show(((aw n m).length:Int)-((i+1:Nat):Int)).toNat<(((aw n m).length:Int)-(i:Int)).toNat;omega⟩
   ·unfold tc;dsimp only;rw[cg (by omega),ao (by omega) (by omega),ao (by omega) (by omega)];simp only[Int.toNat_natCast];rw[e1,ah,br (by omega) (by omega),ai]
   ·show zx o ((aw n m).getD i ag.z).2.1=mt (fun _=>true) (fun s:Stp=>s.2.1) o0 ((aw n m).take (i+1));rw[a8 (aw n m) i ag.z hlt,h2];exact(qm6 (fun _=>true) (fun s:Stp=>s.2.1) o0 ((aw n m).take i) ((aw n m).getD i ag.z)).symm
  ·obtain rfl:i=(aw n m).length:=by omega
   rw[List.take_length,jgi h hv]at h2;refine⟨.done (o,S),?_,h2,h3⟩;unfold tc;dsimp only;rw[cp (by omega)]
 obtain⟨o,e1,e2⟩:=hL0;cases o with
 |inr r=>exact absurd e2 id
 |inl e=>
  obtain⟨e3,e4⟩:e.1=j5 l∧qbo n.1 e.2 e.1:=e2;have hL2:∃r,qjh (M:Int) l n.1 n.2.1 n.2.2.1 n.2.2.2.1 (0,e.1,e.2)=some r∧match r with| .inl R=>R=ck n M l| .inr _=>False:=by
   refine ig (fun(st:Int×Ms×Mp)=>∃i:Nat,st.1=(i:Int)∧i≤M+1∧st.2.1.length≤200000∧qv n st.2.1∧qsl n M (M+2-i) i st.2.1=ck n M l∧qbo n.1 st.2.2 st.2.1) (fun st=>((M:Int)+2-st.1).toNat) (fun(r:Ms⊕(Bool×Ms×Ms))=>match r with| .inl R=>R=ck n M l| .inr _=>False) _ ⟨0,rfl,Nat.zero_le _,by show e.1.length≤_;rw[e3];show(mt (fun _=>true) id [] l).length≤_;omega,by show qv n e.1;rw[e3];exact hfm,by show qsl n M (M+2-0) 0 e.1=_;rw[e3];rfl,e4⟩ (by show((M:Int)+2-0).toNat<many;unfold many;omega) ?_;rintro⟨_,o,S⟩ ⟨i,rfl,h1,h2,h3,h4,h5⟩;have h2:o.length≤200000:=h2;have h3:qv n o:=h3;have h5:qbo n.1 S o:=h5;have h4:qsl n M (M+2-i) i o=ck n M l:=h4;have ef:M+2-i=(M+2-(i+1))+1:=by omega
   rw[ef]at h4;have h4:(if i<o.length∧o.length≤M then qsl n M (M+2-(i+1)) (i+1) (mt (tj n (o.getD i [])) (fun t=>(bm n (o.getD i []) t).2) o (List.range n.2.1.length))else o)=ck n M l:=h4;by_cases c1:i<o.length
   ·by_cases c2:o.length≤M
    ·rw[if_pos ⟨c1,c2⟩]at h4;have hmi:=h3 _ (au [] c1);have hs:da (n.1,n.2.1,n.2.2.1,n.2.2.2.1,()) (o.getD i [])=some (aw n (o.getD i [])):=qhw h hv hmi;obtain⟨r,f1,f2⟩:=hL1 (i:Int) (o.getD i []) o S hmi (by omega) h5;cases r with
     |inr r=>exact absurd f2 id
     |inl r=>
      obtain⟨f3,f4⟩:r.1=mt (tj n (o.getD i [])) (fun t=>(bm n (o.getD i []) t).2) o (List.range n.2.1.length)∧qbo n.1 r.2 r.1:=f2;have f5:=ni (tj n (o.getD i [])) (fun t=>(bm n (o.getD i []) t).2) (List.range n.2.1.length) o;rw[List.length_range,←f3]at f5;rw[←f3]at h4;refine⟨.next (((i+1:Nat):Int),r.1,r.2),?_,⟨i+1,rfl,by omega,by show r.1.length≤_;omega,fun m hm' => ?_,h4,f4⟩,by show((M:Int)+2-((i+1:Nat):Int)).toNat<((M:Int)+2-(i:Int)).toNat;omega⟩
      ·unfold ox;dsimp only;rw[cg (by omega),qpo (by omega),ao (by omega) (by omega),ao (by omega) (by omega)];simp only[Int.toNat_natCast];rw[hs,ah,f1,ah,gf,br (by omega) (by omega),ai]
      ·have hm' :m∈r.1:=hm';rw[f3]at hm';rcases qh.1 hm' with hm' |⟨t,ht,hto,rfl⟩
       ·exact h3 m hm'
       ·exact tl h hv hmi (List.mem_range.1 ht) hto
    ·rw[if_neg (fun hc=>c2 hc.2)]at h4;refine⟨.done o,?_,h4⟩;unfold ox;dsimp only;rw[cg (by omega),qc9 (by omega)]
   ·rw[if_neg (fun hc=>c1 hc.1)]at h4;refine⟨.done o,?_,h4⟩;unfold ox;dsimp only;rw[cp (by omega)]
  obtain⟨r,f1,f2⟩:=hL2;unfold u6;rw[e1,ah,gf,f1,ah];cases r with
  |inr r=>exact absurd f2 id
  |inl R=>rw[show R=ck n M l from f2];rfl
end
end Go.Proofs.YtdhfhpdadbopkaaGreat
