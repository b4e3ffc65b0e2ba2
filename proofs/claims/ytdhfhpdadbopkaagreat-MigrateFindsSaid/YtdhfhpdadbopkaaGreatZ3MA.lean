/-
  Migrate: positions of the program and of the reference.
-/
import Derived.Test.YtdhfhpdadbopkaaGreatZ3M9
set_option linter.all false
namespace Go.Proofs.YtdhfhpdadbopkaaGreat
open Go.K Go.M
def qkw(N:Int)(S:Mp)(out:List jk):Prop:=∀k m,0≤k→k≤1000→bq N m=true→(ls .str (qdd (k::m)) S).getD false=dh out k m
theorem jal{N k:Int}{m:List Int}(h0:0≤k)(h1:k≤1000)(hm:bq N m=true):Low (k::m):=fun x hx=>by
 rcases List.mem_cons.1 hx with rfl|hx
 ·omega
 ·exact ru hm x hx
theorem qt1{N:Int}{S:Mp}{out:List jk}(h:qkw N S out){p:jk}(h0:0≤p.1)(h1:p.1≤1000)(hm:bq N p.2.1=true):qkw N (tf .str (qdd (p.1::p.2.1)) true S) (out++[p]):=fun k m k0 k1 km=>by
 rw[qne,qff];by_cases e:p.1=k∧p.2.1=m
 ·rw[e.1,e.2,qa6,decide_eq_true rfl,decide_eq_true rfl];rfl
 ·have hn:ge (qdd (k::m)) (qdd (p.1::p.2.1))=false:=by
   cases hq:ge (qdd (k::m)) (qdd (p.1::p.2.1))with
   |false=>rfl
   |true=>
    have:=jab (jal k0 k1 km) (jal h0 h1 hm) (mi.1 hq);injection this with e1 e2
    exact absurd ⟨e1.symm,e2.symm⟩ e
  have hd:(decide (p.1=k)&&decide (p.2.1=m))=false:=by
   rw[Bool.and_eq_false_iff,decide_eq_false_iff_not,decide_eq_false_iff_not];by_cases e1:p.1=k
   ·exact .inr fun e2=>e ⟨e1,e2⟩
   ·exact .inl e1
  rw[hn,cond_false,h k m k0 k1 km,hd,Bool.false_or]
def qwq(n:a7)(w:List ByteArray)(x:jk)(l:List Stp):List jk:=l.filterMap fun s=>(qjm n w x.1 s.1.toNat).map fun k=>(k,s.2.1,x.2.2.1++[s.1],())
theorem jb8(n:a7)(w:List ByteArray)(x:jk):qwq n w x (aw n x.2.1)=uy n w x:=by
 unfold qwq aw okT uy q5c;rw[List.filterMap_map,List.filterMap_filter];congr 1;funext t;show(if tj n x.2.1 t=true then(qjm n w x.1 ((t:Int)).toNat).map fun k=>(k,(bm n x.2.1 t).2,x.2.2.1++[(t:Int)],())else none)=jaq n w x t;unfold jaq;rw[Int.toNat_natCast];cases tj n x.2.1 t<;>rfl
theorem jb7(n:a7)(w:List ByteArray)(x:jk)(l:List Stp)(i:Nat)(h:i<l.length):
  qwq n w x (l.drop i)=(match qjm n w x.1 (l.getD i ag.z).1.toNat with|some k=>(k,(l.getD i ag.z).2.1,x.2.2.1++[(l.getD i ag.z).1],())::qwq n w x (l.drop (i+1))|none=>qwq n w x (l.drop (i+1))):=by
 rw[List.drop_eq_getElem_cons h,ld l i _ h];unfold qwq;rw[List.filterMap_cons];cases qjm n w x.1 l[i].1.toNat<;>rfl
section
variable {n : a7} (h : Small n) (hv : bu n = true) {w : List ByteArray} (hw : w.length ≤ 1000) {M : Nat} (hM : M ≤ 2000)
include h hv hw hM
theorem q1y{x:jk}(hx:PosOK n w x)(hxl:x.2.2.1.length≤100000)(i0:Int){out:List jk}(ho:out.length≤M){S:Mp}(hS:qkw n.1 S out):
  ∃o,qc0 w (M:Int) i0 (aw n x.2.1) ((aw n x.2.1).length:Int) n.1 n.2.1 n.2.2.1 n.2.2.2.1 x.1 x.2.1 x.2.2.1 (0,out,S)=some o∧match o with| .inl e=>s6 M out (uy n w x)= .inl e.1∧qkw n.1 e.2 e.1| .inr r=>r.1=false∧s6 M out (uy n w x)= .inr r.2:=by
 have ht:=h.trans;have hlen:=qdt n x.2.1;obtain⟨p1,p2,_⟩:=ba hv h;have hxm:=hx.mark h hv;have hk0:=hx.k0;have hk1:=hx.k1;refine ig (fun(st:Int×List jk×Mp)=>∃i:Nat,st.1=(i:Int)∧i≤(aw n x.2.1).length∧st.2.1.length≤M∧qkw n.1 st.2.2 st.2.1∧s6 M st.2.1 (qwq n w x ((aw n x.2.1).drop i))=s6 M out (uy n w x)) (fun st=>(((aw n x.2.1).length:Int)-st.1).toNat)
  (fun(o:(List jk×Mp)⊕(Bool×List jk))=>match o with| .inl e=>s6 M out (uy n w x)= .inl e.1∧qkw n.1 e.2 e.1| .inr r=>r.1=false∧s6 M out (uy n w x)= .inr r.2) _ ⟨0,rfl,Nat.zero_le _,ho,hS,by rw[List.drop_zero,jb8]⟩ (by show(((aw n x.2.1).length:Int)-0).toNat<many;unfold many;omega) ?_
 rintro⟨_,out,S⟩ ⟨i,rfl,h1,h2,h3,h4⟩;have h2:out.length≤M:=h2;have h3:qkw n.1 S out:=h3;have hμ:(((aw n x.2.1).length:Int)-((i+1:Nat):Int)).toNat<(((aw n x.2.1).length:Int)-(i:Int)).toNat∨¬i<(aw n x.2.1).length:=by omega
 by_cases hlt:i<(aw n x.2.1).length
 ·have hμ:=hμ.resolve_right (fun hn=>hn hlt);obtain⟨t,htl,hok,e⟩:=qhv hlt;have hm:=tl h hv hxm htl hok;have hml:=b7 hm;rw[jb7 n w x _ i hlt,e]at h4;have e1:(uh n x.2.1 t).1=(t:Int):=rfl;have e2:(uh n x.2.1 t).2.1=(bm n x.2.1 t).2:=rfl;rw[e1,e2,Int.toNat_natCast]at h4;have e3:(n.2.1.getD t af.z).1=mu n t:=rfl;have e4:eqS (mu n t) ⟨#[]⟩=qly n t:=rfl;have hK:∀k:Int,ir ([k]++(bm n x.2.1 t).2)=some (qdd (k::(bm n x.2.1 t).2)):=fun k=>q0o _ (by rw[List.length_append,List.length_singleton];omega)
  have fin:∀k:Int,0≤k→k≤1000→s6 M out ((k,(bm n x.2.1 t).2,x.2.2.1++[(t:Int)],())::qwq n w x ((aw n x.2.1).drop (i+1)))=s6 M out (uy n w x)∨True:=fun _ _ _=> .inr trivial
  cases hn:qjm n w x.1 t with
  |none=>
   rw[hn]at h4;refine⟨.next (((i+1:Nat):Int),out,S),?_,⟨i+1,rfl,by omega,h2,h3,h4⟩,hμ⟩;unfold qjm at hn;have hnil:qly n t=false:=by
    cases hq:qly n t with
    |false=>rfl
    |true=>rw[hq]at hn;cases hn
   rw[hnil,cond_false]at hn;unfold cz;dsimp only;simp only[lb];rw[cg (by omega),ao (by omega) (by omega),ao (by omega) (by omega)];simp only[Int.toNat_natCast,e,e1,e2];rw[ao (by omega) (by omega),ao (by omega) (by omega),e3,e4,hnil,Bool.not_false,cond_true];by_cases hkw:x.1=(w.length:Int)
   ·rw[decide_eq_true hkw,cond_true,br (by omega) (by omega),ai]
   ·rw[decide_eq_false hkw,cond_false,ao (by omega) (by omega),ao (by omega) (by omega)];have hf:eqS (w.getD x.1.toNat ⟨#[]⟩) (mu n t)=false:=by
     rw[decide_eq_true (show x.1<(w.length:Int) by omega),Bool.true_and]at hn;cases hq:eqS (w.getD x.1.toNat ⟨#[]⟩) (mu n t)with
     |false=>rfl
     |true=>rw[hq]at hn;cases hn
    rw[hf,Bool.not_false,cond_true,br (by omega) (by omega),ai]
  |some k=>
   rw[hn]at h4;dsimp only at h4;have hfind:∀(hk0:0≤k) (hk1:k≤1000),(ls .str (qdd (k::(bm n x.2.1 t).2)) S).getD false=dh out k (bm n x.2.1 t).2:=fun hk0 hk1=>h3 _ _ hk0 hk1 hm
   rcases q1h hn with⟨g1,rfl⟩|⟨g1,g2,g3,rfl⟩
   ·have hfind:=hfind hk0 (by omega);cases hkn:dh out x.1 (bm n x.2.1 t).2 with
    |true=>
     rw[qid hkn]at h4;refine⟨.next (((i+1:Nat):Int),out,S),?_,⟨i+1,rfl,by omega,h2,h3,h4⟩,hμ⟩;unfold cz;dsimp only;simp only[lb];rw[cg (by omega),ao (by omega) (by omega),ao (by omega) (by omega)];simp only[Int.toNat_natCast,e,e1,e2];rw[ao (by omega) (by omega),ao (by omega) (by omega),e3,e4,g1,Bool.not_true,cond_false,d9 (by omega) (by omega),hK,ah,hfind,hkn,cond_true,br (by omega) (by omega),ai]
    |false=>
     by_cases hfull:out.length=M
     ·rw[qnd hkn hfull]at h4;refine⟨.ret (false,out),?_,rfl,h4.symm⟩;unfold cz;dsimp only;simp only[lb];rw[cg (by omega),ao (by omega) (by omega),ao (by omega) (by omega)];simp only[Int.toNat_natCast,e,e1,e2];rw[ao (by omega) (by omega),ao (by omega) (by omega),e3,e4,g1,Bool.not_true,cond_false,d9 (by omega) (by omega),hK,ah,hfind,hkn,cond_false,decide_eq_true (by omega),cond_true]
     ·rw[qrh hkn hfull]at h4;refine⟨.next (((i+1:Nat):Int),out++[(x.1,(bm n x.2.1 t).2,x.2.2.1++[(t:Int)],())],tf .str (qdd (x.1::(bm n x.2.1 t).2)) true S),?_,⟨i+1,rfl,by omega,by show(out++[_]).length≤M;rw[List.length_append,List.length_singleton];omega,qt1 (p:=(x.1,(bm n x.2.1 t).2,x.2.2.1++[(t:Int)],())) h3 hk0 (by show x.1≤1000;omega) hm,h4⟩,hμ⟩;unfold cz;dsimp only;simp only[lb];rw[cg (by omega),ao (by omega) (by omega),ao (by omega) (by omega)];simp only[Int.toNat_natCast,e,e1,e2];rw[ao (by omega) (by omega),ao (by omega) (by omega),e3,e4,g1,Bool.not_true,cond_false,d9 (by omega) (by omega),hK,ah,hfind,hkn,cond_false,decide_eq_false (by omega),cond_false,qdv _ (by omega),ah,d9 (by omega) (by omega),d9 (by omega) (by omega),br (by omega) (by omega),ai]
   ·have hfind:=hfind (by omega) (by omega);have hkw:¬x.1=(w.length:Int):=by omega
    cases hkn:dh out (x.1+1) (bm n x.2.1 t).2 with
    |true=>
     rw[qid hkn]at h4;refine⟨.next (((i+1:Nat):Int),out,S),?_,⟨i+1,rfl,by omega,h2,h3,h4⟩,hμ⟩;unfold cz;dsimp only;simp only[lb];rw[cg (by omega),ao (by omega) (by omega),ao (by omega) (by omega)];simp only[Int.toNat_natCast,e,e1,e2];rw[ao (by omega) (by omega),ao (by omega) (by omega),e3,e4,g1,Bool.not_false,cond_true,decide_eq_false hkw,cond_false,ao (by omega) (by omega),ao (by omega) (by omega),g3,Bool.not_true,cond_false,br (by omega) (by omega),d9 (by omega) (by omega),hK,ah,hfind,hkn,cond_true,br (by omega) (by omega),ai]
    |false=>
     by_cases hfull:out.length=M
     ·rw[qnd hkn hfull]at h4;refine⟨.ret (false,out),?_,rfl,h4.symm⟩;unfold cz;dsimp only;simp only[lb];rw[cg (by omega),ao (by omega) (by omega),ao (by omega) (by omega)];simp only[Int.toNat_natCast,e,e1,e2];rw[ao (by omega) (by omega),ao (by omega) (by omega),e3,e4,g1,Bool.not_false,cond_true,decide_eq_false hkw,cond_false,ao (by omega) (by omega),ao (by omega) (by omega),g3,Bool.not_true,cond_false,br (by omega) (by omega),d9 (by omega) (by omega),hK,ah,hfind,hkn,cond_false,decide_eq_true (by omega),cond_true]
     ·rw[qrh hkn hfull]at h4;refine⟨.next (((i+1:Nat):Int),out++[(x.1+1,(bm n x.2.1 t).2,x.2.2.1++[(t:Int)],())],tf .str (qdd ((x.1+1)::(bm n x.2.1 t).2)) true S),?_,⟨i+1,rfl,by omega,by show(out++[_]).length≤M;rw[List.length_append,List.length_singleton];omega,qt1 (p:=(x.1+1,(bm n x.2.1 t).2,x.2.2.1++[(t:Int)],())) h3 (by show 0≤x.1+1;omega) (by show x.1+1≤1000;omega) hm,h4⟩,hμ⟩;unfold cz;dsimp only;simp only[lb];rw[cg (by omega),ao (by omega) (by omega),ao (by omega) (by omega)];simp only[Int.toNat_natCast,e,e1,e2];rw[ao (by omega) (by omega),ao (by omega) (by omega),e3,e4,g1,Bool.not_false,cond_true,decide_eq_false hkw,cond_false,ao (by omega) (by omega),ao (by omega) (by omega),g3,Bool.not_true,cond_false,br (by omega) (by omega),d9 (by omega) (by omega),hK,ah,hfind,hkn,cond_false,decide_eq_false (by omega),cond_false,qdv _ (by omega),ah,d9 (by omega) (by omega),d9 (by omega) (by omega),br (by omega) (by omega),ai]
 ·obtain rfl:i=(aw n x.2.1).length:=by omega
  rw[List.drop_length]at h4;refine⟨.done (out,S),?_,h4.symm,h3⟩;unfold cz;dsimp only;rw[cp (by omega)]
theorem q47{f i:Nat}{out o:List jk}(hi:i<out.length)(hins:s6 M out (uy n w (out.getD i ae.z))= .inl o):pf n w M (f+1) i out=pf n w M f (i+1) o:=by
 show(if i<out.length then _ else _)=_;rw[if_pos hi,hins]
theorem q48{f i:Nat}{out o:List jk}(hi:i<out.length)(hins:s6 M out (uy n w (out.getD i ae.z))= .inr o):pf n w M (f+1) i out= .inr o:=by
 show(if i<out.length then _ else _)=_;rw[if_pos hi,hins]
theorem q9o{f i:Nat}{out:List jk}(hi:¬i<out.length):pf n w M (f+1) i out= .inl out:=by
 show(if i<out.length then _ else _)=_;rw[if_neg hi]
theorem qz4{x c:jk}(hc:c∈uy n w x):c.2.2.1.length=x.2.2.1.length+1:=by
 obtain⟨t,_,_,k,_,rfl⟩:=qz3.1 hc;show(x.2.2.1++[(t:Int)]).length=_;rw[List.length_append,List.length_singleton]
abbrev first(n:a7):List jk:=[(0,qd1 n,[],())]
theorem qsk(hM1:1≤M):q0 n w (M:Int)=some (match pf n w M (M+1) 0 (first n)with| .inl o=>(true,o)| .inr o=>(false,o)):=by
 obtain⟨p1,p2,_⟩:=ba hv h;have hini:=qep h hv n.2.2.1;have hil:((qd1 n).length:Int)=n.1:=b7 hini;have hK:ir ([0]++qd1 n)=some (qdd (0::qd1 n)):=q0o _ (by rw[List.length_append,List.length_singleton];omega);have hS0:qkw n.1 (tf .str (qdd (0::qd1 n)) true []) (first n):=qt1 (S:=[]) (out:=[]) (p:=(0,qd1 n,[],())) (fun _ _ _ _ _=>rfl) (Int.le_refl _) (by show(0:Int)≤1000;omega) hini;have hL:∃o,us w (M:Int) n.1 n.2.1 n.2.2.1 n.2.2.2.1 (0,first n,tf .str (qdd (0::qd1 n)) true [])=some o∧match o with| .inl e=>pf n w M (M+1) 0 (first n)= .inl e| .inr r=>r.1=false∧pf n w M (M+1) 0 (first n)= .inr r.2:=by
  refine ig (fun(st:Int×List jk×Mp)=>∃i:Nat,st.1=(i:Int)∧i≤st.2.1.length∧st.2.1.length≤M∧qkw n.1 st.2.2 st.2.1∧(∀p∈st.2.1,PosOK n w p∧p.2.2.1.length≤i)∧pf n w M (M+1-i) i st.2.1=pf n w M (M+1) 0 (first n)) (fun st=>((M:Int)+1-st.1).toNat)
   (fun(o:List jk⊕(Bool×List jk))=>match o with| .inl e=>pf n w M (M+1) 0 (first n)= .inl e| .inr r=>r.1=false∧pf n w M (M+1) 0 (first n)= .inr r.2) _ ⟨0,rfl,Nat.zero_le _,by show 1≤M;omega,hS0,fun p hp=>by rw[List.mem_singleton.1 hp];exact⟨PosOK.first n w,Nat.le_refl _⟩,rfl⟩ (by show((M:Int)+1-0).toNat<many;unfold many;omega) ?_
  rintro⟨_,out,S⟩ ⟨i,rfl,h1,h2,h3,h4,h5⟩;have h1:i≤out.length:=h1;have h2:out.length≤M:=h2;have h3:qkw n.1 S out:=h3;have h4:∀p∈out,PosOK n w p∧p.2.2.1.length≤i:=h4;have ef:M+1-i=(M+1-(i+1))+1:=by omega
  have h5:pf n w M (M+1-i) i out=pf n w M (M+1) 0 (first n):=h5;rw[ef]at h5;by_cases hlt:i<out.length
  ·obtain⟨hx,hxl⟩:=h4 _ (au ae.z hlt);have hxm:=hx.mark h hv;obtain⟨o,e1,e2⟩:=q1y h hv hw hM hx (by omega) (i:Int) h2 h3;have hs:da (n.1,n.2.1,n.2.2.1,n.2.2.2.1,()) (out.getD i ae.z).2.1=some (aw n (out.getD i ae.z).2.1):=qhw h hv hxm;cases o with
   |inl e=>
    obtain⟨e3,e4⟩:s6 M out (uy n w (out.getD i ae.z))= .inl e.1∧qkw n.1 e.2 e.1:=e2;rw[q47 h hv hw hM hlt e3]at h5;obtain⟨o',f1,f2,f3,f4,f5,f6,f7⟩:=qaq (cs:=uy n w (out.getD i ae.z)) h2;have:o' =e.1:=by
     rcases f1 with f1|⟨f1,_⟩
     ·rw[e3]at f1;injection f1 with f1;exact f1.symm
     ·rw[e3]at f1;cases f1
    subst this;refine⟨.next (((i+1:Nat):Int),e.1,e.2),?_,⟨i+1,rfl,by show i+1≤e.1.length;omega,f2,e4,fun p hp=> ?_,h5⟩,by show((M:Int)+1-((i+1:Nat):Int)).toNat<((M:Int)+1-(i:Int)).toNat;omega⟩
    ·unfold jv;dsimp only;rw[cg (by omega),ao (by omega) (by omega),ao (by omega) (by omega)];simp only[Int.toNat_natCast];rw[hs,ah,e1,ah,gf,br (by omega) (by omega),ai]
    ·rcases f5 p hp with hp|hp
     ·exact⟨(h4 p hp).1,by have:=(h4 p hp).2;omega⟩
     ·exact⟨hx.next p hp,by have:=qz4 h hv hw hM hp;omega⟩
   |inr r=>
    obtain⟨e3,e4⟩:r.1=false∧s6 M out (uy n w (out.getD i ae.z))= .inr r.2:=e2;rw[q48 h hv hw hM hlt e4]at h5;refine⟨.ret r,?_,e3,h5.symm⟩;unfold jv;dsimp only;rw[cg (by omega),ao (by omega) (by omega),ao (by omega) (by omega)];simp only[Int.toNat_natCast];rw[hs,ah,e1,ah,quf]
  ·rw[q9o h hv hw hM hlt]at h5;refine⟨.done out,?_,h5.symm⟩;unfold jv;dsimp only;rw[cp (by omega)]
 obtain⟨o,e1,e2⟩:=hL;have e1:us w (M:Int) n.1 n.2.1 n.2.2.1 n.2.2.2.1 (0,[(0,qd1 n,[],())],tf .str (qdd (0::qd1 n)) true [])=some o:=e1;unfold q0;rw[qzw h hv,ah];dsimp only;rw[d9 (by omega) (by omega),hK,ah];refine(congrArg (fun z=>bnd z _) e1).trans ?_;rw[ah];cases o with
 |inl e=>rw[show pf n w M (M+1) 0 (first n)= .inl e from e2];rfl
 |inr r=>
  obtain⟨e3,e4⟩:r.1=false∧pf n w M (M+1) 0 (first n)= .inr r.2:=e2;rw[e4,quf,←e3]
end
end Go.Proofs.YtdhfhpdadbopkaaGreat
