/-
  Migrate: positions of the program and of the reference.
-/
import Derived.Test.YtdhfhpdadbopkaaZ7M9
set_option linter.all false
namespace Go.Proofs.Ytdhfhpdadbopkaa
open Go.K Go.M
def qjn(N:Int)(S:Mp)(out:List iu):Prop:=∀k m,0≤k→k≤1000→bu N m=true→(l8 .str (qcz (k::m)) S).getD false=ct out k m
theorem q6m{N k:Int}{m:List Int}(h0:0≤k)(h1:k≤1000)(hm:bu N m=true):Low (k::m):=fun x hx=>by
 rcases List.mem_cons.1 hx with rfl|hx
 ·omega
 ·exact sd hm x hx
theorem qrx{N:Int}{S:Mp}{out:List iu}(h:qjn N S out){p:iu}(h0:0≤p.1)(h1:p.1≤1000)(hm:bu N p.2.1=true):qjn N (tj .str (qcz (p.1::p.2.1)) true S) (out++[p]):=fun k m k0 k1 km=>by
 rw[ql0,qev];by_cases e:p.1=k∧p.2.1=m
 ·rw[e.1,e.2,qao,decide_eq_true rfl,decide_eq_true rfl];rfl
 ·have hn:gp (qcz (k::m)) (qcz (p.1::p.2.1))=false:=by
   cases hq:gp (qcz (k::m)) (qcz (p.1::p.2.1))with
   |false=>rfl
   |true=>
    have:=q6d (q6m k0 k1 km) (q6m h0 h1 hm) (mr.1 hq);injection this with e1 e2
    exact absurd ⟨e1.symm,e2.symm⟩ e
  have hd:(decide (p.1=k)&&decide (p.2.1=m))=false:=by
   rw[Bool.and_eq_false_iff,decide_eq_false_iff_not,decide_eq_false_iff_not];by_cases e1:p.1=k
   ·exact .inr fun e2=>e ⟨e1,e2⟩
   ·exact .inl e1
  rw[hn,cond_false,h k m k0 k1 km,hd,Bool.false_or]
def qt4(n:az)(w:List ByteArray)(x:iu)(l:List Stp):List iu:=l.filterMap fun s=>(qcs n w x.1 s.1.toNat).map fun k=>(k,s.2.1,x.2.2.1++[s.1],())
theorem q73(n:az)(w:List ByteArray)(x:iu):qt4 n w x (ar n x.2.1)=rx n w x:=by
 unfold qt4 ar okT rx q1t;rw[List.filterMap_map,List.filterMap_filter];congr 1;funext t;show(if xc n x.2.1 t=true then(qcs n w x.1 ((t:Int)).toNat).map fun k=>(k,(bj n x.2.1 t).2,x.2.2.1++[(t:Int)],())else none)=q6r n w x t;unfold q6r;rw[Int.toNat_natCast];cases xc n x.2.1 t<;>rfl
theorem q72(n:az)(w:List ByteArray)(x:iu)(l:List Stp)(i:Nat)(h:i<l.length):
  qt4 n w x (l.drop i)=(match qcs n w x.1 (l.getD i ag.z).1.toNat with|some k=>(k,(l.getD i ag.z).2.1,x.2.2.1++[(l.getD i ag.z).1],())::qt4 n w x (l.drop (i+1))|none=>qt4 n w x (l.drop (i+1))):=by
 rw[List.drop_eq_getElem_cons h,mz l i _ h];unfold qt4;rw[List.filterMap_cons];cases qcs n w x.1 l[i].1.toNat<;>rfl
section
variable {n : az} (h : Small n) (hv : bv n = true) {w : List ByteArray} (hw : w.length ≤ 1000) {M : Nat} (hM : M ≤ 2000)
include h hv hw hM
theorem qyy{x:iu}(hx:PosOK n w x)(hxl:x.2.2.1.length≤100000)(i0:Int){out:List iu}(ho:out.length≤M){S:Mp}(hS:qjn n.1 S out):
  ∃o,qcn w (M:Int) i0 (ar n x.2.1) ((ar n x.2.1).length:Int) n.1 n.2.1 n.2.2.1 n.2.2.2.1 x.1 x.2.1 x.2.2.1 (0,out,S)=some o∧match o with| .inl e=>s8 M out (rx n w x)= .inl e.1∧qjn n.1 e.2 e.1| .inr r=>r.1=false∧s8 M out (rx n w x)= .inr r.2:=by
 have ht:=h.trans;have hlen:=qdc n x.2.1;obtain⟨p1,p2,_⟩:=bi hv h;have hxm:=hx.mark h hv;have hk0:=hx.k0;have hk1:=hx.k1;refine ij (fun(st:Int×List iu×Mp)=>∃i:Nat,st.1=(i:Int)∧i≤(ar n x.2.1).length∧st.2.1.length≤M∧qjn n.1 st.2.2 st.2.1∧s8 M st.2.1 (qt4 n w x ((ar n x.2.1).drop i))=s8 M out (rx n w x)) (fun st=>(((ar n x.2.1).length:Int)-st.1).toNat)
  (fun(o:(List iu×Mp)⊕(Bool×List iu))=>match o with| .inl e=>s8 M out (rx n w x)= .inl e.1∧qjn n.1 e.2 e.1| .inr r=>r.1=false∧s8 M out (rx n w x)= .inr r.2) _ ⟨0,rfl,Nat.zero_le _,ho,hS,by rw[List.drop_zero,q73]⟩ (by show(((ar n x.2.1).length:Int)-0).toNat<many;unfold many;omega) ?_
 rintro⟨_,out,S⟩ ⟨i,rfl,h1,h2,h3,h4⟩;have h2:out.length≤M:=h2;have h3:qjn n.1 S out:=h3;have hμ:(((ar n x.2.1).length:Int)-((i+1:Nat):Int)).toNat<(((ar n x.2.1).length:Int)-(i:Int)).toNat∨¬i<(ar n x.2.1).length:=by omega
 by_cases hlt:i<(ar n x.2.1).length
 ·have hμ:=hμ.resolve_right (fun hn=>hn hlt);obtain⟨t,htl,hok,e⟩:=qg2 hlt;have hm:=qaw h hv hxm htl hok;have hml:=c0 hm;rw[q72 n w x _ i hlt,e]at h4;have e1:(xh n x.2.1 t).1=(t:Int):=rfl;have e2:(xh n x.2.1 t).2.1=(bj n x.2.1 t).2:=rfl;rw[e1,e2,Int.toNat_natCast]at h4;have e3:(n.2.1.getD t af.z).1=ns n t:=rfl;have e4:eqS (ns n t) ⟨#[]⟩=qhv n t:=rfl;have hK:∀k:Int,iv ([k]++(bj n x.2.1 t).2)=some (qcz (k::(bj n x.2.1 t).2)):=fun k=>qxm _ (by rw[List.length_append,List.length_singleton];omega)
  have fin:∀k:Int,0≤k→k≤1000→s8 M out ((k,(bj n x.2.1 t).2,x.2.2.1++[(t:Int)],())::qt4 n w x ((ar n x.2.1).drop (i+1)))=s8 M out (rx n w x)∨True:=fun _ _ _=> .inr trivial
  cases hn:qcs n w x.1 t with
  |none=>
   rw[hn]at h4;refine⟨.next (((i+1:Nat):Int),out,S),?_,⟨i+1,rfl,by omega,h2,h3,h4⟩,hμ⟩;unfold qcs at hn;have hnil:qhv n t=false:=by
    cases hq:qhv n t with
    |false=>rfl
    |true=>rw[hq]at hn;cases hn
   rw[hnil,cond_false]at hn;unfold cw;dsimp only;simp only[nr];rw[cj (by omega),ao (by omega) (by omega),ao (by omega) (by omega)];simp only[Int.toNat_natCast,e,e1,e2];rw[ao (by omega) (by omega),ao (by omega) (by omega),e3,e4,hnil,Bool.not_false,cond_true];by_cases hkw:x.1=(w.length:Int)
   ·rw[decide_eq_true hkw,cond_true,ci (by omega) (by omega),aj]
   ·rw[decide_eq_false hkw,cond_false,ao (by omega) (by omega),ao (by omega) (by omega)];have hf:eqS (w.getD x.1.toNat ⟨#[]⟩) (ns n t)=false:=by
     rw[decide_eq_true (show x.1<(w.length:Int) by omega),Bool.true_and]at hn;cases hq:eqS (w.getD x.1.toNat ⟨#[]⟩) (ns n t)with
     |false=>rfl
     |true=>rw[hq]at hn;cases hn
    rw[hf,Bool.not_false,cond_true,ci (by omega) (by omega),aj]
  |some k=>
   rw[hn]at h4;dsimp only at h4;have hfind:∀(hk0:0≤k) (hk1:k≤1000),(l8 .str (qcz (k::(bj n x.2.1 t).2)) S).getD false=ct out k (bj n x.2.1 t).2:=fun hk0 hk1=>h3 _ _ hk0 hk1 hm
   rcases qye hn with⟨g1,rfl⟩|⟨g1,g2,g3,rfl⟩
   ·have hfind:=hfind hk0 (by omega);cases hkn:ct out x.1 (bj n x.2.1 t).2 with
    |true=>
     rw[qhm hkn]at h4;refine⟨.next (((i+1:Nat):Int),out,S),?_,⟨i+1,rfl,by omega,h2,h3,h4⟩,hμ⟩;unfold cw;dsimp only;simp only[nr];rw[cj (by omega),ao (by omega) (by omega),ao (by omega) (by omega)];simp only[Int.toNat_natCast,e,e1,e2];rw[ao (by omega) (by omega),ao (by omega) (by omega),e3,e4,g1,Bool.not_true,cond_false,gl (by omega) (by omega),hK,ah,hfind,hkn,cond_true,ci (by omega) (by omega),aj]
    |false=>
     by_cases hfull:out.length=M
     ·rw[qlz hkn hfull]at h4;refine⟨.ret (false,out),?_,rfl,h4.symm⟩;unfold cw;dsimp only;simp only[nr];rw[cj (by omega),ao (by omega) (by omega),ao (by omega) (by omega)];simp only[Int.toNat_natCast,e,e1,e2];rw[ao (by omega) (by omega),ao (by omega) (by omega),e3,e4,g1,Bool.not_true,cond_false,gl (by omega) (by omega),hK,ah,hfind,hkn,cond_false,decide_eq_true (by omega),cond_true]
     ·rw[qpw hkn hfull]at h4;refine⟨.next (((i+1:Nat):Int),out++[(x.1,(bj n x.2.1 t).2,x.2.2.1++[(t:Int)],())],tj .str (qcz (x.1::(bj n x.2.1 t).2)) true S),?_,⟨i+1,rfl,by omega,by show(out++[_]).length≤M;rw[List.length_append,List.length_singleton];omega,qrx (p:=(x.1,(bj n x.2.1 t).2,x.2.2.1++[(t:Int)],())) h3 hk0 (by show x.1≤1000;omega) hm,h4⟩,hμ⟩;unfold cw;dsimp only;simp only[nr];rw[cj (by omega),ao (by omega) (by omega),ao (by omega) (by omega)];simp only[Int.toNat_natCast,e,e1,e2];rw[ao (by omega) (by omega),ao (by omega) (by omega),e3,e4,g1,Bool.not_true,cond_false,gl (by omega) (by omega),hK,ah,hfind,hkn,cond_false,decide_eq_false (by omega),cond_false,qde _ (by omega),ah,gl (by omega) (by omega),gl (by omega) (by omega),ci (by omega) (by omega),aj]
   ·have hfind:=hfind (by omega) (by omega);have hkw:¬x.1=(w.length:Int):=by omega
    cases hkn:ct out (x.1+1) (bj n x.2.1 t).2 with
    |true=>
     rw[qhm hkn]at h4;refine⟨.next (((i+1:Nat):Int),out,S),?_,⟨i+1,rfl,by omega,h2,h3,h4⟩,hμ⟩;unfold cw;dsimp only;simp only[nr];rw[cj (by omega),ao (by omega) (by omega),ao (by omega) (by omega)];simp only[Int.toNat_natCast,e,e1,e2];rw[ao (by omega) (by omega),ao (by omega) (by omega),e3,e4,g1,Bool.not_false,cond_true,decide_eq_false hkw,cond_false,ao (by omega) (by omega),ao (by omega) (by omega),g3,Bool.not_true,cond_false,ci (by omega) (by omega),gl (by omega) (by omega),hK,ah,hfind,hkn,cond_true,ci (by omega) (by omega),aj]
    |false=>
     by_cases hfull:out.length=M
     ·rw[qlz hkn hfull]at h4;refine⟨.ret (false,out),?_,rfl,h4.symm⟩;unfold cw;dsimp only;simp only[nr];rw[cj (by omega),ao (by omega) (by omega),ao (by omega) (by omega)];simp only[Int.toNat_natCast,e,e1,e2];rw[ao (by omega) (by omega),ao (by omega) (by omega),e3,e4,g1,Bool.not_false,cond_true,decide_eq_false hkw,cond_false,ao (by omega) (by omega),ao (by omega) (by omega),g3,Bool.not_true,cond_false,ci (by omega) (by omega),gl (by omega) (by omega),hK,ah,hfind,hkn,cond_false,decide_eq_true (by omega),cond_true]
     ·rw[qpw hkn hfull]at h4;refine⟨.next (((i+1:Nat):Int),out++[(x.1+1,(bj n x.2.1 t).2,x.2.2.1++[(t:Int)],())],tj .str (qcz ((x.1+1)::(bj n x.2.1 t).2)) true S),?_,⟨i+1,rfl,by omega,by show(out++[_]).length≤M;rw[List.length_append,List.length_singleton];omega,qrx (p:=(x.1+1,(bj n x.2.1 t).2,x.2.2.1++[(t:Int)],())) h3 (by show 0≤x.1+1;omega) (by show x.1+1≤1000;omega) hm,h4⟩,hμ⟩;unfold cw;dsimp only;simp only[nr];rw[cj (by omega),ao (by omega) (by omega),ao (by omega) (by omega)];simp only[Int.toNat_natCast,e,e1,e2];rw[ao (by omega) (by omega),ao (by omega) (by omega),e3,e4,g1,Bool.not_false,cond_true,decide_eq_false hkw,cond_false,ao (by omega) (by omega),ao (by omega) (by omega),g3,Bool.not_true,cond_false,ci (by omega) (by omega),gl (by omega) (by omega),hK,ah,hfind,hkn,cond_false,decide_eq_false (by omega),cond_false,qde _ (by omega),ah,gl (by omega) (by omega),gl (by omega) (by omega),ci (by omega) (by omega),aj]
 ·obtain rfl:i=(ar n x.2.1).length:=by omega
  rw[List.drop_length]at h4;refine⟨.done (out,S),?_,h4.symm,h3⟩;unfold cw;dsimp only;rw[df (by omega)]
theorem q1o{f i:Nat}{out o:List iu}(hi:i<out.length)(hins:s8 M out (rx n w (out.getD i ae.z))= .inl o):m4 n w M (f+1) i out=m4 n w M f (i+1) o:=by
 show(if i<out.length then _ else _)=_;rw[if_pos hi,hins]
theorem q1p{f i:Nat}{out o:List iu}(hi:i<out.length)(hins:s8 M out (rx n w (out.getD i ae.z))= .inr o):m4 n w M (f+1) i out= .inr o:=by
 show(if i<out.length then _ else _)=_;rw[if_pos hi,hins]
theorem q5t{f i:Nat}{out:List iu}(hi:¬i<out.length):m4 n w M (f+1) i out= .inl out:=by
 show(if i<out.length then _ else _)=_;rw[if_neg hi]
theorem qw0{x c:iu}(hc:c∈rx n w x):c.2.2.1.length=x.2.2.1.length+1:=by
 obtain⟨t,_,_,k,_,rfl⟩:=qjt.1 hc;show(x.2.2.1++[(t:Int)]).length=_;rw[List.length_append,List.length_singleton]
abbrev first(n:az):List iu:=[(0,uv n,[],())]
theorem qhz(hM1:1≤M):kh n w (M:Int)=some (match m4 n w M (M+1) 0 (first n)with| .inl o=>(true,o)| .inr o=>(false,o)):=by
 obtain⟨p1,p2,_⟩:=bi hv h;have hini:=qd9 h hv n.2.2.1;have hil:((uv n).length:Int)=n.1:=c0 hini;have hK:iv ([0]++uv n)=some (qcz (0::uv n)):=qxm _ (by rw[List.length_append,List.length_singleton];omega);have hS0:qjn n.1 (tj .str (qcz (0::uv n)) true []) (first n):=qrx (S:=[]) (out:=[]) (p:=(0,uv n,[],())) (fun _ _ _ _ _=>rfl) (Int.le_refl _) (by show(0:Int)≤1000;omega) hini;have hL:∃o,um w (M:Int) n.1 n.2.1 n.2.2.1 n.2.2.2.1 (0,first n,tj .str (qcz (0::uv n)) true [])=some o∧match o with| .inl e=>m4 n w M (M+1) 0 (first n)= .inl e| .inr r=>r.1=false∧m4 n w M (M+1) 0 (first n)= .inr r.2:=by
  refine ij (fun(st:Int×List iu×Mp)=>∃i:Nat,st.1=(i:Int)∧i≤st.2.1.length∧st.2.1.length≤M∧qjn n.1 st.2.2 st.2.1∧(∀p∈st.2.1,PosOK n w p∧p.2.2.1.length≤i)∧m4 n w M (M+1-i) i st.2.1=m4 n w M (M+1) 0 (first n)) (fun st=>((M:Int)+1-st.1).toNat)
   (fun(o:List iu⊕(Bool×List iu))=>match o with| .inl e=>m4 n w M (M+1) 0 (first n)= .inl e| .inr r=>r.1=false∧m4 n w M (M+1) 0 (first n)= .inr r.2) _ ⟨0,rfl,Nat.zero_le _,by show 1≤M;omega,hS0,fun p hp=>by rw[List.mem_singleton.1 hp];exact⟨PosOK.first n w,Nat.le_refl _⟩,rfl⟩ (by show((M:Int)+1-0).toNat<many;unfold many;omega) ?_
  rintro⟨_,out,S⟩ ⟨i,rfl,h1,h2,h3,h4,h5⟩;have h1:i≤out.length:=h1;have h2:out.length≤M:=h2;have h3:qjn n.1 S out:=h3;have h4:∀p∈out,PosOK n w p∧p.2.2.1.length≤i:=h4;have ef:M+1-i=(M+1-(i+1))+1:=by omega
  have h5:m4 n w M (M+1-i) i out=m4 n w M (M+1) 0 (first n):=h5;rw[ef]at h5;by_cases hlt:i<out.length
  ·obtain⟨hx,hxl⟩:=h4 _ (aw ae.z hlt);have hxm:=hx.mark h hv;obtain⟨o,e1,e2⟩:=qyy h hv hw hM hx (by omega) (i:Int) h2 h3;have hs:c9 (n.1,n.2.1,n.2.2.1,n.2.2.2.1,()) (out.getD i ae.z).2.1=some (ar n (out.getD i ae.z).2.1):=qg3 h hv hxm;cases o with
   |inl e=>
    obtain⟨e3,e4⟩:s8 M out (rx n w (out.getD i ae.z))= .inl e.1∧qjn n.1 e.2 e.1:=e2;rw[q1o h hv hw hM hlt e3]at h5;obtain⟨o',f1,f2,f3,f4,f5,f6,f7⟩:=v7 (cs:=rx n w (out.getD i ae.z)) h2;have:o' =e.1:=by
     rcases f1 with f1|⟨f1,_⟩
     ·rw[e3]at f1;injection f1 with f1;exact f1.symm
     ·rw[e3]at f1;cases f1
    subst this;refine⟨.next (((i+1:Nat):Int),e.1,e.2),?_,⟨i+1,rfl,by show i+1≤e.1.length;omega,f2,e4,fun p hp=> ?_,h5⟩,by show((M:Int)+1-((i+1:Nat):Int)).toNat<((M:Int)+1-(i:Int)).toNat;omega⟩
    ·unfold j1;dsimp only;rw[cj (by omega),ao (by omega) (by omega),ao (by omega) (by omega)];simp only[Int.toNat_natCast];rw[hs,ah,e1,ah,lq,ci (by omega) (by omega),aj]
    ·rcases f5 p hp with hp|hp
     ·exact⟨(h4 p hp).1,by have:=(h4 p hp).2;omega⟩
     ·exact⟨hx.next p hp,by have:=qw0 h hv hw hM hp;omega⟩
   |inr r=>
    obtain⟨e3,e4⟩:r.1=false∧s8 M out (rx n w (out.getD i ae.z))= .inr r.2:=e2;rw[q1p h hv hw hM hlt e4]at h5;refine⟨.ret r,?_,e3,h5.symm⟩;unfold j1;dsimp only;rw[cj (by omega),ao (by omega) (by omega),ao (by omega) (by omega)];simp only[Int.toNat_natCast];rw[hs,ah,e1,ah,qj9]
  ·rw[q5t h hv hw hM hlt]at h5;refine⟨.done out,?_,h5.symm⟩;unfold j1;dsimp only;rw[df (by omega)]
 obtain⟨o,e1,e2⟩:=hL;have e1:um w (M:Int) n.1 n.2.1 n.2.2.1 n.2.2.2.1 (0,[(0,uv n,[],())],tj .str (qcz (0::uv n)) true [])=some o:=e1;unfold kh;rw[qws h hv,ah];dsimp only;rw[gl (by omega) (by omega),hK,ah];refine(congrArg (fun z=>bnd z _) e1).trans ?_;rw[ah];cases o with
 |inl e=>rw[show m4 n w M (M+1) 0 (first n)= .inl e from e2];rfl
 |inr r=>
  obtain⟨e3,e4⟩:r.1=false∧m4 n w M (M+1) 0 (first n)= .inr r.2:=e2;rw[e4,qj9,←e3]
end
end Go.Proofs.Ytdhfhpdadbopkaa
