/-
  Migrate: positions of the program and of the reference.
-/
import Derived.Test.YtdhfhpdadbopkaaZ6M9
set_option linter.all false
namespace Go.Proofs.Ytdhfhpdadbopkaa
open Go.K Go.M
def qhl(N:Int)(S:Mp)(out:List m3):Prop:=∀k m,0≤k→k≤1000→fa N m=true→(pe .str (qhw (k::m)) S).getD false=df out k m
theorem q30{N k:Int}{m:List Int}(h0:0≤k)(h1:k≤1000)(hm:fa N m=true):Low (k::m):=fun x hx=>by
 rcases List.mem_cons.1 hx with rfl|hx
 ·omega
 ·exact jay hm x hx
theorem qps{N:Int}{S:Mp}{out:List m3}(h:qhl N S out){p:m3}(h0:0≤p.1)(h1:p.1≤1000)(hm:fa N p.2.1=true):qhl N (qav .str (qhw (p.1::p.2.1)) true S) (out++[p]):=fun k m k0 k1 km=>by
 rw[qz0,qcg];by_cases e:p.1=k∧p.2.1=m
 ·rw[e.1,e.2,qxr,decide_eq_true rfl,decide_eq_true rfl];rfl
 ·have hn:zc (qhw (k::m)) (qhw (p.1::p.2.1))=false:=by
   cases hq:zc (qhw (k::m)) (qhw (p.1::p.2.1))with
   |false=>rfl
   |true=>
    have:=jaq (q30 k0 k1 km) (q30 h0 h1 hm) (qe7.1 hq);injection this with e1 e2
    exact absurd ⟨e1.symm,e2.symm⟩ e
  have hd:(decide (p.1=k)&&decide (p.2.1=m))=false:=by
   rw[Bool.and_eq_false_iff,decide_eq_false_iff_not,decide_eq_false_iff_not];by_cases e1:p.1=k
   ·exact .inr fun e2=>e ⟨e1,e2⟩
   ·exact .inl e1
  rw[hn,cond_false,h k m k0 k1 km,hd,Bool.false_or]
def qr1(n:az)(w:List ByteArray)(x:m3)(l:List Stp):List m3:=l.filterMap fun s=>(qgs n w x.1 s.1.toNat).map fun k=>(k,s.2.1,x.2.2.1++[s.1],())
theorem q5d(n:az)(w:List ByteArray)(x:m3):qr1 n w x (j8 n x.2.1)=ud n w x:=by
 unfold qr1 j8 okT ud qzl;rw[List.filterMap_map,List.filterMap_filter];congr 1;funext t;show(if okB n x.2.1 t=true then(qgs n w x.1 ((t:Int)).toNat).map fun k=>(k,(ek n x.2.1 t).2,x.2.2.1++[(t:Int)],())else none)=q35 n w x t;unfold q35;rw[Int.toNat_natCast];cases okB n x.2.1 t<;>rfl
theorem q5c(n:az)(w:List ByteArray)(x:m3)(l:List Stp)(i:Nat)(h:i<l.length):
  qr1 n w x (l.drop i)=(match qgs n w x.1 (l.getD i ag.z).1.toNat with|some k=>(k,(l.getD i ag.z).2.1,x.2.2.1++[(l.getD i ag.z).1],())::qr1 n w x (l.drop (i+1))|none=>qr1 n w x (l.drop (i+1))):=by
 rw[List.drop_eq_getElem_cons h,p9 l i _ h];unfold qr1;rw[List.filterMap_cons];cases qgs n w x.1 l[i].1.toNat<;>rfl
section
variable {n : az} (h : Small n) (hv : cd n = true) {w : List ByteArray} (hw : w.length ≤ 1000) {M : Nat} (hM : M ≤ 2000)
include h hv hw hM
theorem qwv{x:m3}(hx:PosOK n w x)(hxl:x.2.2.1.length≤100000)(i0:Int){out:List m3}(ho:out.length≤M){S:Mp}(hS:qhl n.1 S out):
  ∃o,qak w (M:Int) i0 (j8 n x.2.1) ((j8 n x.2.1).length:Int) n.1 n.2.1 n.2.2.1 n.2.2.2.1 x.1 x.2.1 x.2.2.1 (0,out,S)=some o∧match o with| .inl e=>qa M out (ud n w x)= .inl e.1∧qhl n.1 e.2 e.1| .inr r=>r.1=false∧qa M out (ud n w x)= .inr r.2:=by
 have ht:=h.trans;have hlen:=q9d n x.2.1;obtain⟨p1,p2,_⟩:=fq hv h;have hxm:=hx.mark h hv;have hk0:=hx.k0;have hk1:=hx.k1;refine pd (fun(st:Int×List m3×Mp)=>∃i:Nat,st.1=(i:Int)∧i≤(j8 n x.2.1).length∧st.2.1.length≤M∧qhl n.1 st.2.2 st.2.1∧qa M st.2.1 (qr1 n w x ((j8 n x.2.1).drop i))=qa M out (ud n w x)) (fun st=>(((j8 n x.2.1).length:Int)-st.1).toNat)
  (fun(o:(List m3×Mp)⊕(Bool×List m3))=>match o with| .inl e=>qa M out (ud n w x)= .inl e.1∧qhl n.1 e.2 e.1| .inr r=>r.1=false∧qa M out (ud n w x)= .inr r.2) _ ⟨0,rfl,Nat.zero_le _,ho,hS,by rw[List.drop_zero,q5d]⟩ (by show(((j8 n x.2.1).length:Int)-0).toNat<many;unfold many;omega) ?_
 rintro⟨_,out,S⟩ ⟨i,rfl,h1,h2,h3,h4⟩;have h2:out.length≤M:=h2;have h3:qhl n.1 S out:=h3;have hμ:(((j8 n x.2.1).length:Int)-((i+1:Nat):Int)).toNat<(((j8 n x.2.1).length:Int)-(i:Int)).toNat∨¬i<(j8 n x.2.1).length:=by omega
 by_cases hlt:i<(j8 n x.2.1).length
 ·have hμ:=hμ.resolve_right (fun hn=>hn hlt);obtain⟨t,htl,hok,e⟩:=jbo hlt;have hm:=jc9 h hv hxm htl hok;have hml:=qbc hm;rw[q5c n w x _ i hlt,e]at h4;have e1:(q0g n x.2.1 t).1=(t:Int):=rfl;have e2:(q0g n x.2.1 t).2.1=(ek n x.2.1 t).2:=rfl;rw[e1,e2,Int.toNat_natCast]at h4;have e3:(n.2.1.getD t af.z).1=qdp n t:=rfl;have e4:eqS (qdp n t) ⟨#[]⟩=qml n t:=rfl;have hK:∀k:Int,ia ([k]++(ek n x.2.1 t).2)=some (qhw (k::(ek n x.2.1 t).2)):=fun k=>jar _ (by rw[List.length_append,List.length_singleton];omega)
  have fin:∀k:Int,0≤k→k≤1000→qa M out ((k,(ek n x.2.1 t).2,x.2.2.1++[(t:Int)],())::qr1 n w x ((j8 n x.2.1).drop (i+1)))=qa M out (ud n w x)∨True:=fun _ _ _=> .inr trivial
  cases hn:qgs n w x.1 t with
  |none=>
   rw[hn]at h4;refine⟨.next (((i+1:Nat):Int),out,S),?_,⟨i+1,rfl,by omega,h2,h3,h4⟩,hμ⟩;unfold qgs at hn;have hnil:qml n t=false:=by
    cases hq:qml n t with
    |false=>rfl
    |true=>rw[hq]at hn;cases hn
   rw[hnil,cond_false]at hn;unfold b8;dsimp only;simp only[sw];rw[fo (by omega),a8 (by omega) (by omega),a8 (by omega) (by omega)];simp only[Int.toNat_natCast,e,e1,e2];rw[a8 (by omega) (by omega),a8 (by omega) (by omega),e3,e4,hnil,Bool.not_false,cond_true];by_cases hkw:x.1=(w.length:Int)
   ·rw[decide_eq_true hkw,cond_true,gm (by omega) (by omega),am]
   ·rw[decide_eq_false hkw,cond_false,a8 (by omega) (by omega),a8 (by omega) (by omega)];have hf:eqS (w.getD x.1.toNat ⟨#[]⟩) (qdp n t)=false:=by
     rw[decide_eq_true (show x.1<(w.length:Int) by omega),Bool.true_and]at hn;cases hq:eqS (w.getD x.1.toNat ⟨#[]⟩) (qdp n t)with
     |false=>rfl
     |true=>rw[hq]at hn;cases hn
    rw[hf,Bool.not_false,cond_true,gm (by omega) (by omega),am]
  |some k=>
   rw[hn]at h4;dsimp only at h4;have hfind:∀(hk0:0≤k) (hk1:k≤1000),(pe .str (qhw (k::(ek n x.2.1 t).2)) S).getD false=df out k (ek n x.2.1 t).2:=fun hk0 hk1=>h3 _ _ hk0 hk1 hm
   rcases qwf hn with⟨g1,rfl⟩|⟨g1,g2,g3,rfl⟩
   ·have hfind:=hfind hk0 (by omega);cases hkn:df out x.1 (ek n x.2.1 t).2 with
    |true=>
     rw[qfn hkn]at h4;refine⟨.next (((i+1:Nat):Int),out,S),?_,⟨i+1,rfl,by omega,h2,h3,h4⟩,hμ⟩;unfold b8;dsimp only;simp only[sw];rw[fo (by omega),a8 (by omega) (by omega),a8 (by omega) (by omega)];simp only[Int.toNat_natCast,e,e1,e2];rw[a8 (by omega) (by omega),a8 (by omega) (by omega),e3,e4,g1,Bool.not_true,cond_false,jj (by omega) (by omega),hK,aq,hfind,hkn,cond_true,gm (by omega) (by omega),am]
    |false=>
     by_cases hfull:out.length=M
     ·rw[qju hkn hfull]at h4;refine⟨.ret (false,out),?_,rfl,h4.symm⟩;unfold b8;dsimp only;simp only[sw];rw[fo (by omega),a8 (by omega) (by omega),a8 (by omega) (by omega)];simp only[Int.toNat_natCast,e,e1,e2];rw[a8 (by omega) (by omega),a8 (by omega) (by omega),e3,e4,g1,Bool.not_true,cond_false,jj (by omega) (by omega),hK,aq,hfind,hkn,cond_false,decide_eq_true (by omega),cond_true]
     ·rw[qnq hkn hfull]at h4;refine⟨.next (((i+1:Nat):Int),out++[(x.1,(ek n x.2.1 t).2,x.2.2.1++[(t:Int)],())],qav .str (qhw (x.1::(ek n x.2.1 t).2)) true S),?_,⟨i+1,rfl,by omega,by show(out++[_]).length≤M;rw[List.length_append,List.length_singleton];omega,qps (p:=(x.1,(ek n x.2.1 t).2,x.2.2.1++[(t:Int)],())) h3 hk0 (by show x.1≤1000;omega) hm,h4⟩,hμ⟩;unfold b8;dsimp only;simp only[sw];rw[fo (by omega),a8 (by omega) (by omega),a8 (by omega) (by omega)];simp only[Int.toNat_natCast,e,e1,e2];rw[a8 (by omega) (by omega),a8 (by omega) (by omega),e3,e4,g1,Bool.not_true,cond_false,jj (by omega) (by omega),hK,aq,hfind,hkn,cond_false,decide_eq_false (by omega),cond_false,qm9 _ (by omega),aq,jj (by omega) (by omega),jj (by omega) (by omega),gm (by omega) (by omega),am]
   ·have hfind:=hfind (by omega) (by omega);have hkw:¬x.1=(w.length:Int):=by omega
    cases hkn:df out (x.1+1) (ek n x.2.1 t).2 with
    |true=>
     rw[qfn hkn]at h4;refine⟨.next (((i+1:Nat):Int),out,S),?_,⟨i+1,rfl,by omega,h2,h3,h4⟩,hμ⟩;unfold b8;dsimp only;simp only[sw];rw[fo (by omega),a8 (by omega) (by omega),a8 (by omega) (by omega)];simp only[Int.toNat_natCast,e,e1,e2];rw[a8 (by omega) (by omega),a8 (by omega) (by omega),e3,e4,g1,Bool.not_false,cond_true,decide_eq_false hkw,cond_false,a8 (by omega) (by omega),a8 (by omega) (by omega),g3,Bool.not_true,cond_false,gm (by omega) (by omega),jj (by omega) (by omega),hK,aq,hfind,hkn,cond_true,gm (by omega) (by omega),am]
    |false=>
     by_cases hfull:out.length=M
     ·rw[qju hkn hfull]at h4;refine⟨.ret (false,out),?_,rfl,h4.symm⟩;unfold b8;dsimp only;simp only[sw];rw[fo (by omega),a8 (by omega) (by omega),a8 (by omega) (by omega)];simp only[Int.toNat_natCast,e,e1,e2];rw[a8 (by omega) (by omega),a8 (by omega) (by omega),e3,e4,g1,Bool.not_false,cond_true,decide_eq_false hkw,cond_false,a8 (by omega) (by omega),a8 (by omega) (by omega),g3,Bool.not_true,cond_false,gm (by omega) (by omega),jj (by omega) (by omega),hK,aq,hfind,hkn,cond_false,decide_eq_true (by omega),cond_true]
     ·rw[qnq hkn hfull]at h4;refine⟨.next (((i+1:Nat):Int),out++[(x.1+1,(ek n x.2.1 t).2,x.2.2.1++[(t:Int)],())],qav .str (qhw ((x.1+1)::(ek n x.2.1 t).2)) true S),?_,⟨i+1,rfl,by omega,by show(out++[_]).length≤M;rw[List.length_append,List.length_singleton];omega,qps (p:=(x.1+1,(ek n x.2.1 t).2,x.2.2.1++[(t:Int)],())) h3 (by show 0≤x.1+1;omega) (by show x.1+1≤1000;omega) hm,h4⟩,hμ⟩;unfold b8;dsimp only;simp only[sw];rw[fo (by omega),a8 (by omega) (by omega),a8 (by omega) (by omega)];simp only[Int.toNat_natCast,e,e1,e2];rw[a8 (by omega) (by omega),a8 (by omega) (by omega),e3,e4,g1,Bool.not_false,cond_true,decide_eq_false hkw,cond_false,a8 (by omega) (by omega),a8 (by omega) (by omega),g3,Bool.not_true,cond_false,gm (by omega) (by omega),jj (by omega) (by omega),hK,aq,hfind,hkn,cond_false,decide_eq_false (by omega),cond_false,qm9 _ (by omega),aq,jj (by omega) (by omega),jj (by omega) (by omega),gm (by omega) (by omega),am]
 ·obtain rfl:i=(j8 n x.2.1).length:=by omega
  rw[List.drop_length]at h4;refine⟨.done (out,S),?_,h4.symm,h3⟩;unfold b8;dsimp only;rw[lj (by omega)]
theorem qzg{f i:Nat}{out o:List m3}(hi:i<out.length)(hins:qa M out (ud n w (out.getD i ab.z))= .inl o):p0 n w M (f+1) i out=p0 n w M f (i+1) o:=by
 show(if i<out.length then _ else _)=_;rw[if_pos hi,hins]
theorem qzh{f i:Nat}{out o:List m3}(hi:i<out.length)(hins:qa M out (ud n w (out.getD i ab.z))= .inr o):p0 n w M (f+1) i out= .inr o:=by
 show(if i<out.length then _ else _)=_;rw[if_pos hi,hins]
theorem q27{f i:Nat}{out:List m3}(hi:¬i<out.length):p0 n w M (f+1) i out= .inl out:=by
 show(if i<out.length then _ else _)=_;rw[if_neg hi]
theorem qu2{x c:m3}(hc:c∈ud n w x):c.2.2.1.length=x.2.2.1.length+1:=by
 obtain⟨t,_,_,k,_,rfl⟩:=qu1.1 hc;show(x.2.2.1++[(t:Int)]).length=_;rw[List.length_append,List.length_singleton]
abbrev first(n:az):List m3:=[(0,qdl n,[],())]
theorem q12(hM1:1≤M):i9 n w (M:Int)=some (match p0 n w M (M+1) 0 (first n)with| .inl o=>(true,o)| .inr o=>(false,o)):=by
 obtain⟨p1,p2,_⟩:=fq hv h;have hini:=qn9 h hv n.2.2.1;have hil:((qdl n).length:Int)=n.1:=qbc hini;have hK:ia ([0]++qdl n)=some (qhw (0::qdl n)):=jar _ (by rw[List.length_append,List.length_singleton];omega);have hS0:qhl n.1 (qav .str (qhw (0::qdl n)) true []) (first n):=qps (S:=[]) (out:=[]) (p:=(0,qdl n,[],())) (fun _ _ _ _ _=>rfl) (Int.le_refl _) (by show(0:Int)≤1000;omega) hini;have hL:∃o,rg w (M:Int) n.1 n.2.1 n.2.2.1 n.2.2.2.1 (0,first n,qav .str (qhw (0::qdl n)) true [])=some o∧match o with| .inl e=>p0 n w M (M+1) 0 (first n)= .inl e| .inr r=>r.1=false∧p0 n w M (M+1) 0 (first n)= .inr r.2:=by
  refine pd (fun(st:Int×List m3×Mp)=>∃i:Nat,st.1=(i:Int)∧i≤st.2.1.length∧st.2.1.length≤M∧qhl n.1 st.2.2 st.2.1∧(∀p∈st.2.1,PosOK n w p∧p.2.2.1.length≤i)∧p0 n w M (M+1-i) i st.2.1=p0 n w M (M+1) 0 (first n)) (fun st=>((M:Int)+1-st.1).toNat)
   (fun(o:List m3⊕(Bool×List m3))=>match o with| .inl e=>p0 n w M (M+1) 0 (first n)= .inl e| .inr r=>r.1=false∧p0 n w M (M+1) 0 (first n)= .inr r.2) _ ⟨0,rfl,Nat.zero_le _,by show 1≤M;omega,hS0,fun p hp=>by rw[List.mem_singleton.1 hp];exact⟨PosOK.first n w,Nat.le_refl _⟩,rfl⟩ (by show((M:Int)+1-0).toNat<many;unfold many;omega) ?_
  rintro⟨_,out,S⟩ ⟨i,rfl,h1,h2,h3,h4,h5⟩;have h1:i≤out.length:=h1;have h2:out.length≤M:=h2;have h3:qhl n.1 S out:=h3;have h4:∀p∈out,PosOK n w p∧p.2.2.1.length≤i:=h4;have ef:M+1-i=(M+1-(i+1))+1:=by omega
  have h5:p0 n w M (M+1-i) i out=p0 n w M (M+1) 0 (first n):=h5;rw[ef]at h5;by_cases hlt:i<out.length
  ·obtain⟨hx,hxl⟩:=h4 _ (a7 ab.z hlt);have hxm:=hx.mark h hv;obtain⟨o,e1,e2⟩:=qwv h hv hw hM hx (by omega) (i:Int) h2 h3;have hs:fm (n.1,n.2.1,n.2.2.1,n.2.2.2.1,()) (out.getD i ab.z).2.1=some (j8 n (out.getD i ab.z).2.1):=jbp h hv hxm;cases o with
   |inl e=>
    obtain⟨e3,e4⟩:qa M out (ud n w (out.getD i ab.z))= .inl e.1∧qhl n.1 e.2 e.1:=e2;rw[qzg h hv hw hM hlt e3]at h5;obtain⟨o',f1,f2,f3,f4,f5,f6,f7⟩:=qa9 (cs:=ud n w (out.getD i ab.z)) h2;have:o' =e.1:=by
     rcases f1 with f1|⟨f1,_⟩
     ·rw[e3]at f1;injection f1 with f1;exact f1.symm
     ·rw[e3]at f1;cases f1
    subst this;refine⟨.next (((i+1:Nat):Int),e.1,e.2),?_,⟨i+1,rfl,by show i+1≤e.1.length;omega,f2,e4,fun p hp=> ?_,h5⟩,by show((M:Int)+1-((i+1:Nat):Int)).toNat<((M:Int)+1-(i:Int)).toNat;omega⟩
    ·unfold ib;dsimp only;rw[fo (by omega),a8 (by omega) (by omega),a8 (by omega) (by omega)];simp only[Int.toNat_natCast];rw[hs,aq,e1,aq,qc9,gm (by omega) (by omega),am]
    ·rcases f5 p hp with hp|hp
     ·exact⟨(h4 p hp).1,by have:=(h4 p hp).2;omega⟩
     ·exact⟨hx.next p hp,by have:=qu2 h hv hw hM hp;omega⟩
   |inr r=>
    obtain⟨e3,e4⟩:r.1=false∧qa M out (ud n w (out.getD i ab.z))= .inr r.2:=e2;rw[qzh h hv hw hM hlt e4]at h5;refine⟨.ret r,?_,e3,h5.symm⟩;unfold ib;dsimp only;rw[fo (by omega),a8 (by omega) (by omega),a8 (by omega) (by omega)];simp only[Int.toNat_natCast];rw[hs,aq,e1,aq,q5u]
  ·rw[q27 h hv hw hM hlt]at h5;refine⟨.done out,?_,h5.symm⟩;unfold ib;dsimp only;rw[lj (by omega)]
 obtain⟨o,e1,e2⟩:=hL;have e1:rg w (M:Int) n.1 n.2.1 n.2.2.1 n.2.2.2.1 (0,[(0,qdl n,[],())],qav .str (qhw (0::qdl n)) true [])=some o:=e1;unfold i9;rw[qut h hv,aq];dsimp only;rw[jj (by omega) (by omega),hK,aq];refine(congrArg (fun z=>bnd z _) e1).trans ?_;rw[aq];cases o with
 |inl e=>rw[show p0 n w M (M+1) 0 (first n)= .inl e from e2];rfl
 |inr r=>
  obtain⟨e3,e4⟩:r.1=false∧p0 n w M (M+1) 0 (first n)= .inr r.2:=e2;rw[e4,q5u,←e3]
end
end Go.Proofs.Ytdhfhpdadbopkaa
