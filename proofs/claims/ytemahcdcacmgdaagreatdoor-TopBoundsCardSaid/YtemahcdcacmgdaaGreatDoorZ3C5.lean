/-
  Coverability: a node is added; a row; the tree is made.
-/
import Derived.Test.YtemahcdcacmgdaaGreatDoorZ3C4
set_option linter.all false
namespace Go.Proofs.YtemahcdcacmgdaaGreatDoor
open Go.K Go.M
theorem ji4{α:Type}[DecidableEq α]:∀{l S:List α},l.Nodup→(∀x∈l,x∈S)→l.length≤S.length
 |[],_,_,_=>Nat.zero_le _
 |x::l,S,hn,hs=>by
  obtain⟨h1,h2⟩:=List.nodup_cons.1 hn;have hx:=hs x List.mem_cons_self;have:=ji4 (S:=S.erase x) h2 fun y hy=>(List.mem_erase_of_ne (fun e=>h1 (by rw[←e];exact hy))).2 (hs y (List.mem_cons_of_mem _ hy))
  have hl:=List.length_erase_of_mem hx;have:=List.length_pos_of_mem hx;simp only[List.length_cons];omega
section
variable {n : b8} {m : List Int} {i d : Nat} {ns : List ae} {st : List (List Int)} (C : CI n m i d ns st)
include C
theorem jmn{b a:Nat}(x:ae)(ha:Anc ns b a)(hl:a<ns.length):Anc (ns++[x]) b a:=by
 induction ha with
 |refl=>exact .refl
 | @up a c h1 _ ih=>
  have:=C.ab a hl;refine .up ?_ (ih (by omega));unfold abN;rw[zg _ _ _ _ hl];exact h1
theorem CI.push(hi:i<ns.length)(hnwi:nwN ns i=true)(hd:d<n.2.1.length)(hc:ge (li n d) (ng ns i)=true){mk:List Int}{k g:Int}{o nw:Bool}{st' :List (List Int)}(hx:ExB n.1 mk)(hbig:jer (k6 (li n d) (ng ns i))=false)
  (hdom:∀q,q<n.1.toNat→mk.getD q 0= -1∨mk.getD q 0=(k6 (li n d) (ng ns i)).getD q 0) (ho0:o=false→mk=k6 (li n d) (ng ns i))
  (ho1:o=true→∃b:Nat,g=(b:Int)∧b≤i∧Anc ns b i∧qtv (ng ns b) (k6 (li n d) (ng ns i))=true∧ng ns b≠k6 (li n d) (ng ns i))
  (hinv:∀Y,q0m n Y→OmS n m Y mk) (hfl:∀S,FullS n m S→o=false∧mk∈S) (hnl:ns.length≤20000)
  (hst:(mk∈st∧st' =st∧nw=false)∨(mk∉st∧st' =st++[mk]∧nw=true∧st.length<300)):
  CI n m i (d+1) (ns++[(k6 (li n d) (ng ns i),mk,(i:Int),(d:Int),k,g,nw,o,())]) st' :=by
 generalize hxx:((k6 (li n d) (ng ns i),mk,(i:Int),(d:Int),k,g,nw,o,()):ae)=x;have e:∀j,j<ns.length→(ns++[x]).getD j ae.z=ns.getD j ae.z:=fun j hj=>zg _ _ _ _ hj
 have el:(ns++[x]).getD ns.length ae.z=x:=qk1 _ _ _;have hlen:(ns++[x]).length=ns.length+1:=by simp
 have hsub:∀s,s∈st' →s∈st∨s=mk:=fun s hs=>by
  rcases hst with⟨_,rfl,_⟩|⟨_,rfl,_⟩
  ·exact .inl hs
  ·exact(List.mem_append.1 hs).imp id List.mem_singleton.1
 have hsup:∀s,s∈st→s∈st' :=fun s hs=>by
  rcases hst with⟨_,rfl,_⟩|⟨_,rfl,_⟩
  ·exact hs
  ·exact List.mem_append_left _ hs
 have hmk:mk∈st' :=by
  rcases hst with⟨h1,rfl,_⟩|⟨_,rfl,_⟩
  ·exact h1
  ·exact List.mem_append_right _ (List.mem_singleton.2 rfl)
 refine⟨by omega,by omega,?_,fun j h0 hj=> ?_,fun s hs=>(hsub s hs).elim (C.sx s) (fun e=>e▸hx),?_,?_,fun j hj=> ?_,fun s hs=> ?_,fun j t hj hnw hor ht hcan=> ?_,fun Y hY s hs=>(hsub s hs).elim (C.inv Y hY s) (fun e=>e▸hinv Y hY),?_,?_,fun S hS=>⟨fun j hj=> ?_,fun s hs=>(hsub s hs).elim ((C.fl S hS).2 s) (fun e=>e▸(hfl S hS).2)⟩⟩
 ·have:=C.root;simp only[ng,plN,abN,omN,nwN,e 0 C.n0];exact this
 ·by_cases hjl:j<ns.length
  ·obtain⟨a,t,g1,gt,g2,g3,g4,g5,g6,g7,g8,g9⟩:=C.node j h0 hjl;refine⟨a,t,g1,⟨gt.1,by simp only[nwN,e a (by omega)];exact gt.2⟩,?_⟩;simp only[ng,plN,abN,trN,omN,grN,e j hjl,e a (by omega)]at*;refine⟨g2,g3,g4,g5,g6,g7,g8,fun hh=> ?_⟩;obtain⟨b,b1,b2,b3,b4,b5⟩:=g9 hh;exact⟨b,b1,b2,jmn C x b3 (by omega),by rw[e b (by omega)];exact b4,by rw[e b (by omega)];exact b5⟩
  ·obtain rfl:j=ns.length:=by omega
   refine⟨i,d,hi,⟨hd,by simp only[nwN,e i hi];exact hnwi⟩,?_⟩;simp only[ng,plN,abN,trN,omN,grN,el,e i hi];subst hxx;refine⟨rfl,rfl,hc,rfl,hbig,hdom,ho0,fun hh=> ?_⟩;obtain⟨b,b1,b2,b3,b4,b5⟩:=ho1 hh;exact⟨b,b1,by omega,jmn C _ b3 hi,by rw[e b (by omega)];exact b4,by rw[e b (by omega)];exact b5⟩
 ·rcases hst with⟨_,rfl,_⟩|⟨h1,rfl,_⟩
  ·exact C.sn
  ·exact List.nodup_append.2 ⟨C.sn,by simp,fun a ha b hb hab=>h1 (by rw[←List.mem_singleton.1 hb,←hab];exact ha)⟩
 ·rcases hst with⟨_,rfl,_⟩|⟨_,rfl,_,h1⟩
  ·exact C.sl
  ·simp;omega
 ·by_cases hjl:j<ns.length
  ·simp only[ng,e j hjl];exact hsup _ (C.mks j hjl)
  ·obtain rfl:j=ns.length:=by omega
   simp only[ng,el];subst hxx;exact hmk
 ·rcases hst with⟨_,rfl,_⟩|⟨h1,rfl,hnw,_⟩
  ·obtain⟨j,h1,h2,h3⟩:=C.new s hs;exact⟨j,by omega,by simp only[nwN,e j h1];exact h2,by simp only[ng,e j h1];exact h3⟩
  ·rcases List.mem_append.1 hs with hs|hs
   ·obtain⟨j,h1,h2,h3⟩:=C.new s hs;exact⟨j,by omega,by simp only[nwN,e j h1];exact h2,by simp only[ng,e j h1];exact h3⟩
   ·rw[List.mem_singleton.1 hs];exact⟨ns.length,by omega,by simp only[nwN,el];subst hxx;exact hnw,by simp only[ng,el];subst hxx;rfl⟩
 ·have hjl:j<ns.length:=by omega
  simp only[ng,nwN,e j hjl]at hnw hcan;by_cases hnew:j=i∧t=d
  ·obtain⟨rfl,rfl⟩:=hnew;exact⟨ns.length,by omega,by omega,by simp only[abN,el];subst hxx;rfl,by simp only[trN,el];subst hxx;rfl⟩
  ·obtain⟨k,k0,k1,k2,k3⟩:=C.cls j t hjl hnw (by omega) ht hcan;exact⟨k,k0,by omega,by simp only[abN,e k k1];exact k2,by simp only[trN,e k k1];exact k3⟩
 ·have hw:=C.cw;rw[hlen,qiq,jkt _ _ _ (Nat.le_refl _),hw];have hnw:nwN (ns++[x]) ns.length=nw:=by simp only[nwN,el];subst hxx;rfl
  rw[hnw];rcases hst with⟨_,rfl,rfl⟩|⟨_,rfl,rfl,_⟩<;>simp
 ·rw[hlen,jkt _ _ _ (by omega)];have:=C.cb;omega
 ·by_cases hjl:j<ns.length
  ·simp only[omN,e j hjl];exact(C.fl S hS).1 j hjl
  ·obtain rfl:j=ns.length:=by omega
   simp only[omN,el];subst hxx;exact(hfl S hS).1
theorem CI.room(hT:n.2.1.length≤60)(hd:d≤60)(hi:i≤ns.length){S:List (List Int)}(hS:FullS n m S):st.length<300∧ns.length≤20000:=by
 have h1:st.length≤60:=Nat.le_trans (ji4 C.sn (C.fl S hS).2) hS.len;have h2:=jhp ns i ns.length hi;have h3:=C.cw;have h4:=C.cb;have h5:n.2.1.length*cN ns i≤60*60:=Nat.mul_le_mul hT (by omega);omega
end
end Go.Proofs.YtemahcdcacmgdaaGreatDoor
