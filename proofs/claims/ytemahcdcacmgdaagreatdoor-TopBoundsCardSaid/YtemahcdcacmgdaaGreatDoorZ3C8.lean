/-
  Coverability: what closed sets of markings are told by; Bounded and its certificate.
-/
import Derived.Test.YtemahcdcacmgdaaGreatDoorZ3C7
set_option linter.all false
namespace Go.Proofs.YtemahcdcacmgdaaGreatDoor
open Go.K Go.M
def j27(k:ByteArray)(a:List (ByteArray×Bool)):List (ByteArray×Bool):=qeb .str k true a
def q91(l:List (List Int)):List (ByteArray×Bool):=l.foldl (fun a x=>j27 (qrq x) a) []
theorem jdt(l:List (List Int))(y:List Int):q91 (l++[y])=j27 (qrq y) (q91 l):=by
 unfold q91;rw[List.foldl_append];rfl
theorem jjp{x:List Int}:∀{l:List (List Int)},x∈l→dx .str (qrq x) (q91 l)=some true:=by
 intro l;refine q94 (P:=fun l:List (List Int)=>x∈l→dx .str (qrq x) (q91 l)=some true) (fun hx=>by cases hx) (fun l y ih hx=> ?_) l;rw[jdt];unfold j27;rw[qth];rcases List.mem_append.1 hx with h1|h1
 ·rw[ih h1];cases ym (qrq x) (qrq y)<;>rfl
 ·rw[List.mem_singleton.1 h1,qoe];rfl
section
variable {n : b8} (h : Small n) (hv : dp n = true)
include h hv
theorem jh0{m:List Int}(hm:ch n.1 m=true):fc n m=some (0,enL n m):=by
 have hN:=s9 hv;rw[qmn h m (by have:=(d7.1 hm).1;omega),hv,hm];rfl
theorem jhj{m:List Int}(hm:ch n.1 m=true){p:Int}(h0:0≤p)(h1:p<n.1):ma n [m] p 300=bnd (wu n m 300) (fun r3=>jak r3 (fun r4=>some (Sum.inl (r4.1,r4.2.1,r4.2.2))) (fun r5=>some (Sum.inr r5))):=by
 have en:((n.1,n.2.1,n.2.2.1,n.2.2.2.1,()):b8)=n:=rfl;have hE:=jh0 h hv hm;have hL:quf [m] p 300 [m] (([m]:List (List Int)).length:Int) n.1 n.2.1 n.2.2.1 n.2.2.2.1 0=some (.inl ()):=by
  refine ct (fun k:Nat=>(k:Int)) 1 (bw (by omega)) _ (fun k hk=> ?_) ?_ _ rfl
  ·obtain rfl:k=0:=by omega
   have hl:([m]:List (List Int)).length=1:=rfl;have hg:([m]:List (List Int)).getD 0 []=m:=rfl;simp(disch:=omega)only[yv,hl,hg,en,hE,rs];rfl
  ·simp(disch:=omega)only[yv,rs];rfl
 unfold ma;rw[hL,bi,zk];have hl:([m]:List (List Int)).length=1:=rfl;have hg:([m]:List (List Int)).getD 0 []=m:=rfl;simp(disch:=omega)only[hl,hg,rs]
theorem jpe{m:List Int}{l:List (List Int)}(hl:l.length≤1000)(hm:m∈l)(hx:∀x∈l,ch n.1 x=true)(hc:∀x∈l,∀t,t<n.2.1.length→ge (li n t) x=true→cj (li n t) x∈l):qfz n m l=some true:=by
 have hN:=s9 hv;have en:((n.1,n.2.1,n.2.2.1,n.2.2.2.1,()):b8)=n:=rfl;have h0:qqy m l l (l.length:Int) n.1 n.2.1 n.2.2.1 n.2.2.2.1 (0,[])=some (.inl (q91 l)):=by
  have e:q91 l=q91 (l.take l.length):=by rw[List.take_length]
  rw[e];refine ct (fun k:Nat=>((k:Int),q91 (l.take k))) l.length (bw (by omega)) _ (fun k hk=> ?_) ?_ _ rfl
  ·have hxk:=hx _ (ba [] hk);have hE:=jh0 h hv hxk;have hK:=qyv (show n.1≤1000 by omega) (ExB.of hxk);rw[ff l k [] hk,jdt];simp(disch:=omega)only[we,en,hE,hK,rs];rw[al];rfl
  ·simp(disch:=omega)only[we,rs]
 have h2:qq0 m l (l.length:Int) n.1 n.2.1 n.2.2.1 n.2.2.2.1 (q91 l) 0=some (.inl ()):=by
  refine ct (fun k:Nat=>(k:Int)) l.length (bw (by omega)) _ (fun k hk=> ?_) ?_ _ rfl
  ·have hxk:=hx _ (ba [] hk);have hmem:=ba [] hk;have hE:=jh0 h hv hxk;obtain⟨x,hxe⟩:∃x,l.getD k []=x:=⟨_,rfl⟩;rw[hxe]at hxk hE hmem;have hel:(enL n x).length=(enN n x n.2.1.length).length:=List.length_map _;have hle:(enN n x n.2.1.length).length≤n.2.1.length:=Nat.le_trans (List.length_filter_le _ _) (by simp);have h1:qqz m x l (l.length:Int) (k:Int) (enL n x) ((enL n x).length:Int) n.1 n.2.1 n.2.2.1 n.2.2.2.1 (q91 l) 0=some (.inl ()):=by
    refine ct (fun j:Nat=>(j:Int)) (enL n x).length (bw (by omega)) _ (fun j hj=> ?_) ?_ _ rfl
    ·have hg:(enL n x).getD j 0=(((enN n x n.2.1.length).getD j 0:Nat):Int):=q1m _ _ _ 0 _ (by omega);obtain⟨ht,hcan⟩:=jm8.1 (ba (α:=Nat) (l:=enN n x n.2.1.length) 0 (show j<_ by omega));generalize(enN n x n.2.1.length).getD j 0=t at hg ht hcan;have hin:=hc x hmem t ht hcan;have hf:=jec h hv hxk ht;rw[q72 (qrd h hv hxk ht) hcan,show ch n.1 (cj (n.2.1.getD t ah.z) x)=true from hx _ hin,cond_true]at hf;have hK:=qyv (show n.1≤1000 by omega) (ExB.of (hx _ hin));have hS:=jjp hin;have hg2:(some true:Option Bool).getD false=true:=rfl;simp(disch:=omega)only[wg,hg,en,hf,hK,hS,hg2,Bool.not_true,rs];rw[al]
    ·simp(disch:=omega)only[wg,rs]
   simp(disch:=omega)only[wh,en,hxe,hE,h1,rs];rw[al]
  ·simp(disch:=omega)only[wh,rs]
 have hK:=qyv (show n.1≤1000 by omega) (ExB.of (hx m hm));have hS:=jjp hm;unfold qfz;rw[h0,bi,zk,h2,bi,zk,hK,bi,hS];rfl
variable {m : List Int} (hm : ch n.1 m = true) {ns : List ae} {st : List (List Int)} (C : CI n m ns.length 0 ns st)
include hm C
theorem jt4{k:Nat}(hk:k<ns.length)(ho:omN ns k=true)(hlow:∀j,j<k→omN ns j=false):
  ∃(g:Nat) (q:Nat) (w1 w2:List Nat),g<ns.length∧grN ns k=(g:Int)∧kb (ns,st,()) 0 (g:Int)=some (iL w1)∧kb (ns,st,()) (g:Int) (k:Int)=some (iL w2)∧q<n.1.toNat∧(∀j,j<q→(plN ns k).getD j 0=(ng ns g).getD j 0)∧(plN ns k).getD q 0≠(ng ns g).getD q 0∧(plN ns k).length=n.1.toNat∧(ng ns g).length=n.1.toNat∧
   jz n m (6,(q:Int),iL w1,iL w2,[],[],[],[],())=some true:=by
 have hN:=s9 hv;have hk0:0<k:=by
  rcases Nat.eq_zero_or_pos k with rfl|h0
  ·rw[C.root.2.2.2.1]at ho;cases ho
  ·exact h0
 obtain⟨a,t,g1,gt,g2,g3,g4,g5,g6,g7,g8,g9⟩:=C.node k hk0 hk;obtain⟨g,e1,e2,e3,e4,e5⟩:=g9 ho;have ha:=q83 C h hv hm (a:=a) (by omega) fun j hj=>hlow j (by omega)
 have hg:=q83 C h hv hm (a:=g) (by omega) fun j hj=>hlow j (by omega)
 have ep:plN ns k=cj (li n t) (ng ns a):=by rw[g5,qcj h hv ha gt.1 g4]
 have hp:ch n.1 (cj (li n t) (ng ns a))=true:=by
  rw[q1t (qrd h hv ha gt.1) g4,←ep];show(!jer (plN ns k))=true;rw[g6];rfl
 obtain⟨w1,hw1⟩:=j62 C (a:=g) (by omega);obtain⟨w2,hw2⟩:=j32 C e3 (show a<ns.length by omega);have hw3:AncW ns g k (w2++[t]):= .up g1 hk gt.2 g2 g3 hw2;have l1:=hw1.len;have l2:=hw3.len;have l3:=jhp ns g ns.length (by omega);have l4:=jhp ns k ns.length (by omega);have l5:=C.cw;have l6:=C.sl;have hW1:=jmi C h hv hm hw1 fun j hj=>hlow j (by omega)
 rw[C.root.1]at hW1;have hW2:Way n (ng ns g) (w2++[t]) (cj (li n t) (ng ns a)):= .snoc (jmi C h hv hm hw2 fun j hj=>hlow j (by omega)) gt.1 g4 hp;obtain⟨zl,zb⟩:=d7.1 hg;obtain⟨pl,pb⟩:=d7.1 hp;rw[ep]at e4 e5⊢;have hq:∃q,q<n.1.toNat∧(cj (li n t) (ng ns a)).getD q 0≠(ng ns g).getD q 0:=by
  apply Classical.byContradiction;intro hno;exact e5 (j0r (by omega) fun q hq=>Classical.byContradiction fun hne=>hno ⟨q,by omega,fun e=>hne e.symm⟩)
 obtain⟨q,hq,hne,hmin⟩:∃q,q<n.1.toNat∧(cj (li n t) (ng ns a)).getD q 0≠(ng ns g).getD q 0∧∀j,j<q→(cj (li n t) (ng ns a)).getD j 0=(ng ns g).getD j 0:=by
  obtain⟨q,h1,h2⟩:=hq
  induction q using Nat.strongRecOn with
  |_ q ih=>
   by_cases hex:∃j,j<q∧(cj (li n t) (ng ns a)).getD j 0≠(ng ns g).getD j 0
   ·obtain⟨j,h3,h4⟩:=hex;exact ih j h3 (by omega) h4
   ·exact⟨q,h1,h2,fun j hj=>Classical.byContradiction fun hne=>hex ⟨j,hj,hne⟩⟩
 refine⟨g,q,w1,w2++[t],by omega,e1,jm3 st hw1 (by omega),jm3 st hw3 (by omega),hq,hmin,hne,by omega,by omega,?_⟩;have r1:=juj h hv hW1 hm (by omega);have r2:=juj h hv hW2 hg (by omega);have hb:=jhl (x:=ng ns g) (y:=cj (li n t) (ng ns a)) (by omega) (by omega);rw[e4]at hb;have hlt:(ng ns g).getD q 0<(cj (li n t) (ng ns a)).getD q 0:=by
  have:=q69.1 e4 q (by omega);have:=pb q (by omega);omega
 have hwl:(iL (w2++[t])).length=w2.length+1:=by simp
 have hE:=jh0 h hv hm;simp(disch:=omega)only[jz,hE,hwl,r1,r2,hb,rs];rw[decide_eq_true hlt]
end
end Go.Proofs.YtemahcdcacmgdaaGreatDoor
