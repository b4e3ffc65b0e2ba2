/-
  Coverability: the way between nodes, runs, the first node with Omega.
-/
import Derived.Test.YtemahcdcacmgdaaGreatDoorZ3C6
set_option linter.all false
namespace Go.Proofs.YtemahcdcacmgdaaGreatDoor
open Go.K Go.M
theorem j3c(l:List Int)(hl:l.length≤1000000):jv l=some l.reverse:=by
 have e0:l=bg l.length fun v=>if v<0∨l.length-1-0<v then l.getD (l.length-1-v) 0 else l.getD v 0:=by
  conv=>lhs;rw[qs1 l 0]
  exact f5 fun v hv=>by rw[if_neg (by omega)]
 have e1:l.reverse=bg l.length fun v=>if v<l.length/2∨l.length-1-l.length/2<v then l.getD (l.length-1-v) 0 else l.getD v 0:=by
  have:l.reverse=bg l.length fun v=>l.getD (l.length-1-v) 0:=by
   rw[qs1 l.reverse 0,List.length_reverse];exact f5 fun v hv=>by
    rw[List.getD_eq_getElem?_getD,List.getElem?_reverse hv,List.getD_eq_getElem?_getD]
  rw[this];exact f5 fun v hv=>by
   by_cases h1:v<l.length/2∨l.length-1-l.length/2<v
   ·rw[if_pos h1]
   ·rw[if_neg h1];congr 1;omega
 have hL:v7 (0,((l.length:Int)-1),l)=some (.inl l.reverse):=by
  rw[e1];refine ct (fun k:Nat=>((k:Int),(l.length:Int)-1-(k:Int),bg l.length fun v=>if v<k∨l.length-1-k<v then l.getD (l.length-1-v) 0 else l.getD v 0)) (l.length/2) (bw (by omega)) _ (fun k hk=> ?_) ?_ _ (by rw[←e0];simp)
  ·generalize hR:(bg l.length fun v=>if v<k∨l.length-1-k<v then l.getD (l.length-1-v) 0 else l.getD v 0)=R;have hRl:R.length=l.length:=by rw[←hR];exact om _ _
   have hj:((l.length:Int)-1-(k:Int))=((l.length-1-k:Nat):Int):=by omega
   have g1:R.getD k 0=l.getD k 0:=by rw[←hR,wa (by omega),if_neg (by omega)]
   have g2:R.getD (l.length-1-k) 0=l.getD (l.length-1-k) 0:=by rw[←hR,wa (by omega),if_neg (by omega)]
   have hs1:(R.set k (R.getD (l.length-1-k) 0)).length=l.length:=by rw[List.length_set];exact hRl
   have hdd:decide ((R.length:Nat)=(R.set k (R.getD (l.length-1-k) 0)).length)=true:=decide_eq_true (by omega);rw[hj];simp(disch:=omega)only[gz,hRl,hs1,hdd,q7e,rs];rw[al,g1,g2];refine congrArg some (congrArg LR.next (Prod.ext rfl (Prod.ext (by show((l.length-1-k:Nat):Int)-1=(l.length:Int)-1-((k+1:Nat):Int);omega) ?_)));show(R.set k _).set (l.length-1-k) _=_;rw[←hR,qto,qto];refine f5 fun v hv=> ?_
   by_cases h1:v=l.length-1-k
   ·rw[if_pos h1,if_pos (by omega)];congr 1;omega
   ·rw[if_neg h1];by_cases h2:v=k
    ·rw[if_pos h2,if_pos (by omega),h2]
    ·rw[if_neg h2];by_cases h3:v<k∨l.length-1-k<v
     ·rw[if_pos h3,if_pos (by omega)]
     ·rw[if_neg h3,if_neg (by omega)]
  ·have hn:((l.length/2:Nat):Int)≥(l.length:Int)-1-((l.length/2:Nat):Int):=by omega
   simp(disch:=omega)only[gz,rs]
 unfold jv;rw[jev (by omega) (by omega),hL];rfl
abbrev iL(w:List Nat):List Int:=w.map fun t:Nat=>(t:Int)
theorem AncW.le{ns:List ae}{b a:Nat}{w:List Nat}(h:AncW ns b a w):b≤a:=by
 induction h with
 |refl=>exact Nat.le_refl _
 |up h1 _ _ _ _ _ ih=>omega
abbrev wSt(ns:List ae)(st:List (List Int))(b:Int)(s:Int×List Int):Option (LR (Int×List Int) (List Int) (List Int)):=mc (ns,st,()) b s.1 s.2 (fun a' =>some (.next a')) (fun e=>some (.done e)) (fun r=>some (.ret r))
theorem jm3{ns:List ae}(st:List (List Int)){b a:Nat}{w:List Nat}(h:AncW ns b a w)(hl:w.length≤1000):kb (ns,st,()) (b:Int) (a:Int)=some (iL w):=by
 have key:∀{a:Nat} {w:List Nat},AncW ns b a w→∀(m:Nat) (out:List Int),w.length<m→out.length+w.length≤1000→qvx (wSt ns st (b:Int)) m ((a:Int),out)=some (.inl (out++(iL w).reverse)):=by
  intro a w h
  induction h with
  |refl=>
   intro m out hm _;obtain⟨m,rfl⟩:∃q,m=q+1:=⟨m-1,by omega⟩;rw[ry];have:wSt ns st (b:Int) ((b:Int),out)=some (.done out):=by simp(disch:=omega)only[wSt,mc,rs]
   simp only[this];simp[bi,lr]
  | @up a c t w h1 h2 _ h3 h4 h5 ih=>
   intro m out hm hb;simp only[List.length_append,List.length_singleton]at hm hb;obtain⟨m,rfl⟩:∃q,m=q+1:=⟨m-1,by omega⟩;have hle:=h5.le;have h3' :(ns.getD a ae.z).2.2.1=(c:Int):=h3;have h4' :(ns.getD a ae.z).2.2.2.1=(t:Int):=h4;rw[ry];have:wSt ns st (b:Int) ((a:Int),out)=some (.next ((c:Int),out++[(t:Int)])):=by simp(disch:=omega)only[wSt,mc,h3',h4',rs]
   simp only[this,bi];show qvx _ m ((c:Int),out++[(t:Int)])=_;rw[ih m (out++[(t:Int)]) (by omega) (by simp;omega)];simp
 have hL:qko (ns,st,()) (b:Int) ((a:Int),[])=some (.inl (iL w).reverse):=by
  have:=key h 2000 [] (by omega) (by simp;omega);rw[List.nil_append]at this;exact jni this (bw (by omega))
 have hlen:(iL w).length=w.length:=List.length_map _;have hr:=j3c (iL w).reverse (by rw[List.length_reverse];omega);rw[List.reverse_reverse]at hr;unfold kb;rw[hL,bi,zk,hr,bi,qir (by simp)]
def jcb(n:b8)(x:List Int)(w:List Nat):List Int:=w.foldl (fun m t=>cj (li n t) m) x
theorem jxp{n:b8}{x y:List Int}{w:List Nat}(h:Way n x w y)(hx:ch n.1 x=true):y=jcb n x w∧ch n.1 y=true∧∀k,k<w.length→w.getD k 0<n.2.1.length∧ch n.1 (jcb n x (w.take k))=true∧ge (li n (w.getD k 0)) (jcb n x (w.take k))=true∧ch n.1 (cj (li n (w.getD k 0)) (jcb n x (w.take k)))=true:=by
 induction h with
 |nil=>exact⟨rfl,hx,fun k hk=>absurd hk (Nat.not_lt_zero k)⟩
 | @snoc w y t hw ht hc hm ih=>
  obtain⟨e,hy,hk⟩:=ih;refine⟨by unfold jcb;rw[List.foldl_append,←show y=List.foldl _ x w from e];rfl,hm,fun k hkl=> ?_⟩;simp only[List.length_append,List.length_singleton]at hkl;by_cases hlt:k<w.length
  ·rw[zg _ _ _ _ hlt,List.take_append_of_le_length (by omega)];exact hk k hlt
  ·obtain rfl:k=w.length:=by omega
   rw[qk1,List.take_append_of_le_length (Nat.le_refl _),List.take_length,←e];exact⟨ht,hy,hc,hm⟩
theorem jt7{n:b8}(h:Small n)(hv:dp n=true){m:List Int}(hm:ch n.1 m=true){t:Nat}(ht:t<n.2.1.length):qct n m (t:Int)=some (jh3 n m t):=by
 have F:=qrd h hv hm ht;have h1:=jec h hv hm ht;unfold qcs at h1;rw[wm h m (by have:=F.ml;have:=F.N;omega),hv,hm]at h1;cases hq:qct n m (t:Int)with
 |none=>rw[hq]at h1;cases h1
 |some r=>rw[hq]at h1;exact h1
theorem juj{n:b8}(h:Small n)(hv:dp n=true){x y:List Int}{w:List Nat}(hw:Way n x w y)(hx:ch n.1 x=true)(hl:w.length≤1000):qle n x (iL w)=some (y,(w.length:Int),0):=by
 obtain⟨e,_,hk⟩:=jxp hw hx;have hN:=s9 hv;have hxl:=(d7.1 hx).1;have hlen:(iL w).length=w.length:=List.length_map _;have hL:q4d (iL w) (iL w) ((iL w).length:Int) n.1 n.2.1 n.2.2.1 n.2.2.2.1 (x,0)=some (.inl y):=by
  have e2:y=jcb n x (w.take w.length):=by rw[List.take_length];exact e
  rw[e2,hlen];refine ct (fun k:Nat=>(jcb n x (w.take k),(k:Int))) w.length (bw (by omega)) _ (fun k hkl=> ?_) ?_ _ rfl
  ·obtain⟨g1,g2,g3,g4⟩:=hk k hkl;have hf:=jt7 h hv g2 g1;rw[q72 (qrd h hv g2 g1) g3,g4,cond_true]at hf;have hg:(iL w).getD k 0=((w.getD k 0:Nat):Int):=q1m _ _ _ 0 _ hkl;have en:((n.1,n.2.1,n.2.2.1,n.2.2.2.1,()):b8)=n:=rfl;have e3:jcb n x (w.take (k+1))=cj (li n (w.getD k 0)) (jcb n x (w.take k)):=by
    rw[ff _ k 0 hkl];unfold jcb;rw[List.foldl_append];rfl
   rw[e3];simp(disch:=omega)only[qf5,hg,en,hf,rs];rw[al]
  ·simp(disch:=omega)only[qf5,rs]
 unfold qle;rw[wm h x (by omega),hv,hx];simp(disch:=omega)only[Bool.and_self,Bool.not_true,hlen,hL,lz x (by omega),rs];rw[show((iL w).length:Int)=(w.length:Int) by rw[hlen]]at hL;rw[hL];rfl
end Go.Proofs.YtemahcdcacmgdaaGreatDoor
