/-
  Migrate: nothing is lost by a change with a certificate.
-/
import Derived.Test.YtdhfhpdadbopkaaZ3M6
set_option linter.all false
namespace Go.Proofs.Ytdhfhpdadbopkaa
open Go.K Go.M
abbrev Ms:Type:=List (List Int)
def qvn(l:Ms)(y:List Int):Bool:=l.any fun z=>decide (y=z)
def qim(l:Ms)(y:List Int):Ms:=bif qvn l y then l else l++[y]
theorem jao{l:Ms}{y:List Int}:qvn l y=true↔y∈l:=by
 unfold qvn;rw[List.any_eq_true];constructor
 ·rintro⟨z,hz,h⟩;rw[of_decide_eq_true h];exact hz
 ·intro h;exact⟨y,h,decide_eq_true rfl⟩
theorem q9x{l:Ms}{y z:List Int}:z∈qim l y↔z∈l∨z=y:=by
 unfold qim;cases h:qvn l y with
 |true=>
  have:=jao.1 h;constructor
  ·exact .inl
  ·rintro(h|rfl)
   ·exact h
   ·exact this
 |false=>simp[List.mem_append]
theorem q9w(l:Ms)(y:List Int):(qim l y).length≤l.length+1:=by
 unfold qim;cases qvn l y<;>simp
theorem jcm(l:Ms)(y:List Int):l.length≤(qim l y).length:=by
 unfold qim;cases qvn l y<;>simp
theorem jcl(l:Ms)(y:List Int){i:Nat}(hi:i<l.length):(qim l y).getD i []=l.getD i []:=by
 unfold qim;cases qvn l y with
 |true=>rfl
 |false=>
  show(l++[y]).getD i []=_;rw[List.getD_eq_getElem?_getD,List.getD_eq_getElem?_getD,List.getElem?_append_left hi]
theorem jce(l:Ms)(y:List Int)(hl:l.length≤1000000)(hy:y.length≤1000000):ep l y=some (qvn l y):=by
 have hL:n9 l y (l.length:Int) 0=some (qn6 (fun i=>(i:Int)) (og (fun z=>decide (y=z)) l)):=by
  refine k7 l [] (fun z=>decide (y=z)) (fun i=>(i:Int)) (by omega) (fun i hi=> ?_) ?_
  ·simp(disch:=omega)only[ew,qgq,qx y (l.getD i []) hy,rs];rw[am];exact qar
  ·simp(disch:=omega)only[ew,rs]
 unfold ep j4;rw[hL,al,t6,al,tz];rfl
theorem jcc(l:Ms)(y:List Int)(hl:l.length≤1000000)(hy:y.length≤1000000):eo l y=some (qvn l y):=by
 have hL:n7 l y (l.length:Int) 0=some (qn6 (fun i=>(i:Int)) (og (fun z=>decide (y=z)) l)):=by
  refine k7 l [] (fun z=>decide (y=z)) (fun i=>(i:Int)) (by omega) (fun i hi=> ?_) ?_
  ·simp(disch:=omega)only[eu,qaw,qx y (l.getD i []) hy,rs];rw[am];exact qar
  ·simp(disch:=omega)only[eu,rs]
 unfold eo j3;rw[hL,al,t6,al,tz];rfl
theorem jcd{n:a8}(h:Small n)(hv:bv n=true)(l:Ms)(hl:l.length≤1000000)(hm:∀y∈l,y.length≤1000000):en l n=some (l.any fun y=>decide (y=qn7 n)):=by
 obtain⟨p1,p2,p3,p4,p5,_⟩:=cf hv h;have hL:n5 l n (l.length:Int) 0=some (qn6 (fun i=>(i:Int)) (og (fun y=>decide (y=qn7 n)) l)):=by
  refine k7 l [] (fun y=>decide (y=qn7 n)) (fun i=>(i:Int)) (by omega) (fun i hi=> ?_) ?_
  ·have ho:=(qwt h hv p5).2;simp(disch:=omega)only[er,qh,ho,qx (l.getD i []) (qn7 n) (hm _ (ba [] hi)),rs];rw[am];exact qar
  ·simp(disch:=omega)only[er,rs]
 unfold en j2;rw[hL,al,t6,al,tz]
def sk{α:Type}(c:α→Bool)(g:α→List Int)(o:Ms)(ts:List α):Ms:=ts.foldl (fun o t=>bif c t then qim o (g t)else o) o
theorem qzf{α:Type}(c:α→Bool)(g:α→List Int)(o:Ms)(ts:List α)(t:α):sk c g o (ts++[t])=bif c t then qim (sk c g o ts) (g t)else sk c g o ts:=by
 unfold sk;rw[List.foldl_append];rfl
theorem qet{α:Type}{c:α→Bool}{g:α→List Int}{z:List Int}:∀{ts:List α} {o:Ms},z∈sk c g o ts↔z∈o∨∃t∈ts,c t=true∧z=g t
 |[],o=>by simp[sk]
 |t::ts,o=>by
  have e:sk c g o (t::ts)=sk c g (bif c t then qim o (g t)else o) ts:=rfl;rw[e,qet];cases h:c t with
  |true=>
   rw[cond_true,q9x];simp only[List.mem_cons,exists_eq_or_imp,h,true_and,or_assoc]
  |false=>simp[h]
theorem qil{α:Type}(c:α→Bool)(g:α→List Int):∀(ts:List α) (o:Ms),(sk c g o ts).length≤o.length+ts.length
 |[],o=>by simp[sk]
 |t::ts,o=>by
  have e:sk c g o (t::ts)=sk c g (bif c t then qim o (g t)else o) ts:=rfl;have h1:=qil c g ts (bif c t then qim o (g t)else o);have h2:=q9w o (g t);rw[e];cases h:c t with
  |true=>rw[h,cond_true]at h1;simp only[List.length_cons,cond_true];omega
  |false=>rw[h,cond_false]at h1;simp only[List.length_cons,cond_false];omega
theorem q6l{α:Type}(c:α→Bool)(g:α→List Int):∀(ts:List α) (o:Ms),o.length≤(sk c g o ts).length∧∀i,i<o.length→(sk c g o ts).getD i []=o.getD i []
 |[],o=>⟨Nat.le_refl _,fun _ _=>rfl⟩
 |t::ts,o=>by
  have e:sk c g o (t::ts)=sk c g (bif c t then qim o (g t)else o) ts:=rfl;obtain⟨h1,h2⟩:=q6l c g ts (bif c t then qim o (g t)else o);have h3:=jcm o (g t);rw[e];cases h:c t with
  |true=>
   rw[h,cond_true]at h1 h2;exact⟨by rw[cond_true];omega,fun i hi=>by rw[cond_true,h2 i (by omega),jcl _ _ hi]⟩
  |false=>rw[h,cond_false]at h1 h2;exact⟨h1,h2⟩
def qex(n:a8)(lab:ByteArray)(m:List Int)(t:Nat):Bool:=eqS (yj n t) lab&&okB n m t
def sj(n:a8)(lab:ByteArray)(l:Ms):Ms:=l.foldl (fun o m=>sk (qex n lab m) (fun t=>(cp n m t).2) o (List.range n.2.1.length)) []
theorem q59(n:a8)(lab:ByteArray)(l:Ms)(m:List Int):sj n lab (l++[m])=sk (qex n lab m) (fun t=>(cp n m t).2) (sj n lab l) (List.range n.2.1.length):=by
 unfold sj;rw[List.foldl_append];rfl
theorem qlp{n:a8}{lab:ByteArray}{z:List Int}:∀{l o:Ms},z∈l.foldl (fun o m=>sk (qex n lab m) (fun t=>(cp n m t).2) o (List.range n.2.1.length)) o↔z∈o∨∃m∈l,∃t,t<n.2.1.length∧qex n lab m t=true∧z=(cp n m t).2
 |[],o=>by simp
 |m::l,o=>by
  rw[List.foldl_cons,qlp,qet];simp only[List.mem_range,List.mem_cons,exists_eq_or_imp,or_assoc]
theorem qr9{n:a8}{lab:ByteArray}{l:Ms}{z:List Int}:z∈sj n lab l↔∃m∈l,∃t,t<n.2.1.length∧qex n lab m t=true∧z=(cp n m t).2:=by
 unfold sj;rw[qlp];simp
theorem qlo(n:a8)(lab:ByteArray):∀(l o:Ms),(l.foldl (fun o m=>sk (qex n lab m) (fun t=>(cp n m t).2) o (List.range n.2.1.length)) o).length≤o.length+l.length*n.2.1.length
 |[],o=>by simp
 |m::l,o=>by
  have h1:=qlo n lab l (sk (qex n lab m) (fun t=>(cp n m t).2) o (List.range n.2.1.length));have h2:=qil (qex n lab m) (fun t=>(cp n m t).2) (List.range n.2.1.length) o;rw[List.length_range]at h2;rw[List.foldl_cons,List.length_cons,Nat.succ_mul];omega
theorem qr8(n:a8)(lab:ByteArray)(l:Ms):(sj n lab l).length≤l.length*n.2.1.length:=by
 have:=qlo n lab l [];rw[List.length_nil,Nat.zero_add]at this;exact this
def qd7(n:a8)(l:Ms):Prop:=∀m∈l,c7 n.1 m=true
theorem qxr{n:a8}(h:Small n)(hv:bv n=true){lab:ByteArray}{l:Ms}(hl:qd7 n l):qd7 n (sj n lab l):=fun z hz=>by
 obtain⟨m,hm,t,ht,hf,rfl⟩:=qr9.1 hz;unfold qex at hf;rw[Bool.and_eq_true]at hf;exact quu h hv (hl m hm) ht hf.2
theorem q9e{n:a8}(h:Small n)(hv:bv n=true)(lab:ByteArray){m:List Int}(hm:c7 n.1 m=true)(V:Ms)(a b:Int)(o:Ms)(ho:o.length≤500000):
  qol lab m V a b (n.2.1.length:Int) n.1 n.2.1 n.2.2.1 n.2.2.2.1 (0,o)=some (.inl (sk (qex n lab m) (fun t=>(cp n m t).2) o (List.range n.2.1.length))):=by
 have ht:=h.trans;refine wa (fun i=>((i:Int),sk (qex n lab m) (fun t=>(cp n m t).2) o (List.range i))) n.2.1.length (h8 (by omega)) _ (fun i hi=> ?_) ?_ _ rfl
 ·have hF:jd (n.1,n.2.1,n.2.2.1,n.2.2.2.1,()) m (i:Int)=some (cp n m i):=q0m h hv hm hi;have hlen:=qil (qex n lab m) (fun t=>(cp n m t).2) (List.range i) o;rw[List.length_range]at hlen;have e1:eqS (n.2.1.getD i ae.z).1 lab=eqS (yj n i) lab:=rfl;have e2:decide ((cp n m i).1=0)=okB n m i:=rfl;have e4:qex n lab m i=(eqS (yj n i) lab&&okB n m i):=rfl;rw[List.range_succ,qzf,e4];generalize sk (qex n lab m) (fun t=>(cp n m t).2) o (List.range i)=A at hlen⊢;unfold ze;simp only[vy];rw[oe (by omega),fa (by omega) (by omega),fa (by omega) (by omega)];simp only[Int.toNat_natCast];rw[e1,hF];simp only[al,e2];cases c1:eqS (yj n i) lab with
  |false=>simp(disch:=omega)only[am,Bool.not_false,Bool.false_and,rs]
  |true=>
   cases c2:okB n m i with
   |false=>simp(disch:=omega)only[am,Bool.not_true,Bool.true_and,rs]
   |true=>
    have hy:=jh (quu h hv hm hi c2);obtain⟨p1,p2,_⟩:=cf hv h;rw[jce _ _ (by omega) (by omega)];unfold qim;simp only[Bool.and_self,Bool.not_true,cond_false,cond_true,al];cases qvn A (cp n m i).2 with
    |true=>simp(disch:=omega)only[am,Bool.not_true,rs]
    |false=>simp(disch:=omega)only[am,Bool.not_false,rs]
 ·simp(disch:=omega)only[ze,rs]
theorem q7z{n:a8}(h:Small n)(hv:bv n=true)(lab:ByteArray){l:Ms}(hm:qd7 n l)(hl:l.length≤1000):ud n l lab=some (sj n lab l):=by
 have ht:=h.trans;have hL:qom lab l (l.length:Int) n.1 n.2.1 n.2.2.1 n.2.2.2.1 (0,[])=some (.inl (sj n lab l)):=by
  refine wa (fun i=>((i:Int),sj n lab (l.take i))) l.length (h8 (by omega)) _ (fun i hi=> ?_) ?_ _ rfl
  ·have e:(l.take i).length=i:=by rw[List.length_take];omega
   have hlen:=qr8 n lab (l.take i);rw[e]at hlen;have hmul:i*n.2.1.length≤1000*100:=Nat.mul_le_mul (by omega) (by omega);unfold zf;rw[oe (by omega),fa (by omega) (by omega),fa (by omega) (by omega)];simp only[Int.toNat_natCast];rw[q9e h hv lab (hm _ (ba [] hi)) _ _ _ _ (by omega),al,qi7,qkj (by omega) (by omega),am,iv l i [] hi,q59]
  ·rw[List.take_length];simp(disch:=omega)only[zf,rs]
 unfold ud;rw[hL];rfl
def jgn(n:a8)(l:Ms):Prop:=∀m∈l,∀t,t<n.2.1.length→qex n ⟨#[]⟩ m t=true→(cp n m t).2∈l
theorem q0x{n:a8}(h:Small n)(hv:bv n=true)(a:Int)(v o:Ms)(hm:qd7 n v)(hl:v.length≤100000)(ho:o.length≤500000):
  qha a v (v.length:Int) n.1 n.2.1 n.2.2.1 n.2.2.2.1 (0,o)=some (.inl (sk (fun _=>true) id o v)):=by
 obtain⟨p1,p2,_⟩:=cf hv h;refine wa (fun i=>((i:Int),sk (fun _=>true) id o (v.take i))) v.length (h8 (by omega)) _ (fun i hi=> ?_) ?_ _ rfl
 ·have e:(v.take i).length=i:=by rw[List.length_take];omega
  have hlen:=qil (fun _=>true) id (v.take i) o;have hy:=jh (hm _ (ba [] hi));rw[e]at hlen;rw[iv v i [] hi,qzf];generalize sk (fun _=>true) id o (v.take i)=A at hlen⊢;unfold q0 qim;rw[oe (by omega),fa (by omega) (by omega),fa (by omega) (by omega)];simp only[Int.toNat_natCast];rw[jcc _ _ (by omega) (by omega),al];simp only[id,cond_true];cases qvn A (v.getD i [])with
  |true=>simp(disch:=omega)only[am,Bool.not_true,rs]
  |false=>simp(disch:=omega)only[am,Bool.not_false,rs]
 ·rw[List.take_length];simp(disch:=omega)only[q0,rs]
theorem q74(l:Ms)(h:l.length≤1000000):gm l=some l:=by
 unfold gm i7;simp(disch:=omega)only[List.nil_append,rs]
theorem jaj{α:Type}(d:α)(l:List α)(i:Nat)(h:i<l.length):(l.drop i).take 1=[l.getD i d]:=by
 rw[oh l i d h,List.drop_eq_getElem_cons h];rfl
theorem qmp{n:a8}(h:Small n)(hv:bv n=true){l:Ms}(hm:qd7 n l)(hl:l.length≤200000):
  ∃o,kf n l=some o∧(∀x∈l,x∈o)∧qd7 n o∧o.length≤max l.length 300∧(o.length≤200→jgn n o):=by
 have ht:=h.trans;have hL:∃o,qhb n.1 n.2.1 n.2.2.1 n.2.2.2.1 (0,l)=some o∧match o with| .inl o=>(∀x∈l,x∈o)∧qd7 n o∧o.length≤max l.length 300∧(o.length≤200→jgn n o)| .inr _=>False:=by
  refine z7 (fun(st:Int×Ms)=>∃i:Nat,st.1=(i:Int)∧i≤st.2.length∧i≤201∧(∀x∈l,x∈st.2)∧qd7 n st.2∧st.2.length≤max l.length 300∧∀j,j<i→∀t,t<n.2.1.length→qex n ⟨#[]⟩ (st.2.getD j []) t=true→(cp n (st.2.getD j []) t).2∈st.2) (fun st=>(1000-st.1).toNat)
   (fun(o:Ms⊕Ms)=>match o with| .inl o=>(∀x∈l,x∈o)∧qd7 n o∧o.length≤max l.length 300∧(o.length≤200→jgn n o)| .inr _=>False) _ ⟨0,rfl,Nat.zero_le _,by omega,fun x h=>h,hm,Nat.le_max_left _ _,fun j hj=>by omega⟩ (by show(1000-(0:Int)).toNat<many;unfold many;omega) ?_
  rintro⟨_,o⟩ ⟨i,rfl,h1,h2,h3,h4,h5,h6⟩;have h1:i≤o.length:=h1;have h3:∀x∈l,x∈o:=h3;have h4:qd7 n o:=h4;have h5:o.length≤max l.length 300:=h5;have h6:∀j,j<i→∀t,t<n.2.1.length→qex n ⟨#[]⟩ (o.getD j []) t=true→(cp n (o.getD j []) t).2∈o:=h6;by_cases c1:i<o.length
  ·by_cases c2:o.length≤200
   ·have hmi:=h4 _ (ba [] c1);have hone:qd7 n [o.getD i []]:=fun z hz=>by rw[List.mem_singleton.1 hz];exact hmi
    have hs:ud (n.1,n.2.1,n.2.2.1,n.2.2.2.1,()) [o.getD i []] ⟨#[]⟩=some (sj n ⟨#[]⟩ [o.getD i []]):=q7z h hv ⟨#[]⟩ hone (by simp);have hsl:=qr8 n ⟨#[]⟩ [o.getD i []];rw[List.length_singleton,Nat.one_mul]at hsl;have hsm:=qxr h hv (lab:=⟨#[]⟩) hone;have hc:=q0x h hv (i:Int) (sj n ⟨#[]⟩ [o.getD i []]) o hsm (by omega) (by omega);have e1:((i:Int)+1).toNat-(i:Int).toNat=1:=by omega
    obtain⟨k1,k2⟩:=q6l (fun _=>true) id (sj n ⟨#[]⟩ [o.getD i []]) o;have k3:=qil (fun _=>true) id (sj n ⟨#[]⟩ [o.getD i []]) o;refine⟨.next (((i+1:Nat):Int),sk (fun _=>true) id o (sj n ⟨#[]⟩ [o.getD i []])),?_,⟨i+1,rfl,?_,by omega,?_,?_,?_,?_⟩,by show(1000-((i+1:Nat):Int)).toNat<(1000-(i:Int)).toNat;omega⟩
    ·unfold nh;dsimp only;rw[oe (by omega),q93 (by omega),qkj (by omega) (by omega),q6u (by omega) (by omega) (by omega),e1,Int.toNat_natCast,jaj [] o i c1,hs,al,hc,al,qi7,qkj (by omega) (by omega),am]
    ·show i+1≤(sk (fun _=>true) id o (sj n ⟨#[]⟩ [o.getD i []])).length;omega
    ·exact fun x hx=>qet.2 (.inl (h3 x hx))
    ·intro x hx;rcases qet.1 hx with hx|⟨z,hz,_,rfl⟩
     ·exact h4 x hx
     ·exact hsm _ hz
    ·show(sk (fun _=>true) id o (sj n ⟨#[]⟩ [o.getD i []])).length≤max l.length 300;omega
    ·intro j hj t htl hf;show(cp n ((sk (fun _=>true) id o (sj n ⟨#[]⟩ [o.getD i []])).getD j []) t).2∈sk (fun _=>true) id o (sj n ⟨#[]⟩ [o.getD i []]);have hf:qex n ⟨#[]⟩ ((sk (fun _=>true) id o (sj n ⟨#[]⟩ [o.getD i []])).getD j []) t=true:=hf;rw[k2 j (by omega)]at hf⊢;by_cases hji:j<i
     ·exact qet.2 (.inl (h6 j hji t htl hf))
     ·have hji:j=i:=by omega
      rw[hji]at hf⊢;exact qet.2 (.inr ⟨(cp n (o.getD i []) t).2,qr9.2 ⟨o.getD i [],List.mem_singleton.2 rfl,t,htl,hf,rfl⟩,rfl,rfl⟩)
   ·refine⟨.done o,?_,h3,h4,h5,fun h=>absurd h c2⟩;unfold nh;dsimp only;rw[oe (by omega),q0t (by omega)]
  ·refine⟨.done o,?_,h3,h4,h5,fun _ m hm t htl hf=> ?_⟩
   ·unfold nh;dsimp only;rw[tx (by omega)]
   ·obtain⟨j,hj,rfl⟩:=qi [] hm;exact h6 j (by omega) t htl hf
 obtain⟨o,h1,h2⟩:=hL;unfold kf;rw[q74 l (by omega),al,h1,al];cases o with
 |inl o=>exact⟨o,rfl,h2⟩
 |inr r=>exact absurd h2 id
end Go.Proofs.Ytdhfhpdadbopkaa
