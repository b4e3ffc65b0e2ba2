/-
  Rotas: the linear program of a box; multipliers.
-/
import Derived.Test.YteljgpepodpebaaGreatZ3S7
set_option linter.all false
namespace Go.Proofs.YteljgpepodpebaaGreat
open Go.K Go.M
theorem jee(x:List Int)(v:Int)(hl:x.length≤9223372036854775806):la x v=some (decide (v∈x)):=by
 have h:=te (step:=fun a=>gv (R:=LR Int Unit Int) x v (x.length:Int) a (fun a' =>some (.next a')) (fun e=>some (.done e)) (fun r=>some (.ret r))) x 0 (fun a=>decide (v=a)) (fun i=>(i:Int)) hl (fun i hi=>by
   unfold gv;rw[xL,xI,xI,xR,am];simp only[Int.toNat_natCast];cases decide (v=x.getD i 0)<;>rfl) (by unfold gv;rw[xN])
 have h:qao x v (x.length:Int) 0=_:=h;unfold la m7;rw[h,af,qg2,af,qq4];refine congrArg some ?_;by_cases e:v∈x
 ·rw[decide_eq_true e];exact List.any_eq_true.2 ⟨v,e,by simp⟩
 ·rw[decide_eq_false e];exact List.any_eq_false.2 fun w hw hv=>e (by rw[of_decide_eq_true hv];exact hw)
def qip(n:Nat)(q:Nat→Bool):List ab:=be n fun j=>bif q j then(1,1,())else(0,1,())
theorem qqt(n:Nat)(q:Nat→Bool):(qip n q).length=n:=db _ _
theorem jkl{n:Nat}{q:Nat→Bool}{j:Nat}(h:j<n):(qip n q).getD j ab.z=bif q j then(1,1,())else(0,1,()):=em h
theorem jay(n:Nat)(q:Nat→Bool):qip (n+1) q=qip n q++[bif q n then(1,1,())else(0,1,())]:=s8 _ _
theorem jmx{d:List Int}{l:List ae}(h:Good d l)(t:Nat):qb6 (l.length:Int) l (t:Int)=some (qip l.length fun j=>decide (qd7 l j t)):=by
 have h1:=h.l1;have h2:=h.d1;have hL:qmt l (t:Int) (l.length:Int) (0,[])=some (.inl (qip l.length fun j=>decide (qd7 l j t))):=by
  refine j9 (fun i=>((i:Int),qip i fun j=>decide (qd7 l j t))) l.length (cr (by omega)) _ (fun i hi=> ?_) ?_ _ rfl
  ·have h3:=qqt i fun j=>decide (qd7 l j t)
   have h4:=qkt (h.sh i hi).cv;have hx:∀{m:Option Bool},ai (ix 0 1) m=m:=xI;unfold tp qdk bd;dsimp only;rw[xL,hx,xI,xI,hx,jee _ _ (by simp only[Int.toNat_natCast];omega),af,af,jay];simp only[Int.toNat_natCast];show(bif decide (qd7 l i t)then _ else _)=_;cases decide (qd7 l i t)with
   |true=>rw[cond_true,af,xM,xR,am];rfl
   |false=>rw[cond_false,af,xM,xR,am];rfl
  ·unfold tp;dsimp only;rw[xN]
 unfold qb6;rw[hL];rfl
theorem jri(i j:Nat):decide ((j:Int)=(i:Int))=decide (j=i):=by
 by_cases e:j=i
 ·rw[decide_eq_true e,decide_eq_true (by omega)]
 ·rw[decide_eq_false e,decide_eq_false (by omega)]
theorem jaz{n:Nat}(hn:n≤1000)(i:Nat):qb7 (n:Int) (i:Int)=some (qip n fun j=>decide (j=i)):=by
 have hL:qmv (i:Int) (n:Int) (0,[])=some (.inl (qip n fun j=>decide (j=i))):=by
  refine j9 (fun k=>((k:Int),qip k fun j=>decide (j=i))) n (cr (by omega)) _ (fun k hk=> ?_) ?_ _ rfl
  ·have h3:=qqt k fun j=>decide (j=i)
   have hx:∀{m:Option Bool},ai (ix 0 1) m=m:=xI;unfold tq qdl bd;dsimp only;rw[xL,hx,af,jri,jay];cases decide (k=i)with
   |true=>rw[cond_true,af,xM,xR,am];rfl
   |false=>rw[cond_false,af,xM,xR,am];rfl
  ·unfold tq;dsimp only;rw[xN]
 unfold qb7;rw[hL];rfl
theorem jmy{n:Nat}(hn:n≤1000)(i:Nat):qia (n:Int) (i:Int)=some (qip n fun j=>decide (j=i)):=jaz hn i
abbrev Row:Type:=List ab×Int×ab
def qn0:Row:=([],0,(0,0,()))
def je(d:List Int):Nat→List Nat
 |0=>[]
 |k+1=>if 0<d.getD k 0 then je d k++[k]else je d k
theorem qvb(d:List Int):∀k,(je d k).length≤k
 |0=>Nat.le_refl _
 |k+1=>by
  have:=qvb d k;unfold je;split
  ·rw[List.length_append];show _+1≤_;omega
  ·omega
def mn(d:List Int)(l:List ae)(t:Nat):Row:=(qip l.length fun j=>decide (qd7 l j t),2,(d.getD t 0,1,()))
def qnz(n:Nat)(hi:List Int)(i:Nat):Row:=(qip n fun j=>decide (j=i),1,(hi.getD i 0,1,()))
def jh8(n:Nat)(lo:List Int)(i:Nat):Row:=(qip n fun j=>decide (j=i),2,(lo.getD i 0,1,()))
def ue(n:Nat)(lo hi:List Int):Nat→List Row
 |0=>[]
 |i+1=>if 0<lo.getD i 0 then(ue n lo hi i++[qnz n hi i])++[jh8 n lo i]else ue n lo hi i++[qnz n hi i]
theorem jal(n:Nat)(lo hi:List Int):∀k,(ue n lo hi k).length≤2*k
 |0=>Nat.le_refl _
 |k+1=>by
  have:=jal n lo hi k;unfold ue;split
  ·rw[List.length_append,List.length_append];show _+1+1≤_;omega
  ·rw[List.length_append];show _+1≤_;omega
def qpi(d:List Int)(l:List ae)(lo hi:List Int):List Row:=(je d d.length).map (mn d l)++ue l.length lo hi l.length
def qiu(l:List ae)(n:Nat):List ab:=be n fun i=>((l.getD i ae.z).2.1,1,())
def prog(l:List ae)(w:List Row):Program:=(qiu l l.length,w.map (·.1),w.map (·.2.1),w.map (·.2.2),())
theorem jy9{d:List Int}{l:List ae}(h:Good d l)(t:Nat)(C:List ab){w:List Row}(hw:w.length≤100):oj l (t:Int) 2 (d.getD t 0) l C (w.map (·.1)) (w.map (·.2.1)) (w.map (·.2.2))=some (C,(w++[mn d l t]).map (·.1),(w++[mn d l t]).map (·.2.1),(w++[mn d l t]).map (·.2.2)):=by
 have e1:(w.map (·.1)).length=w.length:=List.length_map ..;have e2:(w.map (·.2.1)).length=w.length:=List.length_map ..;have e3:(w.map (·.2.2)).length=w.length:=List.length_map ..;unfold oj bd;rw[xI,jmx h,af,xM,xM,af,xM,List.map_append,List.map_append,List.map_append];rfl
theorem jza{l:List ae}(hl:l.length≤12)(i:Nat)(hi:List Int)(C:List ab){w:List Row}(hw:w.length≤100):ol (i:Int) 1 (hi.getD i 0) l C (w.map (·.1)) (w.map (·.2.1)) (w.map (·.2.2))=some (C,(w++[qnz l.length hi i]).map (·.1),(w++[qnz l.length hi i]).map (·.2.1),(w++[qnz l.length hi i]).map (·.2.2)):=by
 have e1:(w.map (·.1)).length=w.length:=List.length_map ..;have e2:(w.map (·.2.1)).length=w.length:=List.length_map ..;have e3:(w.map (·.2.2)).length=w.length:=List.length_map ..;unfold ol bd;rw[xI,jaz (by omega),af,xM,xM,af,xM,List.map_append,List.map_append,List.map_append];rfl
theorem jzb{l:List ae}(hl:l.length≤12)(i:Nat)(lo:List Int)(C:List ab){w:List Row}(hw:w.length≤100):om (i:Int) 2 (lo.getD i 0) l C (w.map (·.1)) (w.map (·.2.1)) (w.map (·.2.2))=some (C,(w++[jh8 l.length lo i]).map (·.1),(w++[jh8 l.length lo i]).map (·.2.1),(w++[jh8 l.length lo i]).map (·.2.2)):=by
 have e1:(w.map (·.1)).length=w.length:=List.length_map ..;have e2:(w.map (·.2.1)).length=w.length:=List.length_map ..;have e3:(w.map (·.2.2)).length=w.length:=List.length_map ..;unfold om bd;rw[xI,jmy (by omega),af,xM,xM,af,xM,List.map_append,List.map_append,List.map_append];rfl
def qd8(d:List Int)(k:Nat):List Int:=List.map (fun t:Nat=>(t:Int)) (je d k)
theorem q4v{d:List Int}{l:List ae}(h:Good d l){lo hi:List Int}(hlo:lo.length=l.length)(hhi:hi.length=l.length):vi d l (lo,hi,())=some (prog l (qpi d l lo hi),qd8 d d.length):=by
 have h1:=h.l1;have h2:=h.d1;have hL0:qmm d l (l.length:Int) l lo hi [] [] [] [] [] [] [] [] (0,[])=some (.inl (qiu l l.length)):=by
  refine j9 (fun i=>((i:Int),qiu l i)) l.length (cr (by omega)) _ (fun i hi=> ?_) ?_ _ rfl
  ·have h3:(qiu l i).length=i:=db _ _;unfold tl bd;dsimp only;rw[xL,xI,xI,af,xM,xR,am,Int.toNat_natCast];unfold qiu;rw[s8]
  ·unfold tl;dsimp only;rw[xN]
 have hL1:qmn d (d.length:Int) l lo hi [] [] [] [] (0,qiu l l.length,[],[],[],[])=some (.inl (qiu l l.length,qd8 d d.length,((je d d.length).map (mn d l)).map (·.1),((je d d.length).map (mn d l)).map (·.2.1),((je d d.length).map (mn d l)).map (·.2.2))):=by
  refine j9 (fun k=>((k:Int),qiu l l.length,qd8 d k,((je d k).map (mn d l)).map (·.1),((je d k).map (mn d l)).map (·.2.1),((je d k).map (mn d l)).map (·.2.2))) d.length (cr (by omega)) _ (fun k hk=> ?_) ?_ _ rfl
  ·have h3:=qvb d k;have h4:(qd8 d k).length=(je d k).length:=List.length_map ..;have h5:((je d k).map (mn d l)).length=(je d k).length:=List.length_map ..;unfold tm;dsimp only;rw[xL,xI,xI];simp only[Int.toNat_natCast];by_cases c1:0<d.getD k 0
   ·have e:je d (k+1)=je d k++[k]:=if_pos c1;have e2:qd8 d (k+1)=qd8 d k++[(k:Int)]:=by unfold qd8;rw[e,List.map_append];rfl
    have e3:(je d (k+1)).map (mn d l)=(je d k).map (mn d l)++[mn d l k]:=by rw[e,List.map_append];rfl
    rw[bi c1,xM,jy9 h k _ (by omega),af,xR,am,e2,e3]
   ·have e:je d (k+1)=je d k:=if_neg c1;have e2:qd8 d (k+1)=qd8 d k:=by unfold qd8;rw[e]
    rw[xN,xR,am,e2,e]
  ·unfold tm;dsimp only;rw[xN]
 have hL2:qmo (qd8 d d.length) (l.length:Int) lo hi [] [] [] [] l (0,qiu l l.length,((je d d.length).map (mn d l)).map (·.1),((je d d.length).map (mn d l)).map (·.2.1),((je d d.length).map (mn d l)).map (·.2.2))=some (.inl (qiu l l.length,(qpi d l lo hi).map (·.1),(qpi d l lo hi).map (·.2.1),(qpi d l lo hi).map (·.2.2))):=by
  refine j9 (fun k=>((k:Int),qiu l l.length,((je d d.length).map (mn d l)++ue l.length lo hi k).map (·.1),((je d d.length).map (mn d l)++ue l.length lo hi k).map (·.2.1),((je d d.length).map (mn d l)++ue l.length lo hi k).map (·.2.2))) l.length (cr (by omega)) _ (fun k hk=> ?_) ?_ _ ?_
  ·have h3:=qvb d d.length;have h4:=jal l.length lo hi k;have h5:((je d d.length).map (mn d l)).length=(je d d.length).length:=List.length_map ..;have h6:((je d d.length).map (mn d l)++ue l.length lo hi k).length=((je d d.length).map (mn d l)).length+(ue l.length lo hi k).length:=List.length_append ..;unfold tn;dsimp only;rw[xL,xI,xI];simp only[Int.toNat_natCast];rw[jza h1 k hi _ (by omega),af,xI,xI];by_cases c1:0<lo.getD k 0
   ·have e:ue l.length lo hi (k+1)=(ue l.length lo hi k++[qnz l.length hi k])++[jh8 l.length lo k]:=if_pos c1;rw[bi c1,xI,xI,jzb h1 k lo _ (by rw[List.length_append];show _+1≤_;omega),af,xR,am,e,←List.append_assoc,←List.append_assoc]
   ·have e:ue l.length lo hi (k+1)=ue l.length lo hi k++[qnz l.length hi k]:=if_neg c1;rw[xN,xR,am,e,←List.append_assoc]
  ·unfold tn;dsimp only;rw[xN];rfl
  ·show _=((0:Int),qiu l l.length,(((je d d.length).map (mn d l)++[]:List Row)).map (·.1),(((je d d.length).map (mn d l)++[]:List Row)).map (·.2.1),(((je d d.length).map (mn d l)++[]:List Row)).map (·.2.2));rw[List.append_nil]
 unfold vi;dsimp only;rw[hL0,af,g9,hL1,af,g9];dsimp only;rw[hL2];rfl
def jm7(n:Nat)(w:Row):Prop:=w.1.length=n∧(∀j,j<n→NF (w.1.getD j ab.z))∧(w.2.1=1∨w.2.1=2)∧NF w.2.2
theorem jdo(n:Nat)(q:Nat→Bool):∀j,j<n→NF ((qip n q).getD j ab.z):=fun j hj=>by
 rw[jkl hj];cases q j
 ·exact nf0
 ·exact nf1
theorem qcn{α β:Type}{l:List α}{f:α→β}{i:Nat}(h:i<l.length)(a:β)(b:α):(l.map f).getD i a=f (l.getD i b):=by simp[List.getD_eq_getElem?_getD,h]
theorem jiq{l:List ae}{w:List Row}(hw:∀x∈w,jm7 l.length x)(h1:1≤l.length)(h2:l.length≤12)(h3:1≤w.length)(h4:w.length≤12)(hp:∀i,i<l.length→0≤(l.getD i ae.z).2.1∧(l.getD i ae.z).2.1≤1000):
  VP (prog l w)∧∀i,i<(prog l w).2.1.length→gb (prog l w).2.2.1 i=1∨gb (prog l w).2.2.1 i=2∨gb (prog l w).2.2.1 i=3:=by
 have e1:(prog l w).1.length=l.length:=db _ _;have e2:(prog l w).2.1.length=w.length:=List.length_map ..;have e3:(prog l w).2.2.1.length=w.length:=List.length_map ..;have e4:(prog l w).2.2.2.1.length=w.length:=List.length_map ..;have row:∀i,i<w.length→ci (prog l w).2.1 i=(w.getD i qn0).1:=fun i hi=>qcn hi _ _
 have ok:∀i,i<w.length→jm7 l.length (w.getD i qn0):=fun i hi=>hw _ (l5 qn0 hi)
 refine⟨⟨by omega,by omega,by omega,by omega,by omega,by omega,fun j hj=> ?_,fun i hi=> ?_,fun i hi=> ?_,fun i j hi hj=> ?_⟩,fun i hi=> ?_⟩
 ·have e:gz (prog l w).1 j=((l.getD j ae.z).2.1,1,()):=em (by omega);have:=hp j (by omega);rw[e];exact nu (by omega) (by omega)
 ·have e:gz (prog l w).2.2.2.1 i=(w.getD i qn0).2.2:=qcn (by omega) _ _;rw[e];exact(ok i (by omega)).2.2.2
 ·rw[row i (by omega),e1];exact(ok i (by omega)).1
 ·rw[row i (by omega)];exact(ok i (by omega)).2.1 j (by omega)
 ·have e:gb (prog l w).2.2.1 i=(w.getD i qn0).2.1:=qcn (by omega) _ _;rw[e];rcases(ok i (by omega)).2.2.1 with h|h
  ·exact .inl h
  ·exact .inr (.inl h)
theorem q4r(d:List Int):∀{k t:Nat},t∈je d k→t<k∧0<d.getD t 0
 |0,t,h=>by cases h
 |k+1,t,h=>by
  unfold je at h;split at h
  ·rename_i hd;rcases List.mem_append.1 h with h|h
   ·have:=q4r d h;exact⟨by omega,this.2⟩
   ·rw[List.mem_singleton.1 h];exact⟨by omega,hd⟩
  ·have:=q4r d h;exact⟨by omega,this.2⟩
theorem jam{n:Nat}{lo hi:List Int}:∀{k:Nat} {x:Row},x∈ue n lo hi k→∃i,i<k∧(x=qnz n hi i∨x=jh8 n lo i)
 |0,x,h=>by cases h
 |k+1,x,h=>by
  unfold ue at h;have key:x∈ue n lo hi k++[qnz n hi k]→∃i,i<k+1∧(x=qnz n hi i∨x=jh8 n lo i):=fun h=>by
   rcases List.mem_append.1 h with h|h
   ·obtain⟨i,hi',h⟩:=jam h;exact⟨i,by omega,h⟩
   ·exact⟨k,by omega, .inl (List.mem_singleton.1 h)⟩
  split at h
  ·rcases List.mem_append.1 h with h|h
   ·exact key h
   ·exact⟨k,by omega, .inr (List.mem_singleton.1 h)⟩
  ·exact key h
theorem jfs{d:List Int}{l:List ae}(h:Good d l){lo hi:List Int}(hb:Bx l lo hi):∀x∈qpi d l lo hi,jm7 l.length x:=fun x hx=>by
 rcases List.mem_append.1 hx with hx|hx
 ·obtain⟨t,ht,rfl⟩:=List.mem_map.1 hx;have h1:=h.dn t (q4r d ht).1;exact⟨qqt _ _,jdo _ _, .inr rfl,nu (n:=d.getD t 0) (by omega) (by omega)⟩
 ·obtain⟨i,hi',hx⟩:=jam hx;have h1:=hb.b0 i hi';have h2:=hb.b1 i hi';have h3:=hb.b2 i hi';have h4:=(h.sh i hi').m1;rcases hx with rfl|rfl
  ·exact⟨qqt _ _,jdo _ _, .inl rfl,nu (n:=hi.getD i 0) (by omega) (by omega)⟩
  ·exact⟨qqt _ _,jdo _ _, .inr rfl,nu (n:=lo.getD i 0) (by omega) (by omega)⟩
theorem jft(n:Nat)(lo hi:List Int):∀k,k≤(ue n lo hi k).length
 |0=>Nat.le_refl _
 |k+1=>by
  have:=jft n lo hi k;unfold ue;split
  ·rw[List.length_append,List.length_append];show _≤_+1+1;omega
  ·rw[List.length_append];show _≤_+1;omega
theorem jrh{d:List Int}{l:List ae}(h:Good d l){cost:Int}(hc:0≤cost∧cost≤1000000):jin d l cost:=fun lo hi left hb=>by
 have h1:=h.l1;have h2:=h.d1;have hx:∀{m:Option (Bool×List ab)},ai (ix 0 1) m=m:=xI;unfold kd bd;dsimp only;rw[af,hx,jyi (by omega),af,hx];by_cases c0:(l.length:Int)=0
 ·rw[bu c0];exact⟨_,_,rfl⟩
 rw[bg c0,hx,hx,q4v h hb.ll hb.hl,af];dsimp only;have hlen:(prog l (qpi d l lo hi)).2.1.length=(qpi d l lo hi).length:=List.length_map ..;have hge:=jft l.length lo hi l.length;have hlen2:(qpi d l lo hi).length=((je d d.length).map (mn d l)).length+(ue l.length lo hi l.length).length:=List.length_append ..;by_cases c1:(12:Int)<((prog l (qpi d l lo hi)).2.1.length:Int)
 ·rw[bi c1];exact⟨_,_,rfl⟩
 rw[xN];obtain⟨hv1,hv2⟩:=jiq (jfs h hb) (by omega) h1 (by omega) (by omega) fun i hi' =>⟨(h.sh i hi').p0,(h.sh i hi').p1⟩
 obtain⟨s,x,e1,e2,-⟩:=jdw hv1 hv2;rw[e1,af];dsimp only;by_cases c2:x=0
 ·rw[cm c2];by_cases c3:s.1=3
  ·rw[bu c3];exact⟨_,_,rfl⟩
  rw[bg c3];by_cases c4:(s.2.2.1.length:Int)<(qd8 d d.length).length
  ·rw[bi c4];exact⟨_,_,rfl⟩
  rw[xN];have hpl:=qvb d d.length;have hpl2:(qd8 d d.length).length=(je d d.length).length:=List.length_map ..;obtain⟨o,ho,y,rfl⟩:=fy (step:=fun a:Int×List ab=>g8 (R:=LR (Int×List ab) (List ab) (Bool×List ab)) (d,l,cost,left,()) (qd8 d d.length) ((qd8 d d.length).length:Int) s.1 s.2.1 s.2.2.1 s.2.2.2.1 s.2.2.2.2.1.1 s.2.2.2.2.1.2.1 a.1 a.2 (fun a' =>some (.next a')) (fun e=>some (.done e)) (fun r=>some (.ret r)))
   (fun a=>∃k:Nat,a.1=(k:Int)∧k≤(qd8 d d.length).length∧a.2.length=d.length) (fun a=>(qd8 d d.length).length-a.1.toNat) (fun o=>∃y,o= .inl y) (0,List.replicate d.length (0,1,()))
   ⟨0,rfl,by omega,List.length_replicate ..⟩ (xZ (by omega)) (by
    rintro⟨a,y⟩ ⟨k,rfl,hk,hy⟩;dsimp only at hy;unfold g8 bd;dsimp only;by_cases hlt:k<(qd8 d d.length).length
    ·have hm:(qd8 d d.length).getD k 0=(((je d d.length).getD k 0:Nat):Int):=qcn (by omega) _ _;have hm2:=(q4r d (l5 0 (show k<(je d d.length).length by omega))).1;rw[xL,xI,xI,xI,xI];simp only[Int.toNat_natCast];rw[hm];simp only[Int.toNat_natCast];have h5:∀v:ab,(y.set ((je d d.length).getD k 0) v).length=d.length:=fun v=>by rw[List.length_set];exact hy
     have fin:∀z:List ab,z.length=d.length→∃x,ai (cg .i64 ((k:Int)+1)) (some (LR.next ((k:Int)+1,z)):Option (LR (Int×List ab) (List ab) (Bool×List ab)))=some x∧qxr (fun a:Int×List ab=>∃k:Nat,a.1=(k:Int)∧k≤(qd8 d d.length).length∧a.2.length=d.length) (fun a=>(qd8 d d.length).length-a.1.toNat) (fun o=>∃y,o= .inl y) ((qd8 d d.length).length-(k:Int).toNat) x:=fun z hz=>by
      rw[xR,am];refine⟨_,rfl,⟨k+1,rfl,by omega,hz⟩,?_⟩;exact xD (by omega)
     rw[xI,xI];by_cases c5:s.1=2
     ·rw[bu c5,ao (by omega) (by rw[h5];omega),ao (by omega) (by rw[h5];omega),xI,xR,xR,af,qxs,af];generalize mg _ _=g;by_cases c6:g.2=0
      ·rw[bu c6,ao (by omega) (by rw[h5];omega),ao (by omega) (by rw[h5];omega)];exact fin _ (by rw[List.length_set];exact h5 _)
      ·rw[bg c6];exact fin _ (h5 _)
     ·rw[bg c5];exact fin _ (h5 _)
    ·rw[xN];exact⟨_,rfl,y,rfl⟩)
  have ho:sr (d,l,cost,left,()) (qd8 d d.length) ((qd8 d d.length).length:Int) s.1 s.2.1 s.2.2.1 s.2.2.2.1 s.2.2.2.2.1.1 s.2.2.2.2.1.2.1 (0,List.replicate d.length (0,1,()))=_:=ho;rw[ho,af];exact⟨_,_,rfl⟩
 ·rw[gn c2];exact⟨_,_,rfl⟩
end Go.Proofs.YteljgpepodpebaaGreat
