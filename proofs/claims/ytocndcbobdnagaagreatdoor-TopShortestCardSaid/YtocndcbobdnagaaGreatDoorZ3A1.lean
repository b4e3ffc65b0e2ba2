/-
  Nets, firing, and the search of a space (picked out of Predict's texts).
-/
import Derived.Test.YtocndcbobdnagaaGreatDoorZ3Md
import Derived.Test.YtocndcbobdnagaaGreatDoorZ3Ky
set_option linter.all false
namespace Go.Proofs.YtocndcbobdnagaaGreatDoor
open Go.K Go.M
def eqS(a b:ByteArray):Bool:=ByteArray.toList a==ByteArray.toList b
theorem jsr(a b:ByteArray):(ByteArray.toList a==ByteArray.toList b)=eqS a b:=rfl
def jav(c:Int):Bool:=decide (65<=c)&&decide (c<=90)||decide (97<=c)&&decide (c<=122)
def qmu(c:Int):Bool:=jav c||decide (48<=c)&&decide (c<=57)||decide (c=95)||decide (c=45)||decide (c=46)
abbrev byt(s:ByteArray)(i:Nat):Int:=((ByteArray.data s).getD i 0).toNat
theorem jij(c:Int):qhd c=some (jav c):=by
 unfold qhd jav;cases decide ((65:Int)<=c)<;>cases decide (c<=(90:Int))<;>cases decide ((97:Int)<=c)<;>cases decide (c<=(122:Int))<;>rfl
theorem qr5(c:Int):qdv c=some (jav c):=by
 unfold qdv jav;cases decide ((65:Int)<=c)<;>cases decide (c<=(90:Int))<;>cases decide ((97:Int)<=c)<;>cases decide (c<=(122:Int))<;>rfl
theorem jte(c:Int):qyl c=some (qmu c):=by
 unfold qyl qmu;rw[jij,df];cases jav c<;>cases decide ((48:Int)<=c)<;>cases decide (c<=(57:Int))<;>cases decide (c=(95:Int))<;>cases decide (c=(45:Int))<;>cases decide (c=(46:Int))<;>rfl
def q9u(s:ByteArray):Bool:=decide (1<=s.size)&&decide (s.size<=40)&&jav (byt s 0)&&(List.range s.size).all fun i=>qmu (byt s i)
theorem jhx(s:ByteArray):sr s=some (q9u s):=by
 unfold sr q9u;by_cases h1:(s.size:Int)<1
 ·have:¬1<=s.size:=by omega
  simp(disch:=omega)only[rs];rw[WD this];rfl
 ·have h1' :1<=s.size:=by omega
  rw[Ws h1'];by_cases h2:40<(s.size:Int)
  ·have:¬s.size<=40:=by omega
   simp(disch:=omega)only[rs];rw[WD this];rfl
  ·have h2' :s.size<=40:=by omega
   rw[Ws h2'];have hL:qzx s (s.size:Int) 0=some (bif (List.range s.size).all (fun i=>qmu (byt s i))then .inl ()else .inr false):=by
    refine qdb (fun i:Nat=>(i:Int)) s.size (bm (by omega)) _ () false ?_ ?_ ?_
    ·intro i hi hp;simp(disch:=omega)only[xj,jte,hp,Wv,rs];rw[am]
    ·intro i hi hp;simp(disch:=omega)only[xj,jte,hp,WP,rs]
    ·simp(disch:=omega)only[xj,rs]
   simp(disch:=omega)only[jij,hL,rs];cases jav (byt s 0)with
   |false=>rfl
   |true=>cases(List.range s.size).all (fun i=>qmu (byt s i))<;>rfl
theorem jcy(n:Nat)(p:Nat->Bool):(List.range (n+1)).all p=(p 0&&(List.range n).all fun i=>p (i+1)):=by
 rw[List.range_succ_eq_map,List.all_cons,List.all_map];rfl
theorem jlq(s:ByteArray):qjj s=some (q9u s):=by
 unfold qjj q9u;by_cases h1:(s.size:Int)<1
 ·have:¬1<=s.size:=by omega
  simp(disch:=omega)only[rs];rw[WD this];rfl
 ·have h1' :1<=s.size:=by omega
  rw[Ws h1'];by_cases h2:40<(s.size:Int)
  ·have:¬s.size<=40:=by omega
   simp(disch:=omega)only[rs];rw[WD this];rfl
  ·have h2' :s.size<=40:=by omega
   rw[Ws h2'];have hL:qw2 s 1=some (bif (List.range (s.size-1)).all (fun i=>qmu (byt s (i+1)))then .inl ()else .inr false):=by
    refine qdb (fun i:Nat=>((i+1:Nat):Int)) (s.size-1) (bm (by omega)) _ () false ?_ ?_ ?_
    ·intro i hi hp;unfold qmu at hp;simp(disch:=omega)only[uy,qr5,rs];rw[am];revert hp;cases jav (byt s (i+1))<;>cases decide ((48:Int)<=byt s (i+1))<;>cases decide (byt s (i+1)<=(57:Int))<;>cases decide (byt s (i+1)=(95:Int))<;>cases decide (byt s (i+1)=(45:Int))<;>cases decide (byt s (i+1)=(46:Int))<;>intro hp<;>first|rfl|cases hp
    ·intro i hi hp;unfold qmu at hp;simp(disch:=omega)only[uy,qr5,rs];revert hp;cases jav (byt s (i+1))<;>cases decide ((48:Int)<=byt s (i+1))<;>cases decide (byt s (i+1)<=(57:Int))<;>cases decide (byt s (i+1)=(95:Int))<;>cases decide (byt s (i+1)=(45:Int))<;>cases decide (byt s (i+1)=(46:Int))<;>intro hp<;>first|rfl|cases hp
    ·have e:s.size-1+1=s.size:=by omega
     rw[e];simp(disch:=omega)only[uy,rs]
   simp(disch:=omega)only[qr5,hL,rs];have e:s.size=s.size-1+1:=by omega
   have e2:(List.range s.size).all (fun i=>qmu (byt s i))=(qmu (byt s 0)&&(List.range (s.size-1)).all fun i=>qmu (byt s (i+1))):=by
    conv=>lhs;rw[e]
    exact jcy _ _
   rw[e2];have e3:jav (byt s 0)=true->qmu (byt s 0)=true:=fun h=>by unfold qmu;rw[h];rfl
   cases h:jav (byt s 0)with
   |false=>rfl
   |true=>
    rw[e3 h];cases(List.range (s.size-1)).all (fun i=>qmu (byt s (i+1)))<;>rfl
def q3d(N:Int)(l:List Int)(i:Nat):Bool:=decide (l.getD i 0<0)||decide (N<=l.getD i 0)||decide (0<i)&&decide (l.getD i 0<=l.getD (i-1) 0)
def qzi(N:Int)(l:List Int):Bool:=(List.range l.length).all fun i=> !q3d N l i
theorem q47(N:Int)(ts:List af)(a b:Int)(l:List Int)(h:l.length<=1000000):qwb l l (l.length:Int) N ts a b 0=some (bif (List.range l.length).all (fun i=> !q3d N l i)then .inl ()else .inr false):=by
 have hst:∀i:Nat,i<l.length->o4 l l (l.length:Int) N ts a b (R:=LR Int Unit Bool) (i:Int) (fun a' =>some (.next a')) (fun e=>some (.done e)) (fun r=>some (.ret r))=some (bif q3d N l i then .ret false else .next ((i+1:Nat):Int)):=fun i hi=>by
  unfold q3d;by_cases h0:0<i
  ·have e:(i:Int)-1=((i-1:Nat):Int):=by omega
   have h0' :(0:Int)<(i:Int):=by omega
   rw[Ws h0];simp(disch:=omega)only[o4,e,rs];rw[am];cases decide (l.getD i 0<0)<;>cases decide (N<=l.getD i 0)<;>cases decide (l.getD i 0<=l.getD (i-1) 0)<;>rfl
  ·have h0' :¬(0:Int)<(i:Int):=by omega
   rw[WD h0];simp(disch:=omega)only[o4,rs];rw[am];cases decide (l.getD i 0<0)<;>cases decide (N<=l.getD i 0)<;>rfl
 refine qdb (fun i:Nat=>(i:Int)) l.length (bm (by omega)) _ () false (fun i hi hp=> ?_) (fun i hi hp=> ?_) ?_
 ·have hb:q3d N l i=false:=by simpa using hp
  exact(hst i hi).trans (by rw[hb];rfl)
 ·have hb:q3d N l i=true:=by simpa using hp
  exact(hst i hi).trans (by rw[hb];rfl)
 ·simp(disch:=omega)only[o4,rs]
theorem q5s(N:Int)(ts:List af)(a b:Int)(l:List Int)(h:l.length<=1000000):qw8 N l 0=some (bif (List.range l.length).all (fun i=> !q3d N l i)then .inl ()else .inr false):=by
 have hst:∀i:Nat,i<l.length->o6 N l (R:=LR Int Unit Bool) (i:Int) (fun a' =>some (.next a')) (fun e=>some (.done e)) (fun r=>some (.ret r))=some (bif q3d N l i then .ret false else .next ((i+1:Nat):Int)):=fun i hi=>by
  unfold q3d;by_cases h0:0<i
  ·have e:(i:Int)-1=((i-1:Nat):Int):=by omega
   have h0' :(0:Int)<(i:Int):=by omega
   rw[Ws h0];simp(disch:=omega)only[o6,e,rs];rw[am];cases decide (l.getD i 0<0)<;>cases decide (N<=l.getD i 0)<;>cases decide (l.getD i 0<=l.getD (i-1) 0)<;>rfl
  ·have h0' :¬(0:Int)<(i:Int):=by omega
   rw[WD h0];simp(disch:=omega)only[o6,rs];rw[am];cases decide (l.getD i 0<0)<;>cases decide (N<=l.getD i 0)<;>rfl
 refine qdb (fun i:Nat=>(i:Int)) l.length (bm (by omega)) _ () false (fun i hi hp=> ?_) (fun i hi hp=> ?_) ?_
 ·have hb:q3d N l i=false:=by simpa using hp
  exact(hst i hi).trans (by rw[hb];rfl)
 ·have hb:q3d N l i=true:=by simpa using hp
  exact(hst i hi).trans (by rw[hb];rfl)
 ·simp(disch:=omega)only[o6,rs]
theorem jxd{b:Bool}:(lk (bif b then(.inl ():Unit⊕Bool)else .inr false) (fun _=>some true) fun r=>some r)=some b:=by cases b<;>rfl
theorem qa3(n:bk)(l:List Int)(h:l.length<=1000000):mu n l=some (qzi n.1 l):=by
 unfold mu qzi;rw[q47 n.1 n.2.1 n.2.2.1 n.2.2.2.1 l h,df,jxd]
theorem qtq(N:Int)(l:List Int)(h:l.length<=1000000):ud N l=some (qzi N l):=by
 unfold ud qzi;rw[q5s N [] 0 0 l h,df,jxd]
structure Small (n : bk) : Prop where
 trans : n.2.1.length <= 100
 ins : ∀ t ∈ n.2.1, t.2.1.length <= 60
 outs : ∀ t ∈ n.2.1, t.2.2.1.length <= 60
def jc1(N:Int)(t:af):Bool:= !eqS t.1 ⟨#[]⟩&& !q9u t.1|| !qzi N t.2.1|| !qzi N t.2.2.1
def dp(n:bk):Bool:=decide (1<=n.1)&&decide (n.1<=40)&&decide (n.2.1.length<=60)&& !n.2.1.any (jc1 n.1)&&(decide (0<=n.2.2.1)&&decide (n.2.2.1<n.1))&&(decide (0<=n.2.2.2.1)&&decide (n.2.2.2.1<n.1))
theorem jo1(N x:Int):qzi N [x]=(decide (0<=x)&&decide (x<N)):=by
 unfold qzi q3d;rw[Ki];simp
theorem qjx{n:bk}(h:Small n):m5 n=some (dp n):=by
 have hL:qz5 n.2.1 (n.2.1.length:Int) n.1 n.2.1 n.2.2.1 n.2.2.2.1 0=some (bif n.2.1.any (jc1 n.1)then .inr false else .inl ()):=by
  have hl:=h.trans;refine jdw n.2.1 af.z (jc1 n.1) false (by omega) (fun i hi=> ?_) ?_
  ·have h1:=h.ins _ (ay af.z hi);have h2:=h.outs _ (ay af.z hi);unfold jc1;simp(disch:=omega)only[jsr,qdi,jhx,rs];rw[qa3 _ _ (by omega),qa3 _ _ (by omega),am];simp only[df];cases eqS (n.2.1.getD i af.z).1 ⟨#[]⟩<;>cases q9u (n.2.1.getD i af.z).1<;>cases qzi n.1 (n.2.1.getD i af.z).2.1<;>cases qzi n.1 (n.2.1.getD i af.z).2.2.1<;>rfl
  ·simp(disch:=omega)only[qdi,rs]
 unfold m5 dp;rw[hL,qa3 _ _ (by simp),qa3 _ _ (by simp),jo1,jo1];have e1:decide (1<=n.1)= !decide (n.1<1):=by rw[Ki];simp
 have e2:decide (n.1<=40)= !decide (40<n.1):=by rw[Ki];simp
 have e3:decide (n.2.1.length<=60)= !decide ((60:Int)<(n.2.1.length:Int)):=by rw[Ki];simp;omega
 rw[e1,e2,e3];cases decide (n.1<1)<;>cases decide (40<n.1)<;>cases decide ((60:Int)<(n.2.1.length:Int))<;>cases n.2.1.any (jc1 n.1)<;>cases(decide (0<=n.2.2.1)&&decide (n.2.2.1<n.1))<;>cases(decide (0<=n.2.2.2.1)&&decide (n.2.2.2.1<n.1))<;>rfl
theorem jov{n:bk}(h:Small n):qm5 n=some (dp n):=by
 have hL:q0j n.1 n.2.1 n.2.2.1 n.2.2.2.1 0=some (bif n.2.1.any (jc1 n.1)then .inr false else .inl ()):=by
  have hl:=h.trans;refine jdw n.2.1 af.z (jc1 n.1) false (by omega) (fun i hi=> ?_) ?_
  ·have h1:=h.ins _ (ay af.z hi);have h2:=h.outs _ (ay af.z hi);unfold jc1;simp(disch:=omega)only[jsr,qdx,jlq,rs];rw[qtq _ _ (by omega),qtq _ _ (by omega),am];simp only[df];cases eqS (n.2.1.getD i af.z).1 ⟨#[]⟩<;>cases q9u (n.2.1.getD i af.z).1<;>cases qzi n.1 (n.2.1.getD i af.z).2.1<;>cases qzi n.1 (n.2.1.getD i af.z).2.2.1<;>rfl
  ·simp(disch:=omega)only[qdx,rs]
 unfold qm5 dp;rw[hL];have e1:decide (1<=n.1)= !decide (n.1<1):=by rw[Ki];simp
 have e2:decide (n.1<=40)= !decide (40<n.1):=by rw[Ki];simp
 have e3:decide (n.2.1.length<=60)= !decide ((60:Int)<(n.2.1.length:Int)):=by rw[Ki];simp;omega
 have e4:∀x:Int,decide (0<=x)= !decide (x<0):=fun x=>by rw[Ki];simp
 have e5:∀x:Int,decide (x<n.1)= !decide (n.1<=x):=fun x=>by rw[Ki];simp
 rw[e1,e2,e3,e4 n.2.2.1,e4 n.2.2.2.1,e5 n.2.2.1,e5 n.2.2.2.1];cases decide (n.1<1)<;>cases decide (40<n.1)<;>cases decide ((60:Int)<(n.2.1.length:Int))<;>cases n.2.1.any (jc1 n.1)<;>cases decide (n.2.2.1<0)<;>cases decide (n.1<=n.2.2.1)<;>cases decide (n.2.2.2.1<0)<;>cases decide (n.1<=n.2.2.2.1)<;>rfl
theorem qxd{N:Int}{l:List Int}:qzi N l=true↔(∀x∈l,0<=x/\x<N)/\l.Pairwise (·<·):=by
 unfold qzi;rw[Kt];constructor
 ·intro h;have hq:∀i,i<l.length->(0<=l.getD i 0/\l.getD i 0<N)/\(0<i->l.getD (i-1) 0<l.getD i 0):=fun i hi=>by
   have:=h i (Kk.2 hi);unfold q3d at this;simp only[WE,KS,Bool.and_eq_false_iff,K5]at this;refine⟨by omega,fun h0=> ?_⟩;rcases this.2 with h1|h1
   ·exact absurd h0 h1
   ·omega
  refine⟨fun x hx=> ?_,List.pairwise_iff_getElem.2 fun i j hi hj hij=> ?_⟩
  ·obtain⟨i,hi,rfl⟩:=kq 0 hx;exact(hq i hi).1
  ·have key:∀d,∀j,j=i+1+d->j<l.length->l.getD i 0<l.getD j 0:=by
    intro d
    induction d with
    |zero=>intro j hj hl;subst hj;exact(hq (i+1) hl).2 (by omega)
    |succ d ih=>
     intro j hj hl;have h1:=ih (i+1+d) rfl (by omega);have h2:=(hq j hl).2 (by omega);rw[show j-1=i+1+d by omega]at h2;omega
   have:=key (j-i-1) j (by omega) hj;rwa[jo l i 0 hi,jo l j 0 hj]at this
 ·rintro⟨h1,h2⟩ i hi;have hi:=Kk.1 hi;have hb:=h1 _ (ay 0 hi);unfold q3d;simp only[WE,KS,Bool.and_eq_false_iff,K5];refine⟨by omega,?_⟩;by_cases h0:0<i
  ·right;have:=List.pairwise_iff_getElem.1 h2 (i-1) i (by omega) hi (by omega);rw[jo l i 0 hi,jo l (i-1) 0 (by omega)];omega
  ·exact .inl h0
theorem jmh(l:List Int)(h:l.length<=1000000):gz l=some l:=by
 unfold gz mz;simp(disch:=omega)only[List.nil_append,rs]
theorem jcp(a b:List Int)(ha:a.length<=1000000):g9 a b=some (decide (a=b)):=by
 unfold g9;by_cases hl:a.length=b.length
 ·rw[qgo (by simp[hl])];have hloop:qd4 a b (a.length:Int) 0=some (bif (List.range a.length).all (fun i=>decide (a.getD i 0=b.getD i 0))then .inl ()else .inr false):=by
   refine qdb (fun i:Nat=>(i:Int)) a.length (bm (by omega)) _ () false ?_ ?_ ?_
   ·intro i hi hp;have hp' :a.getD i 0=b.getD i 0:=W8 hp;simp(disch:=omega)only[ia,rs];rw[am]
   ·intro i hi hp;have hp' :a.getD i 0≠b.getD i 0:=of_decide_eq_false hp;simp(disch:=omega)only[ia,rs]
   ·simp(disch:=omega)only[ia,rs]
  rw[hloop,df];have hall:(List.range a.length).all (fun i=>decide (a.getD i 0=b.getD i 0))=decide (a=b):=by
   rw[Ki,Kt,HC];constructor
   ·intro h;refine List.ext_getElem hl fun i h1 h2=> ?_
    have:=W8 (h i (Kk.2 h1));rw[jo a i 0 h1,jo b i 0 h2]at this;exact this
   ·rintro rfl i _;simp
  rw[hall];cases decide (a=b)<;>rfl
 ·have:¬a=b:=fun h=>hl (by rw[h])
  rw[tw (by simp;omega),WD this]
def zet(t:af)(trap:Bool):List Int:=bif trap then t.2.1 else t.2.2.1
def zeu(t:af)(trap:Bool):List Int:=bif trap then t.2.2.1 else t.2.1
structure SmallT (ts : List af) : Prop where
 trans : ts.length <= 100
 ins : ∀ t ∈ ts, t.2.1.length <= 60
 outs : ∀ t ∈ ts, t.2.2.1.length <= 60
theorem Small.T{n:bk}(h:Small n):SmallT n.2.1:=⟨h.trans,h.ins,h.outs⟩
theorem SmallT.a{ts:List af}(h:SmallT ts){t:af}(ht:t∈ts)(trap:Bool):(zet t trap).length<=60:=by
 cases trap
 ·exact h.outs t ht
 ·exact h.ins t ht
theorem SmallT.b{ts:List af}(h:SmallT ts){t:af}(ht:t∈ts)(trap:Bool):(zeu t trap).length<=60:=by
 cases trap
 ·exact h.ins t ht
 ·exact h.outs t ht
theorem jkm{α:Type}{p:α->Bool}{x:α}(h:p x=false):[x].filter p=[]:=by rw[List.filter_cons,h];rfl
theorem jkn{α:Type}{p:α->Bool}{x:α}(h:p x=true):[x].filter p=[x]:=by rw[List.filter_cons,h];rfl
def jht(k:Int):Bool:=decide (k<0)||decide (100<k)
def c6(N:Int)(m:List Int):Bool:=decide ((m.length:Int)=N)&& !m.any jht
theorem ez{N:Int}{m:List Int}:c6 N m=true↔(m.length:Int)=N/\∀i,i<m.length->0<=m.getD i 0/\m.getD i 0<=100:=by
 unfold c6;rw[Wc,WH,WE,KW];constructor
 ·rintro⟨h1,h2⟩;refine⟨h1,fun i hi=> ?_⟩;have:=h2 _ (ay 0 hi);unfold jht at this;simp only[Kj,WH,not_or]at this;omega
 ·rintro⟨h1,h2⟩;refine⟨h1,fun x hx=> ?_⟩;obtain⟨i,hi,rfl⟩:=kq 0 hx;have:=h2 i hi;unfold jht;simp only[Kj,WH,not_or];omega
theorem qsz{n:bk}(h:Small n)(m:List Int)(hm:m.length<=1000000):vi n m=some (dp n&&c6 n.1 m):=by
 have hL:rx m (m.length:Int) 0=some (jqi (fun i=>(i:Int)) (pc jht m)):=by
  refine qju m 0 jht (fun i=>(i:Int)) (by omega) (fun i hi=> ?_) ?_
  ·unfold jht;simp(disch:=omega)only[fe,qh9,rs];rw[am];cases decide (m.getD i 0<0)<;>cases decide (100<m.getD i 0)<;>rfl
  ·simp(disch:=omega)only[fe,rs]
 have hC:fb m=some (m.any jht):=by
  unfold fb l7;rw[hL,df,q36,df,jb8]
 unfold vi c6;rw[qjx h,hC];cases dp n<;>cases decide ((m.length:Int)=n.1)<;>cases m.any jht<;>rfl
theorem qsj{n:bk}(hv:dp n=true){t:af}(ht:t∈n.2.1):qzi n.1 t.2.1=true/\qzi n.1 t.2.2.1=true:=by
 unfold dp at hv;simp only[Wc,WE]at hv;have:=KW.1 hv.1.1.2 t ht;unfold jc1 at this;simp only[Kj,WE,not_or,Bool.not_eq_false]at this;exact⟨this.1.2,this.2⟩
def vo(c:Int)(l:List Int)(m:List Int):List Int:=l.foldl (fun m p=>m.set p.toNat (m.getD p.toNat 0+c)) m
theorem qoi(c:Int):∀(l:List Int) (m:List Int),(vo c l m).length=m.length
 |[],_=>rfl
 |p::l,m=>(qoi c l _).trans (WB ..)
theorem q22(c:Int):∀(l:List Int) (m:List Int),l.Pairwise (·<·)->(∀p∈l,0<=p/\p<m.length)->∀q:Nat,(vo c l m).getD q 0=m.getD q 0+(if(q:Int)∈l then c else 0)
 |[],m,_,_,q=>by simp[vo]
 |p::l,m,hs,hb,q=>by
  obtain⟨h1,h2⟩:=HO.1 hs;have hp:=hb p Wf;have ih:=q22 c l (m.set p.toNat (m.getD p.toNat 0+c)) h2 (fun x hx=>by rw[WB];exact hb x (We _ hx)) q;show(vo c l (m.set p.toNat (m.getD p.toNat 0+c))).getD q 0=_;rw[ih];by_cases hq:(q:Int)=p
  ·have e:p.toNat=q:=by omega
   have hno:(q:Int)∉l:=fun hc=>by have:=h1 _ hc;omega
   rw[if_neg hno,if_pos (by rw[hq];exact Wf),e,Wa,Wl (by omega)];simp
  ·have e:p.toNat≠q:=by omega
   have hiff:(q:Int)∈p::l↔(q:Int)∈l:=⟨fun hc=>(Wr.1 hc).resolve_left hq,We _⟩;rw[Wa,WF e,<-Wa];by_cases hl:(q:Int)∈l
   ·rw[if_pos hl,if_pos (hiff.2 hl)]
   ·rw[if_neg hl,if_neg fun h=>hl (hiff.1 h)]
def tx(t:af)(m:List Int):Bool:= !t.2.1.any fun p=>decide (m.getD p.toNat 0=0)
theorem jde(t:af)(m:List Int)(ht:t.2.1.length<=1000000)(hb:∀p∈t.2.1,0<=p/\p<m.length):qah t m=some (tx t m):=by
 have hL:sc t.2.1 m (t.2.1.length:Int) 0=some (jqi (fun i=>(i:Int)) (pc (fun p=>decide (m.getD p.toNat 0=0)) t.2.1)):=by
  refine qju t.2.1 0 (fun p=>decide (m.getD p.toNat 0=0)) (fun i=>(i:Int)) (by omega) (fun i hi=> ?_) ?_
  ·have:=hb _ (ay 0 hi);simp(disch:=omega)only[ff,qh8,rs];rw[am];cases decide (m.getD (t.2.1.getD i 0).toNat 0=0)<;>rfl
  ·simp(disch:=omega)only[ff,rs]
 unfold qah jm l8 tx;rw[hL,df,q36,df,df,jb8]
theorem ju5(s:ByteArray)(l o:List Int)(m:List Int)(hl:l.length<=1000000)(hs:l.Pairwise (·<·))(hb:∀p∈l,0<=p/\p<m.length)(hm:∀i,i<m.length->-1000<=m.getD i 0/\m.getD i 0<=1000):
  q43 l (l.length:Int) s l o (0,m)=some (.inl (vo (-1) l m)):=by
 have e:vo (-1) l m=vo (-1) (l.take l.length) m:=by rw[WW]
 rw[e];refine jp (fun i:Nat=>((i:Int),vo (-1) (l.take i) m)) l.length (bm (by omega)) _ (fun i hi=> ?_) ?_ _ rfl
 ·have hp:=hb _ (ay 0 hi);have hlen:=qoi (-1) (l.take i) m;have hat:=q22 (-1) (l.take i) m (hs.sublist (List.take_sublist _ _)) (fun p hp=>hb p (K2 hp)) (l.getD i 0).toNat;have hmv:=hm (l.getD i 0).toNat (by omega);have hbd: -2000<=(vo (-1) (l.take i) m).getD (l.getD i 0).toNat 0/\(vo (-1) (l.take i) m).getD (l.getD i 0).toNat 0<=2000:=by
   rw[hat];split<;>omega
  have e3:vo (-1) (l.take (i+1)) m=(vo (-1) (l.take i) m).set (l.getD i 0).toNat ((vo (-1) (l.take i) m).getD (l.getD i 0).toNat 0-1):=by
   rw[cw l i 0 hi];unfold vo;rw[Kv];rfl
  rw[e3];simp(disch:=omega)only[qgr,rs];rw[am]
 ·simp(disch:=omega)only[qgr,rs]
theorem ju6(l:List Int)(m:List Int)(hl:l.length<=1000000)(hs:l.Pairwise (·<·))(hb:∀p∈l,0<=p/\p<m.length)(hm:∀i,i<m.length->-1000<=m.getD i 0/\m.getD i 0<=1000):
  q44 l (l.length:Int) (0,m)=some (.inl (vo 1 l m)):=by
 have e:vo 1 l m=vo 1 (l.take l.length) m:=by rw[WW]
 rw[e];refine jp (fun i:Nat=>((i:Int),vo 1 (l.take i) m)) l.length (bm (by omega)) _ (fun i hi=> ?_) ?_ _ rfl
 ·have hp:=hb _ (ay 0 hi);have hlen:=qoi 1 (l.take i) m;have hat:=q22 1 (l.take i) m (hs.sublist (List.take_sublist _ _)) (fun p hp=>hb p (K2 hp)) (l.getD i 0).toNat;have hmv:=hm (l.getD i 0).toNat (by omega);have hbd: -2000<=(vo 1 (l.take i) m).getD (l.getD i 0).toNat 0/\(vo 1 (l.take i) m).getD (l.getD i 0).toNat 0<=2000:=by
   rw[hat];split<;>omega
  have e3:vo 1 (l.take (i+1)) m=(vo 1 (l.take i) m).set (l.getD i 0).toNat ((vo 1 (l.take i) m).getD (l.getD i 0).toNat 0+1):=by
   rw[cw l i 0 hi];unfold vo;rw[Kv];rfl
  rw[e3];simp(disch:=omega)only[qgs,rs];rw[am]
 ·simp(disch:=omega)only[qgs,rs]
theorem j61(x:List Int)(h0:0<x.length)(hl:x.length<=1000000):∃M,uj x=some M/\(∀i,i<x.length->x.getD i 0<=M)/\∃i,i<x.length/\x.getD i 0=M:=by
 have hloop:∃o,qhn x (x.getD 0 0,1)=some o/\∃M,o= .inl M/\(∀i,i<x.length->x.getD i 0<=M)/\∃i,i<x.length/\x.getD i 0=M:=by
  refine qdc (fun(st:Int×Int)=>∃k:Nat,st.2=(k:Int)/\k<=x.length/\1<=k/\(∀i,i<k->x.getD i 0<=st.1)/\∃i,i<x.length/\x.getD i 0=st.1) (fun st=>((x.length:Int)-st.2).toNat) (fun(o:Int⊕Int)=>∃M,o= .inl M/\(∀i,i<x.length->x.getD i 0<=M)/\∃i,i<x.length/\x.getD i 0=M) _
   ⟨1,rfl,h0,Wg 1,(fun i hi=>by
    have:i=0:=by omega
    subst this;exact Kc _),0,h0,rfl⟩ (by show((x.length:Int)-1).toNat<many;unfold many;omega) ?_
  rintro⟨M,_⟩ ⟨k,rfl,hk,hk1,hle,j,hj,hjM⟩;have hle:∀i,i<k->x.getD i 0<=M:=hle;have hjM:x.getD j 0=M:=hjM;by_cases hlt:k<x.length
  ·refine⟨.next (max M (x.getD k 0),((k+1:Nat):Int)),?_,⟨k+1,rfl,by omega,by omega,fun i hi=> ?_,?_⟩,by show((x.length:Int)-((k+1:Nat):Int)).toNat<((x.length:Int)-(k:Int)).toNat;omega⟩
   ·simp(disch:=omega)only[od,rs];rw[am]
   ·show x.getD i 0<=max M (x.getD k 0);by_cases hik:i=k
    ·subst hik;exact Int.le_max_right _ _
    ·exact Ho (hle i (by omega)) (Int.le_max_left _ _)
   ·show∃i,i<x.length/\x.getD i 0=max M (x.getD k 0);rcases Int.le_total M (x.getD k 0)with hc|hc
    ·exact⟨k,hlt,(Int.max_eq_right hc).symm⟩
    ·exact⟨j,hj,hjM.trans (Int.max_eq_left hc).symm⟩
  ·obtain rfl:k=x.length:=by omega
   exact⟨.done M,by simp(disch:=omega)only[od,rs],M,rfl,hle,j,hj,hjM⟩
 obtain⟨_,ho,M,rfl,h1,h2⟩:=hloop;refine⟨M,?_,h1,h2⟩;have d:decide ((x.length:Int)<1)=false:=WD (by omega);have d2:ix 0 x.length=true:=j93 h0;unfold uj;rw[d,d2,ho];rfl
def enN(n:bk)(m:List Int)(i:Nat):List Nat:=(List.range i).filter fun j=>tx (n.2.1.getD j af.z) m
def enL(n:bk)(m:List Int):List Int:=(enN n m n.2.1.length).map fun(j:Nat)=>(j:Int)
theorem qjw{n:bk}(h:Small n)(m:List Int)(hm:m.length<=1000000):qa n m=some (bif dp n&&c6 n.1 m then(0,enL n m)else(1,[])):=by
 unfold qa;rw[qsz h m hm];cases hv:dp n with
 |false=>rfl
 |true=>
  cases hk:c6 n.1 m with
  |false=>rfl
  |true=>
   have hlen:=h.trans;have hL:qs0 m n.2.1 (n.2.1.length:Int) (0,[])=some (.inl (enL n m)):=by
    unfold enL;refine jp (fun i:Nat=>((i:Int),(enN n m i).map fun(j:Nat)=>(j:Int))) n.2.1.length (bm (by omega)) _ (fun i hi=> ?_) ?_ _ rfl
    ·have ht:=ay af.z hi;have hb:=(qxd.1 (qsj hv ht).1).1;have hml:=(ez.1 hk).1;have e1:=jde (n.2.1.getD i af.z) m (Kb (h.ins _ ht) (by omega)) (fun p hp=>by have:=hb p hp;omega);have e2:enN n m (i+1)=bif tx (n.2.1.getD i af.z) m then enN n m i++[i]else enN n m i:=by
      unfold enN;rw[HK,Hp];cases hc:tx (n.2.1.getD i af.z) m with
      |true=>rw[jkn (p:=fun j=>tx (n.2.1.getD j af.z) m) hc];rfl
      |false=>rw[jkm (p:=fun j=>tx (n.2.1.getD j af.z) m) hc,Kx];rfl
     have hle:((enN n m i).map fun(j:Nat)=>(j:Int)).length<=i:=by
      rw[Ww];have:=Kr (fun j=>tx (n.2.1.getD j af.z) m) (List.range i);rw[Hi]at this;exact this
     rw[e2];cases hc:tx (n.2.1.getD i af.z) m with
     |true=>
      rw[hc]at e1;simp only[q9,WN,e1,df];simp(disch:=omega)only[rs];rw[am,Kq];rfl
     |false=>
      rw[hc]at e1;simp only[q9,WN,e1,df];simp(disch:=omega)only[rs];rw[am]
    ·simp(disch:=omega)only[q9,rs]
   simp only[KT,df,Wv,W9,hL,q7m,WQ]
def eu(T:af)(m:List Int):List Int:=vo 1 T.2.2.1 (vo (-1) T.2.1 m)
def gg(n:bk)(m:List Int)(t:Nat):Int×List Int:=
 bif tx (n.2.1.getD t af.z) m then(bif (eu (n.2.1.getD t af.z) m).any (fun k=>decide (100<k))then(5,[])else(0,eu (n.2.1.getD t af.z) m))else(12,[])
structure FireF (n : bk) (m : List Int) (T : af) : Prop where
 i1 : ∀ p ∈ T.2.1, 0 <= p /\ p < m.length
 s1 : T.2.1.Pairwise (· < ·)
 i2 : ∀ p ∈ T.2.2.1, 0 <= p /\ p < m.length
 s2 : T.2.2.1.Pairwise (· < ·)
 l1 : T.2.1.length <= 60
 l2 : T.2.2.1.length <= 60
 mb : ∀ i, i < m.length -> 0 <= m.getD i 0 /\ m.getD i 0 <= 100
 ml : (m.length : Int) = n.1
 N : 1 <= n.1 /\ n.1 <= 40
theorem jsu{n:bk}(h:Small n)(hv:dp n=true){m:List Int}(hm:c6 n.1 m=true){t:Nat}(ht:t<n.2.1.length):FireF n m (n.2.1.getD t af.z):=by
 obtain⟨hml,hmb⟩:=ez.1 hm;have hN:1<=n.1/\n.1<=40:=by
  unfold dp at hv;simp only[Wc,WH]at hv;exact hv.1.1.1.1
 have hmem:n.2.1.getD t af.z∈n.2.1:=ay af.z ht;obtain⟨hs1,hs2⟩:=qsj hv hmem;have hi:=h.ins _ hmem;have ho:=h.outs _ hmem;obtain⟨hb1,hp1⟩:=qxd.1 hs1;obtain⟨hb2,hp2⟩:=qxd.1 hs2;exact⟨fun p hp=>by have:=hb1 p hp;omega,hp1,fun p hp=>by have:=hb2 p hp;omega,hp2,hi,ho,hmb,hml,hN⟩
section
variable {n : bk} {m : List Int} {T : af} (F : FireF n m T)
include F
theorem FireF.len1:(vo (-1) T.2.1 m).length=m.length:=qoi _ _ _
theorem FireF.len:(eu T m).length=m.length:=(qoi _ _ _).trans (qoi _ _ _)
theorem FireF.at1(q:Nat):(vo (-1) T.2.1 m).getD q 0=m.getD q 0+(if(q:Int)∈T.2.1 then-1 else 0):=q22 (-1) T.2.1 m F.s1 F.i1 q
theorem FireF.i2' :∀p∈T.2.2.1,0<=p/\p<(vo (-1) T.2.1 m).length:=fun p hp=>by have:=F.i2 p hp;have:=F.len1;omega
theorem FireF.at_(q:Nat):(eu T m).getD q 0=m.getD q 0+(if(q:Int)∈T.2.1 then-1 else 0)+(if(q:Int)∈T.2.2.1 then 1 else 0):=by
 have:=q22 1 T.2.2.1 (vo (-1) T.2.1 m) F.s2 F.i2' q;unfold eu;rw[this,F.at1]
theorem FireF.can(hc:tx T m=true):∀p∈T.2.1,1<=m.getD p.toNat 0:=fun p hp=>by
 unfold tx at hc;rw[WE,KW]at hc;have hpb:=F.i1 p hp;have:=F.mb p.toNat (by omega);have:¬m.getD p.toNat 0=0:=by simpa using hc p hp
 omega
theorem FireF.nn(hc:tx T m=true)(i:Nat)(hi:i<m.length):0<=(eu T m).getD i 0/\(eu T m).getD i 0<=101:=by
 rw[F.at_];have h5:=F.mb i hi;by_cases hin:(i:Int)∈T.2.1
 ·have:=F.can hc _ hin;rw[WN]at this;rw[if_pos hin];split<;>omega
 ·rw[if_neg hin];split<;>omega
end
theorem q1f{n:bk}(h:Small n)(hv:dp n=true){m:List Int}(hm:c6 n.1 m=true){t:Nat}(ht:t<n.2.1.length)(h0:(gg n m t).1=0):c6 n.1 (gg n m t).2=true:=by
 have F:=jsu h hv hm ht;unfold gg at h0⊢;cases hc:tx (n.2.1.getD t af.z) m with
 |false=>rw[hc]at h0;exact absurd (show(12:Int)=0 from h0) (by decide)
 |true=>
  rw[hc]at h0;cases ha:(eu (n.2.1.getD t af.z) m).any (fun k=>decide (100<k))with
  |true=>rw[ha]at h0;exact absurd (show(5:Int)=0 from h0) (by decide)
  |false=>
   show c6 n.1 (eu (n.2.1.getD t af.z) m)=true;refine ez.2 ⟨by rw[F.len];exact F.ml,fun i hi=> ?_⟩;rw[F.len]at hi;have h1:=F.nn hc i hi;rw[KW]at ha;have h2:=ha _ (ay 0 (show i<(eu (n.2.1.getD t af.z) m).length by rw[F.len];exact hi));have h2:¬(100:Int)<(eu (n.2.1.getD t af.z) m).getD i 0:=by simpa using h2
   omega
theorem jjf{n:bk}(h:Small n)(hv:dp n=true){m:List Int}(hm:c6 n.1 m=true){t:Nat}(ht:t<n.2.1.length):xl n m (t:Int)=some (gg n m t):=by
 have F:=jsu h hv hm ht;have hN:=F.N;have hml:=F.ml;have hp:vi n m=some true:=by rw[qsz h m (by omega),hv,hm];rfl
 unfold xl q1v gg;rw[hp,WN];generalize n.2.1.getD t af.z=T at F;have e1:=jde T m (by have:=F.l1;omega) F.i1;cases hc:tx T m with
 |false=>
  rw[hc]at e1;simp(disch:=omega)only[e1,Wv,WP,rs]
 |true=>
  rw[hc]at e1;have e2:=ju5 T.1 T.2.1 T.2.2.1 m (by have:=F.l1;omega) F.s1 F.i1 (fun i hi=>by have:=F.mb i hi;omega);have hlen1:=F.len1;have e3:=ju6 T.2.2.1 (vo (-1) T.2.1 m) (by have:=F.l2;omega) F.s2 F.i2' (fun i hi=>by
   have:=F.mb i (by omega);rw[F.at1 i];split<;>omega)
  have hlen:=F.len;have hlen' :(vo 1 T.2.2.1 (vo (-1) T.2.1 m)).length=m.length:=F.len;obtain⟨M,e4,hM1,i,hM2,hM3⟩:=j61 (vo 1 T.2.2.1 (vo (-1) T.2.1 m)) (by omega) (by omega);have e5:=jmh m (by omega);by_cases hM:(100:Int)<M
  ·have ha:(eu T m).any (fun k=>decide (100<k))=true:=List.any_eq_true.2 ⟨_,ay 0 hM2,by have e:(eu T m).getD i 0=M:=hM3;rw[e];exact Ws hM⟩;rw[ha];simp(disch:=omega)only[e1,e5,e2,e3,e4,Wv,rs]
  ·have ha:(eu T m).any (fun k=>decide (100<k))=false:=KW.2 fun k hk=>by
    obtain⟨j,hj,rfl⟩:=kq 0 hk;have:=hM1 j hj;have hh:¬(100:Int)<(eu T m).getD j 0:=by show¬(100:Int)<(vo 1 T.2.2.1 (vo (-1) T.2.1 m)).getD j 0;omega
    simpa using hh
   rw[ha];simp(disch:=omega)only[e1,e5,e2,e3,e4,Wv,rs];rfl
theorem q6a{a b:ByteArray}(h:qay a b=true):a=b:=by
 have h1:(a.data==b.data)=true:=h;have h2:a.data=b.data:=beq_iff_eq.1 h1;cases a;cases b;congr
theorem qse(a:ByteArray):qay a a=true:=by
 show(a.data==a.data)=true;exact beq_self_eq_true _
theorem qyu{a b:ByteArray}:qay a b=true↔a=b:=⟨q6a,fun h=>by rw[h];exact qse b⟩
theorem qyk{β:Type}(k k' :ByteArray)(x:β):∀(l:List (ByteArray×β)),bz .str k (qdf .str k' x l)=bif qay k k' then some x else bz .str k l
 |[]=>rfl
 |e::l=>by
  show bz .str k (bif qay k' e.1 then(k',x)::l else e::qdf .str k' x l)=bif qay k k' then some x else bif qay k e.1 then some e.2 else bz .str k l;cases h:qay k' e.1 with
  |true=>
   have he:k' =e.1:=qyu.1 h;show(bif qay k k' then some x else bz .str k l)=_;rw[<-he];cases qay k k' <;>rfl
  |false=>
   show(bif qay k e.1 then some e.2 else bz .str k (qdf .str k' x l))=_;rw[qyk k k' x l];cases h1:qay k e.1 with
   |false=>rfl
   |true=>
    cases h2:qay k k' with
    |false=>rfl
    |true=>
     have:qay k' e.1=true:=qyu.2 ((qyu.1 h2).symm.trans (qyu.1 h1));rw[this]at h;cases h
def jy4(st:List (List Int))(m:List Int):Int:=jvb (fun x:List Int=>decide (x=m)) st
theorem jr0(s:o7)(m:List Int)(hs:s.1.length<=1000000)(hr:∀x∈s.1,x.length<=1000000):qlj s m=some (jy4 s.1 m):=by
 have h1:∀x∈s.1,qjo x m=some (decide (x=m)):=fun x hx=>by
  have:=jcp x m (hr x hx);unfold qjo;simp(disch:=omega)only[this,rs]
 have hL:rq s.1 m (s.1.length:Int) 0=some (jqi (fun i=>(i:Int)) (pc (fun x:List Int=>decide (x=m)) s.1)):=by
  refine qju s.1 [] (fun x:List Int=>decide (x=m)) (fun i=>(i:Int)) (by omega) (fun i hi=> ?_) ?_
  ·have h1:=h1 (s.1.getD i []) (ay [] hi);simp(disch:=omega)only[fc,h1,rs];rw[am];cases decide (s.1.getD i []=m)<;>rfl
  ·simp(disch:=omega)only[fc,rs]
 unfold qlj l6;rw[hL,df];exact W0 (fun o=>bnd o fun r1=>some r1) (q36 _ _)
def vp(N:Int)(p:Int):List Int:=bv N.toNat fun i=>if(i:Int)=p then 1 else 0
theorem qv5(N p:Int):(vp N p).length=N.toNat:=qyv _ _
theorem js{n:bk}(hv:dp n=true):1<=n.1/\n.1<=40/\0<=n.2.2.2.1/\n.2.2.2.1<n.1/\n.2.1.length<=60:=by
 unfold dp at hv;simp only[Wc,WH]at hv;exact⟨hv.1.1.1.1.1,hv.1.1.1.1.2,hv.2.1,hv.2.2,hv.1.1.1.2⟩
theorem jcr{n:bk}(h:Small n)(hv:dp n=true):qcg n=some (0,vp n.1 n.2.2.2.1):=by
 obtain⟨h1,h2,h3,h4,_⟩:=js hv;have e:=qjx h;rw[hv]at e;have e2:(List.replicate n.1.toNat (0:Int)).set n.2.2.2.1.toNat 1=vp n.1 n.2.2.2.1:=by
  rw[qsf,qyw];refine qcu fun v hv=> ?_
  by_cases c:v=n.2.2.2.1.toNat
  ·rw[if_pos c,if_pos (by omega)]
  ·rw[if_neg c,if_neg (by omega)]
 have hlen:(List.replicate n.1.toNat (0:Int)).length=n.1.toNat:=by simp
 unfold qcg qpg;simp(disch:=omega)only[e,Wv,rs];rw[e2]
theorem jvn{n:bk}{m:List Int}{T:af}(F:FireF n m T)(hc:tx T m=true):c6 n.1 (eu T m)= !(eu T m).any (fun k=>decide (100<k)):=by
 have hlen:=F.len;have hml:=F.ml;unfold c6;rw[Ws (by omega),Hq];refine W0 (!·) ?_;rw[Ki,List.any_eq_true,List.any_eq_true];constructor
 ·rintro⟨k,hk,hb⟩;refine⟨k,hk,?_⟩;obtain⟨j,hj,rfl⟩:=kq 0 hk;have:=F.nn hc j (by omega);unfold jht at hb;simp only[Kj,WH]at hb;exact Ws (by omega)
 ·rintro⟨k,hk,hb⟩;exact⟨k,hk,by unfold jht;rw[hb,Bool.or_true]⟩
theorem jnh{n:bk}{m:List Int}{t:Nat}(F:FireF n m (n.2.1.getD t af.z))(hc:tx (n.2.1.getD t af.z) m=true):gg n m t=bif c6 n.1 (eu (n.2.1.getD t af.z) m)then(0,eu (n.2.1.getD t af.z) m)else(5,[]):=by
 unfold gg;rw[hc,jvn F hc,WQ];cases(eu (n.2.1.getD t af.z) m).any (fun k=>decide (100<k))<;>rfl
theorem jud{k:Int}(h0:0<=k)(h1:k<=255):IntKind.wrap .u8 k=k:=by
 unfold IntKind.wrap;simp[IntKind.bits,IntKind.signed];omega
theorem zc6{k:Int}(h0:0<=k)(h1:k<=255):q8s .i64 k 8=0:=by
 have e:(2:Int) ^ min (8:Int).toNat IntKind.i64.bits=256:=by decide
 unfold q8s;rw[e,Int.fdiv_eq_ediv_of_nonneg _ (by decide)];omega
def qzb(m:List Int):List Int:=m.flatMap fun k=>[k,0]
theorem jnt:∀m:List Int,(qzb m).length=2*m.length
 |[]=>rfl
 |k::m=>by
  show([k,0]++qzb m).length=_;rw[Wx,jnt m];simp only[WA,KG];omega
theorem jvh(m:List Int)(k:Int):qzb (m++[k])=qzb m++[k,0]:=by simp[qzb]
theorem jns:∀{a b:List Int},qzb a=qzb b->a=b
 |[],[],_=>rfl
 |[],_::_,h=>by cases h
 |_::_,[],h=>by cases h
 |x::a,y::b,h=>by
  have h:[x,0]++qzb a=[y,0]++qzb b:=h;simp only[Hu,List.nil_append,List.cons.injEq,true_and]at h;rw[h.1,jns h.2]
theorem j94{m:List Int}(hl:m.length<=1000000)(hb:∀i,i<m.length->0<=m.getD i 0/\m.getD i 0<=255):qgj m=some (strOfNums (qzb m)):=by
 have hL:jae m (m.length:Int) (0,[])=some (.inl (qzb m)):=by
  have e:qzb m=qzb (m.take m.length):=by rw[WW]
  rw[e];refine jp (fun i:Nat=>((i:Int),qzb (m.take i))) m.length (bm (by omega)) _ (fun i hi=> ?_) ?_ _ rfl
  ·have hlen:=jnt (m.take i);rw[Kg]at hlen;have:=hb i hi;have ew:=jud this.1 this.2;have es:=zc6 this.1 this.2;have e0:=jud (Kc 0) (show(0:Int)<=255 by decide);rw[cw m i 0 hi,jvh];have e8:decide ((0:Int)<=8)=true:=rfl;simp(disch:=omega)only[qjp,ew,es,e0,e8,zx,rs];rw[am]
  ·simp(disch:=omega)only[qjp,WW,rs]
 unfold qgj;simp(disch:=omega)only[hL,rs]
theorem jzh{a b:List Int}(ha:∀x∈a,0<=x/\x<=255)(hb:∀x∈b,0<=x/\x<=255)(h:strOfNums a=strOfNums b):a=b:=by
 have h1:a.map (fun n=>UInt8.ofNat n.toNat)=b.map fun n=>UInt8.ofNat n.toNat:=by rw[<-strOfNums_data,<-strOfNums_data,h]
 clear h
 induction a generalizing b with
 |nil=>cases b with
  |nil=>rfl
  |cons y b=>cases h1
 |cons x a ih=>
  cases b with
  |nil=>cases h1
  |cons y b=>
   simp only[Kd,List.cons.injEq]at h1;have hx:=ha x Wf;have hy:=hb y Wf;have e:=W0 UInt8.toNat h1.1;rw[UInt8.toNat_ofNat',UInt8.toNat_ofNat']at e;rw[ih (fun z hz=>ha z (We _ hz)) (fun z hz=>hb z (We _ hz)) h1.2];have:x=y:=by omega
   rw[this]
theorem q1p{N:Int}{m:List Int}(h:c6 N m=true):∀x∈m,0<=x/\x<=255:=fun x hx=>by
 obtain⟨i,hi,rfl⟩:=kq 0 hx;have:=(ez.1 h).2 i hi;omega
theorem jds{m:List Int}(h:∀x∈m,0<=x/\x<=255):∀x∈qzb m,0<=x/\x<=255:=fun x hx=>by
 obtain⟨k,hk,hx⟩:=List.mem_flatMap.1 hx;simp only[Wr,Hw,or_false]at hx;rcases hx with rfl|rfl
 ·exact h _ hk
 ·omega
def q4a(m:List Int):ByteArray:=strOfNums (qzb m)
theorem jyw{N:Int}{a b:List Int}(ha:c6 N a=true)(hb:c6 N b=true)(h:q4a a=q4a b):a=b:=
 jns (jzh (jds (q1p ha)) (jds (q1p hb)) h)
theorem jb9{N:Int}{m:List Int}(hN:N<=1000)(h:c6 N m=true):qgj m=some (q4a m):=by
 have:=(ez.1 h).1;exact j94 (by omega) fun i hi=>q1p h _ (ay 0 hi)
abbrev Sig:Type:=Bool×List (List Int)×List ak
abbrev d9(J:Sig)(i:Nat):List Int:=J.2.1.getD i []
abbrev trA(n:bk)(t:Nat):af:=n.2.1.getD t af.z
def mvA(i k t:Nat):ak:=((i:Int),(k:Int),(t:Int),())
def jql(J:Sig)(x:List Int):Option Nat:=pc (fun y:List Int=>decide (y=x)) J.2.1
def qhy(n:bk)(M i:Nat)(J:Sig)(t:Nat):Sig:=
 bif tx (trA n t) (d9 J i)then
  bif c6 n.1 (eu (trA n t) (d9 J i))then
   match jql J (eu (trA n t) (d9 J i))with
   |some k=>(J.1,J.2.1,J.2.2++[mvA i k t])
   |none=>if J.2.1.length<M then(J.1,J.2.1++[eu (trA n t) (d9 J i)],J.2.2++[mvA i J.2.1.length t])else(false,J.2.1,J.2.2)
  else(false,J.2.1,J.2.2)
 else J
abbrev qbg(n:bk)(M i:Nat)(l:List Nat)(J:Sig):Sig:=l.foldl (qhy n M i) J
def qvn(n:bk)(M:Nat):Nat->Nat->Sig->Sig
 |0,_,J=>J
 |f+1,i,J=>if i<J.2.1.length then qvn n M f (i+1) (qbg n M i (List.range n.2.1.length) J)else J
theorem qct(n:bk)(M i:Nat)(J:Sig)(t:Nat):
  (tx (trA n t) (d9 J i)=false/\qhy n M i J t=J)\/
  (tx (trA n t) (d9 J i)=true/\c6 n.1 (eu (trA n t) (d9 J i))=false/\qhy n M i J t=(false,J.2.1,J.2.2))\/
  (tx (trA n t) (d9 J i)=true/\c6 n.1 (eu (trA n t) (d9 J i))=true/\∃k,jql J (eu (trA n t) (d9 J i))=some k/\qhy n M i J t=(J.1,J.2.1,J.2.2++[mvA i k t]))\/
  (tx (trA n t) (d9 J i)=true/\c6 n.1 (eu (trA n t) (d9 J i))=true/\jql J (eu (trA n t) (d9 J i))=none/\J.2.1.length<M/\qhy n M i J t=(J.1,J.2.1++[eu (trA n t) (d9 J i)],J.2.2++[mvA i J.2.1.length t]))\/
  (tx (trA n t) (d9 J i)=true/\c6 n.1 (eu (trA n t) (d9 J i))=true/\jql J (eu (trA n t) (d9 J i))=none/\¬J.2.1.length<M/\qhy n M i J t=(false,J.2.1,J.2.2)):=by
 unfold qhy;cases h1:tx (trA n t) (d9 J i)with
 |false=>exact .inl ⟨rfl,rfl⟩
 |true=>
  cases h2:c6 n.1 (eu (trA n t) (d9 J i))with
  |false=>exact .inr (.inl ⟨rfl,rfl,rfl⟩)
  |true=>
   cases h3:jql J (eu (trA n t) (d9 J i))with
   |some k=>exact .inr (.inr (.inl ⟨rfl,rfl,k,rfl,rfl⟩))
   |none=>
    by_cases h4:J.2.1.length<M
    ·refine .inr (.inr (.inr (.inl ⟨rfl,rfl,rfl,h4,?_⟩)));simp only[WQ,if_pos h4]
    ·refine .inr (.inr (.inr (.inr ⟨rfl,rfl,rfl,h4,?_⟩)));simp only[WQ,if_neg h4]
theorem jyc{J:Sig}{x:List Int}{k:Nat}(h:jql J x=some k):k<J.2.1.length/\d9 J k=x:=by
 obtain⟨h1,h2,_⟩:=qcb [] h;exact⟨h1,W8 h2⟩
theorem jyb{J:Sig}{x:List Int}(h:jql J x=none):x∉J.2.1:=fun hx=>by
 have:=qjt h x hx;exact absurd rfl (of_decide_eq_false this)
theorem qg7{α:Type}(l:List α)(x d:α)(i:Nat)(h:i<l.length):(l++[x]).getD i d=l.getD i d:=by
 rw[Wa,Wa,Wo h]
theorem qow{α:Type}(l:List α)(x d:α):(l++[x]).getD l.length d=x:=by
 rw[Wa,Wu (Wg _),HQ];rfl
structure SpI (n : bk) (M : Nat) (J : Sig) : Prop where
 mks : ∀ x ∈ J.2.1, c6 n.1 x = true
 nd : J.2.1.Nodup
 len : J.2.1.length <= M
 pos : 0 < J.2.1.length
theorem SpI.flag{n:bk}{M:Nat}{J:Sig}(h:SpI n M J)(b:Bool)(mv:List ak):SpI n M (b,J.2.1,mv):=⟨h.mks,h.nd,h.len,h.pos⟩
theorem SpI.push{n:bk}{M:Nat}{J:Sig}(h:SpI n M J)(b:Bool)(mv:List ak){x:List Int}(hx:c6 n.1 x=true)(hn:x∉J.2.1)(hl:J.2.1.length<M):SpI n M (b,J.2.1++[x],mv):=by
 refine⟨fun y hy=> ?_,?_,by simp;omega,by simp⟩
 ·rcases WS.1 hy with hy|hy
  ·exact h.mks y hy
  ·rw[Wm.1 hy];exact hx
 ·exact Hj.2 ⟨h.nd,by simp,fun a ha b hb=>by rw[Wm.1 hb];exact fun e=>hn (e▸ha)⟩
theorem SpI.step{n:bk}{M i:Nat}{J:Sig}(h:SpI n M J)(t:Nat):SpI n M (qhy n M i J t):=by
 rcases qct n M i J t with⟨_,e⟩|⟨_,_,e⟩|⟨_,_,k,_,e⟩|⟨_,h2,h3,h4,e⟩|⟨_,_,_,_,e⟩<;>rw[e]
 ·exact h
 ·exact h.flag _ _
 ·exact h.flag _ _
 ·exact h.push _ _ h2 (jyb h3) h4
 ·exact h.flag _ _
theorem q59{n:bk}{M i:Nat}{J:Sig}{j:Nat}(hj:j<J.2.1.length)(t:Nat):d9 (qhy n M i J t) j=d9 J j/\J.2.1.length<=(qhy n M i J t).2.1.length:=by
 rcases qct n M i J t with⟨_,e⟩|⟨_,_,e⟩|⟨_,_,k,_,e⟩|⟨_,h2,h3,h4,e⟩|⟨_,_,_,_,e⟩<;>rw[e]
 ·exact⟨rfl,Wg _⟩
 ·exact⟨rfl,Wg _⟩
 ·exact⟨rfl,Wg _⟩
 ·exact⟨qg7 _ _ _ _ hj,by simp⟩
 ·exact⟨rfl,Wg _⟩
theorem j0g(n:bk)(M i:Nat)(J:Sig)(t:Nat):(qhy n M i J t).2.2.length<=J.2.2.length+1:=by
 rcases qct n M i J t with⟨_,e⟩|⟨_,_,e⟩|⟨_,_,k,_,e⟩|⟨_,h2,h3,h4,e⟩|⟨_,_,_,_,e⟩<;>rw[e]<;>simp
theorem qk9{n:bk}{M i:Nat}:∀(l:List Nat) {J:Sig},SpI n M J->SpI n M (qbg n M i l J)/\(∀j,j<J.2.1.length->d9 (qbg n M i l J) j=d9 J j)/\J.2.1.length<=(qbg n M i l J).2.1.length/\(qbg n M i l J).2.2.length<=J.2.2.length+l.length
 |[],J,h=>⟨h,fun _ _=>rfl,Wg _,Wg _⟩
 |t::l,J,h=>by
  obtain⟨h1,h2,h3,h4⟩:=qk9 (n:=n) (M:=M) (i:=i) l (h.step (i:=i) t);have h5:=q59 (n:=n) (M:=M) (i:=i) (J:=J) h.pos t;have h6:=j0g n M i J t;refine⟨h1,fun j hj=>(h2 j (by omega)).trans (q59 hj t).1,Kb h5.2 h3,?_⟩;have:(qbg n M i (t::l) J).2.2.length<=(qhy n M i J t).2.2.length+l.length:=h4;simp only[WA];omega
theorem qxc{n:bk}{M i:Nat}(s:List Int):∀(l:List Nat) {J:Sig},i<J.2.1.length->d9 J i=s->qbg n M i (l.filter fun t=>tx (trA n t) s) J=qbg n M i l J
 |[],J,_,_=>rfl
 |t::l,J,hi,hs=>by
  have h1:=q59 (n:=n) (M:=M) (i:=i) hi t;cases hc:tx (trA n t) s with
  |true=>
   rw[K6 (by rw[hc])];exact qxc s l (WL hi h1.2) (h1.1.trans hs)
  |false=>
   rw[KQ (by rw[hc];decide)];have:qhy n M i J t=J:=by
    rcases qct n M i J t with⟨_,e⟩|⟨h,_⟩|⟨h,_⟩|⟨h,_⟩|⟨h,_⟩
    ·exact e
    all_goals rw[hs,hc]at h;cases h
   show _=qbg n M i l (qhy n M i J t);rw[this];exact qxc s l hi hs
def jzq(k:ByteArray)(x:Int)(a:List (ByteArray×Int)):List (ByteArray×Int):=qdf .str k x a
def jjz(st:List (List Int)):List (ByteArray×Int):=(List.range st.length).foldl (fun a i=>jzq (q4a (st.getD i [])) (i:Int) a) []
theorem jfs{α:Type}{P:List α->Prop}(h0:P [])(h1:∀l x,P l->P (l++[x]))(l:List α):P l:=by
 have h:∀l:List α,P l.reverse:=fun l=>by
  induction l with
  |nil=>exact h0
  |cons x l ih=>rw[List.reverse_cons];exact h1 _ _ ih
 rw[<-List.reverse_reverse l];exact h _
theorem q30{α β:Type}{f g:β->α->β}:∀(l:List α) (b:β),(∀b a,a∈l->f b a=g b a)->l.foldl f b=l.foldl g b
 |[],_,_=>rfl
 |a::l,b,h=>by
  rw[List.foldl_cons,List.foldl_cons,h b a Wf];exact q30 l _ fun b a ha=>h b a (We _ ha)
theorem jh2(st:List (List Int))(x:List Int):jjz (st++[x])=jzq (q4a x) (st.length:Int) (jjz st):=by
 unfold jjz;rw[Wx,WA,KG,HK,Kv,List.foldl_cons,List.foldl_nil,qow];exact W0 _ (q30 _ _ fun b a ha=>by rw[qg7 _ _ _ _ (Kk.1 ha)])
theorem q7d{α:Type}(q:α->Bool):∀(l:List α) (x:α),pc q (l++[x])=match pc q l with|some i=>some i|none=>bif q x then some l.length else none
 |[],x=>by
  show(bif q x then some 0 else _)=_;cases q x<;>rfl
 |y::l,x=>by
  show(bif q y then some 0 else(pc q (l++[x])).map (·+1))=match(bif q y then some 0 else(pc q l).map (·+1))with|some i=>some i|none=>_
  rw[q7d q l x];cases q y with
  |true=>rfl
  |false=>
   cases pc q l with
   |some i=>rfl
   |none=>cases q x<;>rfl
theorem q63{N:Int}(x:List Int)(hx:c6 N x=true):∀st:List (List Int),(∀y∈st,c6 N y=true)->st.Nodup->bz .str (q4a x) (jjz st)=Option.map (fun i:Nat=>(i:Int)) (pc (fun y:List Int=>decide (y=x)) st):=by
 intro st;refine jfs (P:=fun st:List (List Int)=>(∀y∈st,c6 N y=true)->st.Nodup->bz .str (q4a x) (jjz st)=Option.map (fun i:Nat=>(i:Int)) (pc (fun y:List Int=>decide (y=x)) st)) (fun _ _=>rfl) (fun st y ih=> ?_) st
 ·intro hm hn;rw[jh2,q7d];unfold jzq;rw[qyk];have hn' :=Hj.1 hn;have ih:=ih (fun z hz=>hm z (Kh _ hz)) hn'.1;by_cases e:y=x
  ·subst e;have h0:pc (fun z:List Int=>decide (z=y)) st=none:=by
    cases hf:pc (fun z:List Int=>decide (z=y)) st with
    |none=>rfl
    |some i=>
     obtain⟨h1,h2,_⟩:=qcb [] hf;exact absurd (W8 h2) (hn'.2.2 _ (ay [] h1) _ (Wm.2 rfl))
   rw[h0,qse];simp
  ·have h1:qay (q4a x) (q4a y)=false:=by
    cases hs:qay (q4a x) (q4a y)with
    |false=>rfl
    |true=>exact absurd (jyw hx (hm y (Ke _ (Wm.2 rfl))) (q6a hs)).symm e
   rw[h1,ih];simp only[W9,WD e];cases pc (fun z:List Int=>decide (z=x)) st<;>rfl
theorem la{α β:Type}(f:α->β)(l:List α)(i:Nat)(d:α)(d' :β)(h:i<l.length):(l.map f).getD i d' =f (l.getD i d):=by
 rw[Wa,W6,Wa,Wi h];rfl
theorem j19{n:bk}{m:List Int}{i t:Nat}:t∈enN n m i↔t<i/\tx (n.2.1.getD t af.z) m=true:=by
 unfold enN;rw[Kf,Kk]
theorem j2b{n:bk}(h:Small n)(hv:dp n=true){M:Nat}(hM:M<=100){J:Sig}(hs:SpI n M J){i:Nat}(hi:i<J.2.1.length)(hmv:J.2.2.length<=10000):
  qtw (M:Int) (i:Int) (enL n (d9 J i)) ((enL n (d9 J i)).length:Int) n.1 n.2.1 n.2.2.1 n.2.2.2.1 [] [] false (0,J.1,jjz J.2.1,J.2.1,J.2.2)=
   some (.inl ((qbg n M i (List.range n.2.1.length) J).1,jjz (qbg n M i (List.range n.2.1.length) J).2.1,(qbg n M i (List.range n.2.1.length) J).2.1,(qbg n M i (List.range n.2.1.length) J).2.2)):=by
 have hT:=h.trans;have hN:=js hv;rw[<-qxc (d9 J i) (List.range n.2.1.length) hi rfl];have hen:(List.range n.2.1.length).filter (fun t=>tx (trA n t) (d9 J i))=enN n (d9 J i) n.2.1.length:=rfl;rw[hen];have hlen:(enL n (d9 J i)).length=(enN n (d9 J i) n.2.1.length).length:=by unfold enL;rw[Ww]
 have hle:(enN n (d9 J i) n.2.1.length).length<=n.2.1.length:=by
  unfold enN;exact Kb (Kr _ _) (by simp)
 have hg:∀k,k<(enN n (d9 J i) n.2.1.length).length->(enL n (d9 J i)).getD k 0=(((enN n (d9 J i) n.2.1.length).getD k 0:Nat):Int):=fun k hk=>la _ _ _ 0 _ hk
 have hmem:∀k,k<(enN n (d9 J i) n.2.1.length).length->(enN n (d9 J i) n.2.1.length).getD k 0<n.2.1.length/\tx (trA n ((enN n (d9 J i) n.2.1.length).getD k 0)) (d9 J i)=true:=fun k hk=>j19.1 (ay 0 hk)
 clear hen;generalize enL n (d9 J i)=L at hlen hg;generalize enN n (d9 J i) n.2.1.length=l at hlen hle hg hmem;have eT:qbg n M i l J=qbg n M i (l.take l.length) J:=by rw[WW]
 rw[eT];refine jp (fun k:Nat=>((k:Int),(qbg n M i (l.take k) J).1,jjz (qbg n M i (l.take k) J).2.1,(qbg n M i (l.take k) J).2.1,(qbg n M i (l.take k) J).2.2)) l.length (bm (by omega)) _ (fun k hk=> ?_) ?_ _ (by rfl)
 ·obtain⟨f1,f2,f3,f4⟩:=qk9 (n:=n) (M:=M) (i:=i) (l.take k) hs;have e1:qbg n M i (l.take (k+1)) J=qhy n M i (qbg n M i (l.take k) J) (l.getD k 0):=by
   rw[cw _ k 0 hk];unfold qbg;rw[Kv];rfl
  have hst:=f2 i hi;obtain⟨ht,hc⟩:=hmem k hk;have hg:=hg k hk;have hkL:k<L.length:=by rw[hlen];exact hk
  have hml:(l.take k).length<=100:=by rw[Kg];omega
  generalize qbg n M i (l.take k) J=τ at f1 f2 f3 f4 e1 hst;rw[e1];generalize l.getD k 0=t at ht hc hg e1;have hmS:c6 n.1 (d9 τ i)=true:=f1.mks _ (ay [] (by omega));rw[<-hst]at hc;have F:=jsu h hv hmS ht;have hF:=jjf h hv hmS ht;rw[jnh F hc]at hF;have en:((n.1,n.2.1,n.2.2.1,n.2.2.2.1,()):bk)=n:=rfl;have hil:i<τ.2.1.length:=by omega
  have hlenM:=f1.len;rcases qct n M i τ t with⟨g1,e⟩|⟨g1,g2,e⟩|⟨g1,g2,q,g3,e⟩|⟨g1,g2,g3,g4,e⟩|⟨g1,g2,g3,g4,e⟩
  ·rw[show tx (trA n t) (d9 τ i)=true from hc]at g1;cases g1
  ·rw[e];rw[show c6 n.1 (eu (n.2.1.getD t af.z) (d9 τ i))=false from g2,W9]at hF;simp(disch:=omega)only[kb,hg,en,hF,rs];rfl
  ·rw[e];rw[show c6 n.1 (eu (n.2.1.getD t af.z) (d9 τ i))=true from g2,WQ]at hF;have hky:=jb9 (N:=n.1) (by omega) g2;have hat:=q63 (N:=n.1) _ g2 τ.2.1 f1.mks f1.nd;rw[show pc (fun y:List Int=>decide (y=eu (n.2.1.getD t af.z) (d9 τ i))) τ.2.1=some q from g3]at hat;have hml' :(τ.2.2++[((i:Int),(q:Int),(t:Int),())]).length=τ.2.2.length+1:=by simp
   simp(disch:=omega)only[kb,hg,en,hF,hky,hat,Wd,Option.isSome_some,WX,Wv,hml',rs];rfl
  ·rw[e];rw[show c6 n.1 (eu (n.2.1.getD t af.z) (d9 τ i))=true from g2,WQ]at hF;have hky:=jb9 (N:=n.1) (by omega) g2;have hat:=q63 (N:=n.1) _ g2 τ.2.1 f1.mks f1.nd;rw[show pc (fun y:List Int=>decide (y=eu (n.2.1.getD t af.z) (d9 τ i))) τ.2.1=none from g3]at hat;have hml' :(τ.2.2++[((i:Int),(τ.2.1.length:Int),(t:Int),())]).length=τ.2.2.length+1:=by simp
   simp only[jh2];simp(disch:=omega)only[kb,hg,en,hF,hky,hat,KN,Option.isSome_none,WP,hml',rs];rfl
  ·rw[e];rw[show c6 n.1 (eu (n.2.1.getD t af.z) (d9 τ i))=true from g2,WQ]at hF;have hky:=jb9 (N:=n.1) (by omega) g2;have hat:=q63 (N:=n.1) _ g2 τ.2.1 f1.mks f1.nd;rw[show pc (fun y:List Int=>decide (y=eu (n.2.1.getD t af.z) (d9 τ i))) τ.2.1=none from g3]at hat;simp(disch:=omega)only[kb,hg,en,hF,hky,hat,KN,Option.isSome_none,WP,rs];rfl
 ·rw[<-hlen];simp(disch:=omega)only[kb,rs]
theorem t8{S E R:Type}{step:S->Option (LR S E R)}{o:E⊕R}{n:Nat}{s:S}(h:xh step n s=some o)(hn:n<many):b9 step s=some o:=jif h (by omega)
theorem zan{n:bk}{M i:Nat}{J:Sig}(h:Small n)(hs:SpI n M J)(hm:J.2.2.length<=100*i):(qbg n M i (List.range n.2.1.length) J).2.2.length<=100*(i+1):=by
 have:=(qk9 (n:=n) (M:=M) (i:=i) (List.range n.2.1.length) hs).2.2.2;have hT:=h.trans;rw[Hi]at this;omega
theorem j2c{n:bk}(h:Small n)(hv:dp n=true){M:Nat}(hM:M<=100):∀(f i:Nat) {J:Sig},SpI n M J->M<f+i->J.2.2.length<=100*i->
  xh (fun a=>nk (M:Int) n.1 n.2.1 n.2.2.1 n.2.2.2.1 [] [] false a.1 a.2.1 a.2.2.1 a.2.2.2.1 a.2.2.2.2 (fun a' =>some (.next a')) (fun e=>some (.done e)) (fun r=>some (.ret r))) (f+1) ((i:Int),J.1,jjz J.2.1,J.2.1,J.2.2)=
   some (.inl ((qvn n M f i J).1,(qvn n M f i J).2.1,(qvn n M f i J).2.2)):=by
 intro f
 induction f with
 |zero=>
  intro i J hs hf hm;have:=hs.len;rw[ce];simp(disch:=omega)only[nk,rs];rfl
 |succ f ih=>
  intro i J hs hf hm;have hlen:=hs.len;rw[ce];by_cases hi:i<J.2.1.length
  ·have e0:qvn n M (f+1) i J=qvn n M f (i+1) (qbg n M i (List.range n.2.1.length) J):=by
    show(if i<J.2.1.length then _ else _)=_;rw[if_pos hi]
   have hN:=js hv;have hmS:c6 n.1 (d9 J i)=true:=hs.mks _ (ay [] hi);have hml:=(ez.1 hmS).1;have hE:=qjw h (d9 J i) (by omega);rw[hv,hmS]at hE;have hL:=j2b h hv hM hs hi (by omega);have en:((n.1,n.2.1,n.2.2.1,n.2.2.2.1,()):bk)=n:=rfl;have ihh:=ih (i+1) (qk9 (n:=n) (M:=M) (i:=i) (List.range n.2.1.length) hs).1 (by omega) (zan h hs hm);rw[e0,<-ihh];simp(disch:=omega)only[nk,en,hE,KT,hL,am,rs];rfl
  ·have e0:qvn n M (f+1) i J=J:=by
    show(if i<J.2.1.length then _ else _)=_;rw[if_neg hi]
   rw[e0];simp(disch:=omega)only[nk,rs];rfl
def zaq(m:List Int):Sig:=(true,[m],[])
theorem jtw{n:bk}{M:Nat}{m:List Int}(hm:c6 n.1 m=true)(hM:1<=M):SpI n M (zaq m):=by
 refine⟨fun x hx=> ?_,KR _ _,by show 1<=M;exact hM,Nat.one_pos⟩;rw[Wm.1 hx];exact hm
def spc(n:bk)(M:Nat)(m:List Int):Sig:=qvn n M (M+1) 0 (zaq m)
theorem jcq{n:bk}(h:Small n)(m:List Int)(hl:m.length<=1000000)(most:Int)(hmost:¬(100<most/\most<=2000)):ql n m most=
  some (bif dp n&&c6 n.1 m then(if most<1\/2000<most then(([],[],false,()),2)else(((spc n most.toNat m).2.1,(spc n most.toNat m).2.2,(spc n most.toNat m).1,()),0))else(([],[],false,()),1)):=by
 have hE:=qjw h m hl;unfold ql;cases hvm:(dp n&&c6 n.1 m)with
 |false=>
  rw[hvm]at hE;simp(disch:=omega)only[hE,rs]
 |true=>
  rw[hvm]at hE;have hv:=(Wc _ _▸hvm).1;have hmk:=(Wc _ _▸hvm).2;by_cases h1:most<1
  ·rw[if_pos (.inl h1)];simp(disch:=omega)only[hE,rs]
  ·by_cases h2:2000<most
   ·rw[if_pos (.inr h2)];simp(disch:=omega)only[hE,rs]
   ·rw[if_neg (by omega)];obtain⟨M,rfl⟩:∃M:Nat,most=(M:Int):=⟨most.toNat,by omega⟩;have hN:=js hv;have hk:=jb9 (N:=n.1) (by omega) hmk;have hC:=jmh m hl;have hL:=j2c h hv (M:=M) (by omega) (M+1) 0 (jtw hmk (by omega)) (by omega) (W7 _);have hL2:qtx (M:Int) n.1 n.2.1 n.2.2.1 n.2.2.2.1 [] [] false (0,true,jzq (q4a m) 0 [],[m],[])=some (.inl ((spc n M m).1,(spc n M m).2.1,(spc n M m).2.2)):=t8 hL (bm (by omega));have ep:qdf .str (q4a m) (0:Int) ([]:List (ByteArray×Int))=jzq (q4a m) 0 []:=rfl;simp(disch:=omega)only[hE,hk,hC,ep,hL2,rs]
def jzd(a b:ak):Prop:=a.1<b.1\/a.1=b.1/\a.2.2.1<b.2.2.1
structure GI (n : bk) (M : Nat) (m : List Int) (i d : Nat) (J : Sig) : Prop where
 sp : SpI n M J
 mv : ∀ x ∈ J.2.2, ∃ a b t, x = mvA a b t /\ (a < i \/ a = i /\ t < d) /\ a < J.2.1.length /\ b < J.2.1.length /\ t < n.2.1.length /\ tx (trA n t) (d9 J a) = true /\ eu (trA n t) (d9 J a) = d9 J b
 srt : J.2.2.Pairwise jzd
 full : J.1 = true -> ∀ a t, (a < i \/ a = i /\ t < d) -> a < J.2.1.length -> t < n.2.1.length -> tx (trA n t) (d9 J a) = true -> ∃ b, mvA a b t ∈ J.2.2
 rch : ∀ j, 0 < j -> j < J.2.1.length -> ∃ a t, a < j /\ mvA a j t ∈ J.2.2
 fst : d9 J 0 = m
 ml : J.2.2.length <= i * n.2.1.length + d
theorem GI.ex{n:bk}{M:Nat}{m:List Int}{i d:Nat}{J:Sig}(h:GI n M m i d J){st:List (List Int)}{b0:Nat}(hi:i<J.2.1.length)(ht:d<n.2.1.length)(hst:∀j,j<J.2.1.length->st.getD j []=d9 J j)(hlen:J.2.1.length<=st.length)(hb:b0<st.length)(hc:tx (trA n d) (d9 J i)=true)(hf:eu (trA n d) (d9 J i)=st.getD b0 []):
  (∀x∈J.2.2++[mvA i b0 d],∃a b t,x=mvA a b t/\(a<i\/a=i/\t<d+1)/\a<st.length/\b<st.length/\t<n.2.1.length/\tx (trA n t) (st.getD a [])=true/\eu (trA n t) (st.getD a [])=st.getD b [])/\(J.2.2++[mvA i b0 d]).Pairwise jzd:=by
 refine⟨fun x hx=> ?_,List.pairwise_append.2 ⟨h.srt,KR _ _,fun x hx y hy=> ?_⟩⟩
 ·rcases WS.1 hx with hx|hx
  ·obtain⟨a,b,t,e,h1,h2,h3,h4,h5,h6⟩:=h.mv x hx;exact⟨a,b,t,e,by omega,by omega,by omega,h4,by rw[hst a h2];exact h5,by rw[hst a h2,hst b h3];exact h6⟩
  ·rw[Wm.1 hx];exact⟨i,b0,d,rfl,by omega,by omega,hb,ht,by rw[hst i hi];exact hc,by rw[hst i hi];exact hf⟩
 ·obtain⟨a,b,t,rfl,h1,_⟩:=h.mv x hx;rw[Wm.1 hy];unfold jzd mvA;simp only[];omega
theorem GI.step{n:bk}{M:Nat}{m:List Int}{i d:Nat}{J:Sig}(h:GI n M m i d J)(hi:i<J.2.1.length)(ht:d<n.2.1.length):GI n M m i (d+1) (qhy n M i J d):=by
 have hsp:=h.sp.step (i:=i) d;rcases qct n M i J d with⟨g1,e⟩|⟨g1,g2,e⟩|⟨g1,g2,q,g3,e⟩|⟨g1,g2,g3,g4,e⟩|⟨g1,g2,g3,g4,e⟩<;>rw[e]at hsp⊢
 ·refine⟨hsp,fun x hx=> ?_,h.srt,fun hf a t hat ha ht' hc=> ?_,h.rch,h.fst,by have:=h.ml;omega⟩
  ·obtain⟨a,b,t,e,h1,h2⟩:=h.mv x hx;exact⟨a,b,t,e,by omega,h2⟩
  ·by_cases hd:a=i/\t=d
   ·obtain⟨rfl,rfl⟩:=hd;rw[g1]at hc;cases hc
   ·exact h.full hf a t (by omega) ha ht' hc
 ·refine⟨hsp,fun x hx=> ?_,h.srt,(fun hf=>by cases hf),h.rch,h.fst,by have:=h.ml;show J.2.2.length<=_;omega⟩;obtain⟨a,b,t,e,h1,h2⟩:=h.mv x hx;exact⟨a,b,t,e,by omega,h2⟩
 ·obtain⟨q1,q2⟩:=jyc g3;obtain⟨m1,m2⟩:=h.ex (st:=J.2.1) (b0:=q) hi ht (fun _ _=>rfl) (Wg _) q1 g1 q2.symm;refine⟨hsp,m1,m2,fun hf a t hat ha ht' hc=> ?_,fun j h0 hj=> ?_,h.fst,by have:=h.ml;simp only[Wx,WA,KG];omega⟩
  ·by_cases hd:a=i/\t=d
   ·obtain⟨rfl,rfl⟩:=hd;exact⟨q,Ke _ (Wm.2 rfl)⟩
   ·obtain⟨b,hb⟩:=h.full hf a t (by omega) ha ht' hc;exact⟨b,Kh _ hb⟩
  ·obtain⟨a,t,h1,h2⟩:=h.rch j h0 hj;exact⟨a,t,h1,Kh _ h2⟩
 ·have hst:∀j,j<J.2.1.length->(J.2.1++[eu (trA n d) (d9 J i)]).getD j []=d9 J j:=fun j hj=>qg7 _ _ _ _ hj
  obtain⟨m1,m2⟩:=h.ex (st:=J.2.1++[eu (trA n d) (d9 J i)]) (b0:=J.2.1.length) hi ht hst (by simp) (by simp) g1 (qow _ _ _).symm;refine⟨hsp,m1,m2,fun hf a t hat ha ht' hc=> ?_,fun j h0 hj=> ?_,(hst 0 h.sp.pos).trans h.fst,by have:=h.ml;simp only[Wx,WA,KG];omega⟩
  ·by_cases hd:a=i/\t=d
   ·obtain⟨rfl,rfl⟩:=hd;exact⟨_,Ke _ (Wm.2 rfl)⟩
   ·have ha' :a<J.2.1.length:=by omega
    have hc' :tx (trA n t) (d9 J a)=true:=by rw[<-hst a ha'];exact hc
    obtain⟨b,hb⟩:=h.full hf a t (by omega) ha' ht' hc';exact⟨b,Kh _ hb⟩
  ·by_cases hjl:j<J.2.1.length
   ·obtain⟨a,t,h1,h2⟩:=h.rch j h0 hjl;exact⟨a,t,h1,Kh _ h2⟩
   ·have:j=J.2.1.length:=by simp only[Wx,WA,KG]at hj;omega
    subst this;exact⟨i,d,hi,Ke _ (Wm.2 rfl)⟩
 ·refine⟨hsp,fun x hx=> ?_,h.srt,(fun hf=>by cases hf),h.rch,h.fst,by have:=h.ml;show J.2.2.length<=_;omega⟩;obtain⟨a,b,t,e,h1,h2⟩:=h.mv x hx;exact⟨a,b,t,e,by omega,h2⟩
theorem GI.row{n:bk}{M:Nat}{m:List Int}{i:Nat}{J:Sig}(h:GI n M m i 0 J)(hi:i<J.2.1.length):GI n M m (i+1) 0 (qbg n M i (List.range n.2.1.length) J):=by
 have key:∀d,d<=n.2.1.length->GI n M m i d (qbg n M i (List.range d) J)/\i<(qbg n M i (List.range d) J).2.1.length:=fun d=>by
  induction d with
  |zero=>intro _;exact⟨h,hi⟩
  |succ d ih=>
   intro hd;obtain⟨h1,h2⟩:=ih (by omega);have e1:qbg n M i (List.range (d+1)) J=qhy n M i (qbg n M i (List.range d) J) d:=by
    rw[HK];unfold qbg;rw[Kv];rfl
   rw[e1];exact⟨h1.step h2 (by omega),WL h2 (q59 h2 d).2⟩
 obtain⟨h1,_⟩:=key n.2.1.length (Wg _);refine⟨h1.sp,fun x hx=> ?_,h1.srt,fun hf a t hat ha ht hc=>h1.full hf a t (by omega) ha ht hc,h1.rch,h1.fst,by have:=h1.ml;rw[WM];omega⟩;obtain⟨a,b,t,e,g1,g2⟩:=h1.mv x hx;exact⟨a,b,t,e,by omega,g2⟩
theorem GI.expl{n:bk}{M:Nat}{m:List Int}:∀(f i:Nat) {J:Sig},GI n M m i 0 J->i<=J.2.1.length->M<f+i->∃k,GI n M m k 0 (qvn n M f i J)/\k=(qvn n M f i J).2.1.length
 |0,i,J,h,hi,hf=>⟨i,h,by have:=h.sp.len;show i=J.2.1.length;omega⟩
 |f+1,i,J,h,hi,hf=>by
  unfold qvn;by_cases hlt:i<J.2.1.length
  ·rw[if_pos hlt];have:=(qk9 (n:=n) (M:=M) (i:=i) (List.range n.2.1.length) h.sp).2.2.1;exact GI.expl f (i+1) (h.row hlt) (by omega) (by omega)
  ·rw[if_neg hlt];exact⟨i,h,by omega⟩
structure SpcOK (n : bk) (M : Nat) (m : List Int) (J : Sig) : Prop where
 sp : SpI n M J
 mv : ∀ x ∈ J.2.2, ∃ a b t, x = mvA a b t /\ a < J.2.1.length /\ b < J.2.1.length /\ t < n.2.1.length /\ tx (trA n t) (d9 J a) = true /\ eu (trA n t) (d9 J a) = d9 J b
 srt : J.2.2.Pairwise jzd
 full : J.1 = true -> ∀ a t, a < J.2.1.length -> t < n.2.1.length -> tx (trA n t) (d9 J a) = true -> ∃ b, mvA a b t ∈ J.2.2
 rch : ∀ j, 0 < j -> j < J.2.1.length -> ∃ a t, a < j /\ mvA a j t ∈ J.2.2
 fst : d9 J 0 = m
 ml : J.2.2.length <= M * n.2.1.length
theorem jl5{n:bk}{M:Nat}{m:List Int}(hm:c6 n.1 m=true)(hM:1<=M):SpcOK n M m (spc n M m):=by
 have h0:GI n M m 0 0 (zaq m):=by
  refine⟨jtw hm hM,(fun x hx=>by cases hx),List.Pairwise.nil,fun _ a t hat=>by omega,fun j h0 hj=> ?_,rfl,W7 _⟩;have:j<1:=hj;omega
 obtain⟨k,h1,hk⟩:=GI.expl (M+1) 0 h0 (W7 _) (by omega);have hlen:=h1.sp.len;refine⟨h1.sp,fun x hx=> ?_,h1.srt,fun hf a t ha ht hc=>h1.full hf a t (by show a<k\/_;rw[hk];exact .inl ha) ha ht hc,h1.rch,h1.fst,Kb h1.ml (WC _ (by rw[hk];exact hlen))⟩;obtain⟨a,b,t,e,_,g2⟩:=h1.mv x hx;exact⟨a,b,t,e,g2⟩
end Go.Proofs.YtocndcbobdnagaaGreatDoor
