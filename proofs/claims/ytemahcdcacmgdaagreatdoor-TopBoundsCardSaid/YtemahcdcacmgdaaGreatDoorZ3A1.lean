/-
  Nets, firing, and the search of a space (picked out of Predict's texts).
-/
import Derived.Test.YtemahcdcacmgdaaGreatDoorZ3Md
import Derived.Test.YtemahcdcacmgdaaGreatDoorZ3Ky
set_option linter.all false
namespace Go.Proofs.YtemahcdcacmgdaaGreatDoor
open Go.K Go.M
def eqS(a b:ByteArray):Bool:=ByteArray.toList a==ByteArray.toList b
theorem jv5(a b:ByteArray):(ByteArray.toList a==ByteArray.toList b)=eqS a b:=rfl
def jp7(c:Int):Bool:=decide (65≤c)&&decide (c≤90)||decide (97≤c)&&decide (c≤122)
def jja(c:Int):Bool:=jp7 c||decide (48≤c)&&decide (c≤57)||decide (c=95)||decide (c=45)||decide (c=46)
abbrev byt(s:ByteArray)(i:Nat):Int:=((ByteArray.data s).getD i 0).toNat
theorem jde(c:Int):qec c=some (jp7 c):=by
 unfold qec jp7;cases decide ((65:Int)≤c)<;>cases decide (c≤(90:Int))<;>cases decide ((97:Int)≤c)<;>cases decide (c≤(122:Int))<;>rfl
theorem jny(c:Int):qti c=some (jja c):=by
 unfold qti jja;rw[jde,bi];cases jp7 c<;>cases decide ((48:Int)≤c)<;>cases decide (c≤(57:Int))<;>cases decide (c=(95:Int))<;>cases decide (c=(45:Int))<;>cases decide (c=(46:Int))<;>rfl
def jnt(s:ByteArray):Bool:=decide (1≤s.size)&&decide (s.size≤40)&&jp7 (byt s 0)&&(List.range s.size).all fun i=>jja (byt s i)
theorem jo1(s:ByteArray):qi6 s=some (jnt s):=by
 unfold qi6 jnt;by_cases h1:(s.size:Int)<1
 ·have:¬1≤s.size:=by omega
  simp(disch:=omega)only[rs];rw[decide_eq_false this];rfl
 ·have h1' :1≤s.size:=by omega
  rw[decide_eq_true h1'];by_cases h2:40<(s.size:Int)
  ·have:¬s.size≤40:=by omega
   simp(disch:=omega)only[rs];rw[decide_eq_false this];rfl
  ·have h2' :s.size≤40:=by omega
   rw[decide_eq_true h2'];have hL:quu s (s.size:Int) 0=some (bif (List.range s.size).all (fun i=>jja (byt s i))then .inl ()else .inr false):=by
    refine qrs (fun i:Nat=>(i:Int)) s.size (bw (by omega)) _ () false ?_ ?_ ?_
    ·intro i hi hp;simp(disch:=omega)only[tk,jny,hp,Bool.not_true,rs];rw[al]
    ·intro i hi hp;simp(disch:=omega)only[tk,jny,hp,Bool.not_false,rs]
    ·simp(disch:=omega)only[tk,rs]
   simp(disch:=omega)only[jde,hL,rs];cases jp7 (byt s 0)with
   |false=>rfl
   |true=>cases(List.range s.size).all (fun i=>jja (byt s i))<;>rfl
def jlo(l:List Int)(x:Int):Bool:=l.any fun y=>decide (x=y)
theorem q3m(l:List Int)(h:l.length≤1000000)(x:Int):c6 l x=some (jlo l x):=by
 have hL:qar l x (l.length:Int) 0=some (jfh (fun i=>(i:Int)) (me (fun y=>decide (x=y)) l)):=by
  refine ya l 0 (fun y=>decide (x=y)) (fun i=>(i:Int)) (by omega) (fun i hi=> ?_) ?_
  ·simp(disch:=omega)only[i6,rs];rw[al];cases decide (x=l.getD i 0)<;>rfl
  ·simp(disch:=omega)only[i6,rs]
 unfold c6 tu;rw[hL,bi,qnq,bi,qnp];rfl
def jem(N:Int)(l:List Int)(i:Nat):Bool:=decide (l.getD i 0<0)||decide (N≤l.getD i 0)||decide (0<i)&&decide (l.getD i 0≤l.getD (i-1) 0)
def q52(N:Int)(l:List Int):Bool:=(List.range l.length).all fun i=> !jem N l i
theorem qzr(N:Int)(ts:List ah)(a b:Int)(l:List Int)(h:l.length≤1000000):qr5 l l (l.length:Int) N ts a b 0=some (bif (List.range l.length).all (fun i=> !jem N l i)then .inl ()else .inr false):=by
 have hst:∀i:Nat,i<l.length→lx l l (l.length:Int) N ts a b (R:=LR Int Unit Bool) (i:Int) (fun a' =>some (.next a')) (fun e=>some (.done e)) (fun r=>some (.ret r))=some (bif jem N l i then .ret false else .next ((i+1:Nat):Int)):=fun i hi=>by
  unfold jem;by_cases h0:0<i
  ·have e:(i:Int)-1=((i-1:Nat):Int):=by omega
   have h0' :(0:Int)<(i:Int):=by omega
   rw[decide_eq_true h0];simp(disch:=omega)only[lx,e,rs];rw[al];cases decide (l.getD i 0<0)<;>cases decide (N≤l.getD i 0)<;>cases decide (l.getD i 0≤l.getD (i-1) 0)<;>rfl
  ·have h0' :¬(0:Int)<(i:Int):=by omega
   rw[decide_eq_false h0];simp(disch:=omega)only[lx,rs];rw[al];cases decide (l.getD i 0<0)<;>cases decide (N≤l.getD i 0)<;>rfl
 refine qrs (fun i:Nat=>(i:Int)) l.length (bw (by omega)) _ () false (fun i hi hp=> ?_) (fun i hi hp=> ?_) ?_
 ·have hb:jem N l i=false:=by simpa using hp
  exact(hst i hi).trans (by rw[hb];rfl)
 ·have hb:jem N l i=true:=by simpa using hp
  exact(hst i hi).trans (by rw[hb];rfl)
 ·simp(disch:=omega)only[lx,rs]
theorem jz5{b:Bool}:(lk (bif b then(.inl ():Unit⊕Bool)else .inr false) (fun _=>some true) fun r=>some r)=some b:=by cases b<;>rfl
theorem wn(n:b8)(l:List Int)(h:l.length≤1000000):jr n l=some (q52 n.1 l):=by
 unfold jr q52;rw[qzr n.1 n.2.1 n.2.2.1 n.2.2.2.1 l h,bi,jz5]
structure Small (n : b8) : Prop where
 trans : n.2.1.length ≤ 100
 ins : ∀ t ∈ n.2.1, t.2.1.length ≤ 60
 outs : ∀ t ∈ n.2.1, t.2.2.1.length ≤ 60
def jo9(N:Int)(t:ah):Bool:= !eqS t.1 ⟨#[]⟩&& !jnt t.1|| !q52 N t.2.1|| !q52 N t.2.2.1
def dp(n:b8):Bool:=decide (1≤n.1)&&decide (n.1≤40)&&decide (n.2.1.length≤60)&& !n.2.1.any (jo9 n.1)&&(decide (0≤n.2.2.1)&&decide (n.2.2.1<n.1))&&(decide (0≤n.2.2.2.1)&&decide (n.2.2.2.1<n.1))
theorem jjo(N x:Int):q52 N [x]=(decide (0≤x)&&decide (x<N)):=by
 unfold q52 jem;rw[Bool.eq_iff_iff];simp
theorem jha{n:b8}(h:Small n):pz n=some (dp n):=by
 have hL:qu2 n.2.1 (n.2.1.length:Int) n.1 n.2.1 n.2.2.1 n.2.2.2.1 0=some (bif n.2.1.any (jo9 n.1)then .inr false else .inl ()):=by
  have hl:=h.trans;refine qv0 n.2.1 ah.z (jo9 n.1) false (by omega) (fun i hi=> ?_) ?_
  ·have h1:=h.ins _ (ba ah.z hi);have h2:=h.outs _ (ba ah.z hi);unfold jo9;simp(disch:=omega)only[jv5,zt,jo1,rs];rw[wn _ _ (by omega),wn _ _ (by omega),al];simp only[bi];cases eqS (n.2.1.getD i ah.z).1 ⟨#[]⟩<;>cases jnt (n.2.1.getD i ah.z).1<;>cases q52 n.1 (n.2.1.getD i ah.z).2.1<;>cases q52 n.1 (n.2.1.getD i ah.z).2.2.1<;>rfl
  ·simp(disch:=omega)only[zt,rs]
 unfold pz dp;rw[hL,wn _ _ (by simp),wn _ _ (by simp),jjo,jjo];have e1:decide (1≤n.1)= !decide (n.1<1):=by rw[Bool.eq_iff_iff];simp
 have e2:decide (n.1≤40)= !decide (40<n.1):=by rw[Bool.eq_iff_iff];simp
 have e3:decide (n.2.1.length≤60)= !decide ((60:Int)<(n.2.1.length:Int)):=by rw[Bool.eq_iff_iff];simp;omega
 rw[e1,e2,e3];cases decide (n.1<1)<;>cases decide (40<n.1)<;>cases decide ((60:Int)<(n.2.1.length:Int))<;>cases n.2.1.any (jo9 n.1)<;>cases(decide (0≤n.2.2.1)&&decide (n.2.2.1<n.1))<;>cases(decide (0≤n.2.2.2.1)&&decide (n.2.2.2.1<n.1))<;>rfl
theorem qhm{N:Int}{l:List Int}:q52 N l=true↔(∀x∈l,0≤x∧x<N)∧l.Pairwise (·<·):=by
 unfold q52;rw[List.all_eq_true];constructor
 ·intro h;have hq:∀i,i<l.length→(0≤l.getD i 0∧l.getD i 0<N)∧(0<i→l.getD (i-1) 0<l.getD i 0):=fun i hi=>by
   have:=h i (List.mem_range.2 hi);unfold jem at this;simp only[Bool.not_eq_true',Bool.or_eq_false_iff,Bool.and_eq_false_iff,decide_eq_false_iff_not]at this;refine⟨by omega,fun h0=> ?_⟩;rcases this.2 with h1|h1
   ·exact absurd h0 h1
   ·omega
  refine⟨fun x hx=> ?_,List.pairwise_iff_getElem.2 fun i j hi hj hij=> ?_⟩
  ·obtain⟨i,hi,rfl⟩:=rf 0 hx;exact(hq i hi).1
  ·have key:∀d,∀j,j=i+1+d→j<l.length→l.getD i 0<l.getD j 0:=by
    intro d
    induction d with
    |zero=>intro j hj hl;subst hj;exact(hq (i+1) hl).2 (by omega)
    |succ d ih=>
     intro j hj hl;have h1:=ih (i+1+d) rfl (by omega);have h2:=(hq j hl).2 (by omega);rw[show j-1=i+1+d by omega]at h2;omega
   have:=key (j-i-1) j (by omega) hj;rwa[qf4 l i 0 hi,qf4 l j 0 hj]at this
 ·rintro⟨h1,h2⟩ i hi;have hi:=List.mem_range.1 hi;have hb:=h1 _ (ba 0 hi);unfold jem;simp only[Bool.not_eq_true',Bool.or_eq_false_iff,Bool.and_eq_false_iff,decide_eq_false_iff_not];refine⟨by omega,?_⟩;by_cases h0:0<i
  ·right;have:=List.pairwise_iff_getElem.1 h2 (i-1) i (by omega) hi (by omega);rw[qf4 l i 0 hi,qf4 l (i-1) 0 (by omega)];omega
  ·exact .inl h0
theorem lz(l:List Int)(h:l.length≤1000000):bk l=some l:=by
 unfold bk ju;simp(disch:=omega)only[List.nil_append,rs]
theorem jrg(a b:List Int)(ha:a.length≤1000000):m8 a b=some (decide (a=b)):=by
 unfold m8;by_cases hl:a.length=b.length
 ·rw[qw0 (by simp[hl])];have hloop:qan a b (a.length:Int) 0=some (bif (List.range a.length).all (fun i=>decide (a.getD i 0=b.getD i 0))then .inl ()else .inr false):=by
   refine qrs (fun i:Nat=>(i:Int)) a.length (bw (by omega)) _ () false ?_ ?_ ?_
   ·intro i hi hp;have hp' :a.getD i 0=b.getD i 0:=of_decide_eq_true hp;simp(disch:=omega)only[fm,rs];rw[al]
   ·intro i hi hp;have hp' :a.getD i 0≠b.getD i 0:=of_decide_eq_false hp;simp(disch:=omega)only[fm,rs]
   ·simp(disch:=omega)only[fm,rs]
  rw[hloop,bi];have hall:(List.range a.length).all (fun i=>decide (a.getD i 0=b.getD i 0))=decide (a=b):=by
   rw[Bool.eq_iff_iff,List.all_eq_true,decide_eq_true_iff];constructor
   ·intro h;refine List.ext_getElem hl fun i h1 h2=> ?_
    have:=of_decide_eq_true (h i (List.mem_range.2 h1));rw[qf4 a i 0 h1,qf4 b i 0 h2]at this;exact this
   ·rintro rfl i _;simp
  rw[hall];cases decide (a=b)<;>rfl
 ·have:¬a=b:=fun h=>hl (by rw[h])
  rw[qw2 (by simp;omega),decide_eq_false this]
def j65(t:ah)(trap:Bool):List Int:=bif trap then t.2.1 else t.2.2.1
def j66(t:ah)(trap:Bool):List Int:=bif trap then t.2.2.1 else t.2.1
structure SmallT (ts : List ah) : Prop where
 trans : ts.length ≤ 100
 ins : ∀ t ∈ ts, t.2.1.length ≤ 60
 outs : ∀ t ∈ ts, t.2.2.1.length ≤ 60
theorem Small.T{n:b8}(h:Small n):SmallT n.2.1:=⟨h.trans,h.ins,h.outs⟩
theorem SmallT.a{ts:List ah}(h:SmallT ts){t:ah}(ht:t∈ts)(trap:Bool):(j65 t trap).length≤60:=by
 cases trap
 ·exact h.outs t ht
 ·exact h.ins t ht
theorem SmallT.b{ts:List ah}(h:SmallT ts){t:ah}(ht:t∈ts)(trap:Bool):(j66 t trap).length≤60:=by
 cases trap
 ·exact h.ins t ht
 ·exact h.outs t ht
theorem jsr{α:Type}{p:α→Bool}{x:α}(h:p x=false):[x].filter p=[]:=by rw[List.filter_cons,h];rfl
theorem jss{α:Type}{p:α→Bool}{x:α}(h:p x=true):[x].filter p=[x]:=by rw[List.filter_cons,h];rfl
def jch(k:Int):Bool:=decide (k<0)||decide (100<k)
def ch(N:Int)(m:List Int):Bool:=decide ((m.length:Int)=N)&& !m.any jch
theorem d7{N:Int}{m:List Int}:ch N m=true↔(m.length:Int)=N∧∀i,i<m.length→0≤m.getD i 0∧m.getD i 0≤100:=by
 unfold ch;rw[Bool.and_eq_true,decide_eq_true_eq,Bool.not_eq_true',List.any_eq_false];constructor
 ·rintro⟨h1,h2⟩;refine⟨h1,fun i hi=> ?_⟩;have:=h2 _ (ba 0 hi);unfold jch at this;simp only[Bool.or_eq_true,decide_eq_true_eq,not_or]at this;omega
 ·rintro⟨h1,h2⟩;refine⟨h1,fun x hx=> ?_⟩;obtain⟨i,hi,rfl⟩:=rf 0 hx;have:=h2 i hi;unfold jch;simp only[Bool.or_eq_true,decide_eq_true_eq,not_or];omega
theorem wm{n:b8}(h:Small n)(m:List Int)(hm:m.length≤1000000):nk n m=some (dp n&&ch n.1 m):=by
 have hL:o9 m (m.length:Int) 0=some (jfh (fun i=>(i:Int)) (me jch m)):=by
  refine ya m 0 jch (fun i=>(i:Int)) (by omega) (fun i hi=> ?_) ?_
  ·unfold jch;simp(disch:=omega)only[ec,qfc,rs];rw[al];cases decide (m.getD i 0<0)<;>cases decide (100<m.getD i 0)<;>rfl
  ·simp(disch:=omega)only[ec,rs]
 have hC:d8 m=some (m.any jch):=by
  unfold d8 jf;rw[hL,bi,qnq,bi,qnp]
 unfold nk ch;rw[jha h,hC];cases dp n<;>cases decide ((m.length:Int)=n.1)<;>cases m.any jch<;>rfl
theorem qwq{n:b8}(hv:dp n=true){t:ah}(ht:t∈n.2.1):q52 n.1 t.2.1=true∧q52 n.1 t.2.2.1=true:=by
 unfold dp at hv;simp only[Bool.and_eq_true,Bool.not_eq_true']at hv;have:=List.any_eq_false.1 hv.1.1.2 t ht;unfold jo9 at this;simp only[Bool.or_eq_true,Bool.not_eq_true',not_or,Bool.not_eq_false]at this;exact⟨this.1.2,this.2⟩
def sc(c:Int)(l:List Int)(m:List Int):List Int:=l.foldl (fun m p=>m.set p.toNat (m.getD p.toNat 0+c)) m
theorem qkg(c:Int):∀(l:List Int) (m:List Int),(sc c l m).length=m.length
 |[],_=>rfl
 |p::l,m=>(qkg c l _).trans (List.length_set ..)
theorem qwx(c:Int):∀(l:List Int) (m:List Int),l.Pairwise (·<·)→(∀p∈l,0≤p∧p<m.length)→∀q:Nat,(sc c l m).getD q 0=m.getD q 0+(if(q:Int)∈l then c else 0)
 |[],m,_,_,q=>by simp[sc]
 |p::l,m,hs,hb,q=>by
  obtain⟨h1,h2⟩:=List.pairwise_cons.1 hs;have hp:=hb p List.mem_cons_self;have ih:=qwx c l (m.set p.toNat (m.getD p.toNat 0+c)) h2 (fun x hx=>by rw[List.length_set];exact hb x (List.mem_cons_of_mem _ hx)) q;show(sc c l (m.set p.toNat (m.getD p.toNat 0+c))).getD q 0=_;rw[ih];by_cases hq:(q:Int)=p
  ·have e:p.toNat=q:=by omega
   have hno:(q:Int)∉l:=fun hc=>by have:=h1 _ hc;omega
   rw[if_neg hno,if_pos (by rw[hq];exact List.mem_cons_self),e,List.getD_eq_getElem?_getD,List.getElem?_set_self (by omega)];simp
  ·have e:p.toNat≠q:=by omega
   have hiff:(q:Int)∈p::l↔(q:Int)∈l:=⟨fun hc=>(List.mem_cons.1 hc).resolve_left hq,List.mem_cons_of_mem _⟩;rw[List.getD_eq_getElem?_getD,List.getElem?_set_ne e,←List.getD_eq_getElem?_getD];by_cases hl:(q:Int)∈l
   ·rw[if_pos hl,if_pos (hiff.2 hl)]
   ·rw[if_neg hl,if_neg fun h=>hl (hiff.1 h)]
def ge(t:ah)(m:List Int):Bool:= !t.2.1.any fun p=>decide (m.getD p.toNat 0=0)
theorem q7z(t:ah)(m:List Int)(ht:t.2.1.length≤1000000)(hb:∀p∈t.2.1,0≤p∧p<m.length):vm t m=some (ge t m):=by
 have hL:pd t.2.1 m (t.2.1.length:Int) 0=some (jfh (fun i=>(i:Int)) (me (fun p=>decide (m.getD p.toNat 0=0)) t.2.1)):=by
  refine ya t.2.1 0 (fun p=>decide (m.getD p.toNat 0=0)) (fun i=>(i:Int)) (by omega) (fun i hi=> ?_) ?_
  ·have:=hb _ (ba 0 hi);simp(disch:=omega)only[ed,qfb,rs];rw[al];cases decide (m.getD (t.2.1.getD i 0).toNat 0=0)<;>rfl
  ·simp(disch:=omega)only[ed,rs]
 unfold vm gn jg ge;rw[hL,bi,qnq,bi,bi,qnp]
theorem jpu(s:ByteArray)(l o:List Int)(m:List Int)(hl:l.length≤1000000)(hs:l.Pairwise (·<·))(hb:∀p∈l,0≤p∧p<m.length)(hm:∀i,i<m.length→-1000≤m.getD i 0∧m.getD i 0≤1000):
  qzn l (l.length:Int) s l o (0,m)=some (.inl (sc (-1) l m)):=by
 have e:sc (-1) l m=sc (-1) (l.take l.length) m:=by rw[List.take_length]
 rw[e];refine ct (fun i:Nat=>((i:Int),sc (-1) (l.take i) m)) l.length (bw (by omega)) _ (fun i hi=> ?_) ?_ _ rfl
 ·have hp:=hb _ (ba 0 hi);have hlen:=qkg (-1) (l.take i) m;have hat:=qwx (-1) (l.take i) m (hs.sublist (List.take_sublist _ _)) (fun p hp=>hb p (List.mem_of_mem_take hp)) (l.getD i 0).toNat;have hmv:=hm (l.getD i 0).toNat (by omega);have hbd: -2000≤(sc (-1) (l.take i) m).getD (l.getD i 0).toNat 0∧(sc (-1) (l.take i) m).getD (l.getD i 0).toNat 0≤2000:=by
   rw[hat];split<;>omega
  have e3:sc (-1) (l.take (i+1)) m=(sc (-1) (l.take i) m).set (l.getD i 0).toNat ((sc (-1) (l.take i) m).getD (l.getD i 0).toNat 0-1):=by
   rw[ff l i 0 hi];unfold sc;rw[List.foldl_append];rfl
  rw[e3];simp(disch:=omega)only[qdo,rs];rw[al]
 ·simp(disch:=omega)only[qdo,rs]
theorem jpv(l:List Int)(m:List Int)(hl:l.length≤1000000)(hs:l.Pairwise (·<·))(hb:∀p∈l,0≤p∧p<m.length)(hm:∀i,i<m.length→-1000≤m.getD i 0∧m.getD i 0≤1000):
  qzo l (l.length:Int) (0,m)=some (.inl (sc 1 l m)):=by
 have e:sc 1 l m=sc 1 (l.take l.length) m:=by rw[List.take_length]
 rw[e];refine ct (fun i:Nat=>((i:Int),sc 1 (l.take i) m)) l.length (bw (by omega)) _ (fun i hi=> ?_) ?_ _ rfl
 ·have hp:=hb _ (ba 0 hi);have hlen:=qkg 1 (l.take i) m;have hat:=qwx 1 (l.take i) m (hs.sublist (List.take_sublist _ _)) (fun p hp=>hb p (List.mem_of_mem_take hp)) (l.getD i 0).toNat;have hmv:=hm (l.getD i 0).toNat (by omega);have hbd: -2000≤(sc 1 (l.take i) m).getD (l.getD i 0).toNat 0∧(sc 1 (l.take i) m).getD (l.getD i 0).toNat 0≤2000:=by
   rw[hat];split<;>omega
  have e3:sc 1 (l.take (i+1)) m=(sc 1 (l.take i) m).set (l.getD i 0).toNat ((sc 1 (l.take i) m).getD (l.getD i 0).toNat 0+1):=by
   rw[ff l i 0 hi];unfold sc;rw[List.foldl_append];rfl
  rw[e3];simp(disch:=omega)only[qdp,rs];rw[al]
 ·simp(disch:=omega)only[qdp,rs]
theorem jrh(x:List Int)(h0:0<x.length)(hl:x.length≤1000000):∃M,kl x=some M∧(∀i,i<x.length→x.getD i 0≤M)∧∃i,i<x.length∧x.getD i 0=M:=by
 have hloop:∃o,qep x (x.getD 0 0,1)=some o∧∃M,o= .inl M∧(∀i,i<x.length→x.getD i 0≤M)∧∃i,i<x.length∧x.getD i 0=M:=by
  refine qg3 (fun(st:Int×Int)=>∃k:Nat,st.2=(k:Int)∧k≤x.length∧1≤k∧(∀i,i<k→x.getD i 0≤st.1)∧∃i,i<x.length∧x.getD i 0=st.1) (fun st=>((x.length:Int)-st.2).toNat) (fun(o:Int⊕Int)=>∃M,o= .inl M∧(∀i,i<x.length→x.getD i 0≤M)∧∃i,i<x.length∧x.getD i 0=M) _
   ⟨1,rfl,h0,Nat.le_refl 1,(fun i hi=>by
    have:i=0:=by omega
    subst this;exact Int.le_refl _),0,h0,rfl⟩ (by show((x.length:Int)-1).toNat<many;unfold many;omega) ?_
  rintro⟨M,_⟩ ⟨k,rfl,hk,hk1,hle,j,hj,hjM⟩;have hle:∀i,i<k→x.getD i 0≤M:=hle;have hjM:x.getD j 0=M:=hjM;by_cases hlt:k<x.length
  ·refine⟨.next (max M (x.getD k 0),((k+1:Nat):Int)),?_,⟨k+1,rfl,by omega,by omega,fun i hi=> ?_,?_⟩,by show((x.length:Int)-((k+1:Nat):Int)).toNat<((x.length:Int)-(k:Int)).toNat;omega⟩
   ·simp(disch:=omega)only[ky,rs];rw[al]
   ·show x.getD i 0≤max M (x.getD k 0);by_cases hik:i=k
    ·subst hik;exact Int.le_max_right _ _
    ·exact Int.le_trans (hle i (by omega)) (Int.le_max_left _ _)
   ·show∃i,i<x.length∧x.getD i 0=max M (x.getD k 0);rcases Int.le_total M (x.getD k 0)with hc|hc
    ·exact⟨k,hlt,(Int.max_eq_right hc).symm⟩
    ·exact⟨j,hj,hjM.trans (Int.max_eq_left hc).symm⟩
  ·obtain rfl:k=x.length:=by omega
   exact⟨.done M,by simp(disch:=omega)only[ky,rs],M,rfl,hle,j,hj,hjM⟩
 obtain⟨_,ho,M,rfl,h1,h2⟩:=hloop;refine⟨M,?_,h1,h2⟩;have d:decide ((x.length:Int)<1)=false:=decide_eq_false (by omega);have d2:ix 0 x.length=true:=j2q h0;unfold kl;rw[d,d2,ho];rfl
def enN(n:b8)(m:List Int)(i:Nat):List Nat:=(List.range i).filter fun j=>ge (n.2.1.getD j ah.z) m
def enL(n:b8)(m:List Int):List Int:=(enN n m n.2.1.length).map fun(j:Nat)=>(j:Int)
theorem qmn{n:b8}(h:Small n)(m:List Int)(hm:m.length≤1000000):fc n m=some (bif dp n&&ch n.1 m then(0,enL n m)else(1,[])):=by
 unfold fc;rw[wm h m hm];cases hv:dp n with
 |false=>rfl
 |true=>
  cases hk:ch n.1 m with
  |false=>rfl
  |true=>
   have hlen:=h.trans;have hL:qo6 m n.2.1 (n.2.1.length:Int) (0,[])=some (.inl (enL n m)):=by
    unfold enL;refine ct (fun i:Nat=>((i:Int),(enN n m i).map fun(j:Nat)=>(j:Int))) n.2.1.length (bw (by omega)) _ (fun i hi=> ?_) ?_ _ rfl
    ·have ht:=ba ah.z hi;have hb:=(qhm.1 (qwq hv ht).1).1;have hml:=(d7.1 hk).1;have e1:=q7z (n.2.1.getD i ah.z) m (Nat.le_trans (h.ins _ ht) (by omega)) (fun p hp=>by have:=hb p hp;omega);have e2:enN n m (i+1)=bif ge (n.2.1.getD i ah.z) m then enN n m i++[i]else enN n m i:=by
      unfold enN;rw[List.range_succ,List.filter_append];cases hc:ge (n.2.1.getD i ah.z) m with
      |true=>rw[jss (p:=fun j=>ge (n.2.1.getD j ah.z) m) hc];rfl
      |false=>rw[jsr (p:=fun j=>ge (n.2.1.getD j ah.z) m) hc,List.append_nil];rfl
     have hle:((enN n m i).map fun(j:Nat)=>(j:Int)).length≤i:=by
      rw[List.length_map];have:=List.length_filter_le (fun j=>ge (n.2.1.getD j ah.z) m) (List.range i);rw[List.length_range]at this;exact this
     rw[e2];cases hc:ge (n.2.1.getD i ah.z) m with
     |true=>
      rw[hc]at e1;simp only[o5,Int.toNat_natCast,e1,bi];simp(disch:=omega)only[rs];rw[al,List.map_append];rfl
     |false=>
      rw[hc]at e1;simp only[o5,Int.toNat_natCast,e1,bi];simp(disch:=omega)only[rs];rw[al]
    ·simp(disch:=omega)only[o5,rs]
   simp only[Bool.and_self,bi,Bool.not_true,cond_false,hL,zk,cond_true]
def cj(T:ah)(m:List Int):List Int:=sc 1 T.2.2.1 (sc (-1) T.2.1 m)
def jh3(n:b8)(m:List Int)(t:Nat):Int×List Int:=
 bif ge (n.2.1.getD t ah.z) m then(bif (cj (n.2.1.getD t ah.z) m).any (fun k=>decide (100<k))then(5,[])else(0,cj (n.2.1.getD t ah.z) m))else(12,[])
structure FireF (n : b8) (m : List Int) (T : ah) : Prop where
 i1 : ∀ p ∈ T.2.1, 0 ≤ p ∧ p < m.length
 s1 : T.2.1.Pairwise (· < ·)
 i2 : ∀ p ∈ T.2.2.1, 0 ≤ p ∧ p < m.length
 s2 : T.2.2.1.Pairwise (· < ·)
 l1 : T.2.1.length ≤ 60
 l2 : T.2.2.1.length ≤ 60
 mb : ∀ i, i < m.length → 0 ≤ m.getD i 0 ∧ m.getD i 0 ≤ 100
 ml : (m.length : Int) = n.1
 N : 1 ≤ n.1 ∧ n.1 ≤ 40
theorem qrd{n:b8}(h:Small n)(hv:dp n=true){m:List Int}(hm:ch n.1 m=true){t:Nat}(ht:t<n.2.1.length):FireF n m (n.2.1.getD t ah.z):=by
 obtain⟨hml,hmb⟩:=d7.1 hm;have hN:1≤n.1∧n.1≤40:=by
  unfold dp at hv;simp only[Bool.and_eq_true,decide_eq_true_eq]at hv;exact hv.1.1.1.1
 have hmem:n.2.1.getD t ah.z∈n.2.1:=ba ah.z ht;obtain⟨hs1,hs2⟩:=qwq hv hmem;have hi:=h.ins _ hmem;have ho:=h.outs _ hmem;obtain⟨hb1,hp1⟩:=qhm.1 hs1;obtain⟨hb2,hp2⟩:=qhm.1 hs2;exact⟨fun p hp=>by have:=hb1 p hp;omega,hp1,fun p hp=>by have:=hb2 p hp;omega,hp2,hi,ho,hmb,hml,hN⟩
section
variable {n : b8} {m : List Int} {T : ah} (F : FireF n m T)
include F
theorem FireF.len1:(sc (-1) T.2.1 m).length=m.length:=qkg _ _ _
theorem FireF.len:(cj T m).length=m.length:=(qkg _ _ _).trans (qkg _ _ _)
theorem FireF.at1(q:Nat):(sc (-1) T.2.1 m).getD q 0=m.getD q 0+(if(q:Int)∈T.2.1 then-1 else 0):=qwx (-1) T.2.1 m F.s1 F.i1 q
theorem FireF.i2' :∀p∈T.2.2.1,0≤p∧p<(sc (-1) T.2.1 m).length:=fun p hp=>by have:=F.i2 p hp;have:=F.len1;omega
theorem FireF.at_(q:Nat):(cj T m).getD q 0=m.getD q 0+(if(q:Int)∈T.2.1 then-1 else 0)+(if(q:Int)∈T.2.2.1 then 1 else 0):=by
 have:=qwx 1 T.2.2.1 (sc (-1) T.2.1 m) F.s2 F.i2' q;unfold cj;rw[this,F.at1]
theorem FireF.can(hc:ge T m=true):∀p∈T.2.1,1≤m.getD p.toNat 0:=fun p hp=>by
 unfold ge at hc;rw[Bool.not_eq_true',List.any_eq_false]at hc;have hpb:=F.i1 p hp;have:=F.mb p.toNat (by omega);have:¬m.getD p.toNat 0=0:=by simpa using hc p hp
 omega
theorem FireF.nn(hc:ge T m=true)(i:Nat)(hi:i<m.length):0≤(cj T m).getD i 0∧(cj T m).getD i 0≤101:=by
 rw[F.at_];have h5:=F.mb i hi;by_cases hin:(i:Int)∈T.2.1
 ·have:=F.can hc _ hin;rw[Int.toNat_natCast]at this;rw[if_pos hin];split<;>omega
 ·rw[if_neg hin];split<;>omega
end
theorem jec{n:b8}(h:Small n)(hv:dp n=true){m:List Int}(hm:ch n.1 m=true){t:Nat}(ht:t<n.2.1.length):qcs n m (t:Int)=some (jh3 n m t):=by
 have F:=qrd h hv hm ht;have hN:=F.N;have hml:=F.ml;have hp:nk n m=some true:=by rw[wm h m (by omega),hv,hm];rfl
 unfold qcs qct jh3;rw[hp,Int.toNat_natCast];generalize n.2.1.getD t ah.z=T at F;have e1:=q7z T m (by have:=F.l1;omega) F.i1;cases hc:ge T m with
 |false=>
  rw[hc]at e1;simp(disch:=omega)only[e1,Bool.not_true,Bool.not_false,rs]
 |true=>
  rw[hc]at e1;have e2:=jpu T.1 T.2.1 T.2.2.1 m (by have:=F.l1;omega) F.s1 F.i1 (fun i hi=>by have:=F.mb i hi;omega);have hlen1:=F.len1;have e3:=jpv T.2.2.1 (sc (-1) T.2.1 m) (by have:=F.l2;omega) F.s2 F.i2' (fun i hi=>by
   have:=F.mb i (by omega);rw[F.at1 i];split<;>omega)
  have hlen:=F.len;have hlen' :(sc 1 T.2.2.1 (sc (-1) T.2.1 m)).length=m.length:=F.len;obtain⟨M,e4,hM1,i,hM2,hM3⟩:=jrh (sc 1 T.2.2.1 (sc (-1) T.2.1 m)) (by omega) (by omega);have e5:=lz m (by omega);by_cases hM:(100:Int)<M
  ·have ha:(cj T m).any (fun k=>decide (100<k))=true:=List.any_eq_true.2 ⟨_,ba 0 hM2,by have e:(cj T m).getD i 0=M:=hM3;rw[e];exact decide_eq_true hM⟩;rw[ha];simp(disch:=omega)only[e1,e5,e2,e3,e4,Bool.not_true,rs]
  ·have ha:(cj T m).any (fun k=>decide (100<k))=false:=List.any_eq_false.2 fun k hk=>by
    obtain⟨j,hj,rfl⟩:=rf 0 hk;have:=hM1 j hj;have hh:¬(100:Int)<(cj T m).getD j 0:=by show¬(100:Int)<(sc 1 T.2.2.1 (sc (-1) T.2.1 m)).getD j 0;omega
    simpa using hh
   rw[ha];simp(disch:=omega)only[e1,e5,e2,e3,e4,Bool.not_true,rs];rfl
theorem jaj{a b:ByteArray}(h:ym a b=true):a=b:=by
 have h1:(a.data==b.data)=true:=h;have h2:a.data=b.data:=beq_iff_eq.1 h1;cases a;cases b;congr
theorem qoe(a:ByteArray):ym a a=true:=by
 show(a.data==a.data)=true;exact beq_self_eq_true _
theorem qtm{a b:ByteArray}:ym a b=true↔a=b:=⟨jaj,fun h=>by rw[h];exact qoe b⟩
theorem qth{β:Type}(k k' :ByteArray)(x:β):∀(l:List (ByteArray×β)),dx .str k (qeb .str k' x l)=bif ym k k' then some x else dx .str k l
 |[]=>rfl
 |e::l=>by
  show dx .str k (bif ym k' e.1 then(k',x)::l else e::qeb .str k' x l)=bif ym k k' then some x else bif ym k e.1 then some e.2 else dx .str k l;cases h:ym k' e.1 with
  |true=>
   have he:k' =e.1:=qtm.1 h;show(bif ym k k' then some x else dx .str k l)=_;rw[←he];cases ym k k' <;>rfl
  |false=>
   show(bif ym k e.1 then some e.2 else dx .str k (qeb .str k' x l))=_;rw[qth k k' x l];cases h1:ym k e.1 with
   |false=>rfl
   |true=>
    cases h2:ym k k' with
    |false=>rfl
    |true=>
     have:ym k' e.1=true:=qtm.2 ((qtm.1 h2).symm.trans (qtm.1 h1));rw[this]at h;cases h
theorem s9{n:b8}(hv:dp n=true):1≤n.1∧n.1≤40∧0≤n.2.2.2.1∧n.2.2.2.1<n.1∧n.2.1.length≤60:=by
 unfold dp at hv;simp only[Bool.and_eq_true,decide_eq_true_eq]at hv;exact⟨hv.1.1.1.1.1,hv.1.1.1.1.2,hv.2.1,hv.2.2,hv.1.1.1.2⟩
theorem q1t{n:b8}{m:List Int}{T:ah}(F:FireF n m T)(hc:ge T m=true):ch n.1 (cj T m)= !(cj T m).any (fun k=>decide (100<k)):=by
 have hlen:=F.len;have hml:=F.ml;unfold ch;rw[decide_eq_true (by omega),Bool.true_and];refine congrArg (!·) ?_;rw[Bool.eq_iff_iff,List.any_eq_true,List.any_eq_true];constructor
 ·rintro⟨k,hk,hb⟩;refine⟨k,hk,?_⟩;obtain⟨j,hj,rfl⟩:=rf 0 hk;have:=F.nn hc j (by omega);unfold jch at hb;simp only[Bool.or_eq_true,decide_eq_true_eq]at hb;exact decide_eq_true (by omega)
 ·rintro⟨k,hk,hb⟩;exact⟨k,hk,by unfold jch;rw[hb,Bool.or_true]⟩
theorem q72{n:b8}{m:List Int}{t:Nat}(F:FireF n m (n.2.1.getD t ah.z))(hc:ge (n.2.1.getD t ah.z) m=true):jh3 n m t=bif ch n.1 (cj (n.2.1.getD t ah.z) m)then(0,cj (n.2.1.getD t ah.z) m)else(5,[]):=by
 unfold jh3;rw[hc,q1t F hc,cond_true];cases(cj (n.2.1.getD t ah.z) m).any (fun k=>decide (100<k))<;>rfl
theorem jox{k:Int}(h0:0≤k)(h1:k≤255):IntKind.wrap .u8 k=k:=by
 unfold IntKind.wrap;simp[IntKind.bits,IntKind.signed];omega
theorem j5o{k:Int}(h0:0≤k)(h1:k≤255):jw9 .i64 k 8=0:=by
 have e:(2:Int) ^ min (8:Int).toNat IntKind.i64.bits=256:=by decide
 unfold jw9;rw[e,Int.fdiv_eq_ediv_of_nonneg _ (by decide)];omega
def qt3(m:List Int):List Int:=m.flatMap fun k=>[k,0]
theorem jiq:∀m:List Int,(qt3 m).length=2*m.length
 |[]=>rfl
 |k::m=>by
  show([k,0]++qt3 m).length=_;rw[List.length_append,jiq m];simp only[List.length_cons,List.length_nil];omega
theorem jp4(m:List Int)(k:Int):qt3 (m++[k])=qt3 m++[k,0]:=by simp[qt3]
theorem jip:∀{a b:List Int},qt3 a=qt3 b→a=b
 |[],[],_=>rfl
 |[],_::_,h=>by cases h
 |_::_,[],h=>by cases h
 |x::a,y::b,h=>by
  have h:[x,0]++qt3 a=[y,0]++qt3 b:=h;simp only[List.cons_append,List.nil_append,List.cons.injEq,true_and]at h;rw[h.1,jip h.2]
theorem j2r{m:List Int}(hl:m.length≤1000000)(hb:∀i,i<m.length→0≤m.getD i 0∧m.getD i 0≤255):qc9 m=some (strOfNums (qt3 m)):=by
 have hL:q4n m (m.length:Int) (0,[])=some (.inl (qt3 m)):=by
  have e:qt3 m=qt3 (m.take m.length):=by rw[List.take_length]
  rw[e];refine ct (fun i:Nat=>((i:Int),qt3 (m.take i))) m.length (bw (by omega)) _ (fun i hi=> ?_) ?_ _ rfl
  ·have hlen:=jiq (m.take i);rw[List.length_take]at hlen;have:=hb i hi;have ew:=jox this.1 this.2;have es:=j5o this.1 this.2;have e0:=jox (Int.le_refl 0) (show(0:Int)≤255 by decide);rw[ff m i 0 hi,jp4];have e8:decide ((0:Int)≤8)=true:=rfl;simp(disch:=omega)only[qf7,ew,es,e0,e8,q7e,rs];rw[al]
  ·simp(disch:=omega)only[qf7,List.take_length,rs]
 unfold qc9;simp(disch:=omega)only[hL,rs]
theorem jt0{a b:List Int}(ha:∀x∈a,0≤x∧x≤255)(hb:∀x∈b,0≤x∧x≤255)(h:strOfNums a=strOfNums b):a=b:=by
 have h1:a.map (fun n=>UInt8.ofNat n.toNat)=b.map fun n=>UInt8.ofNat n.toNat:=by rw[←strOfNums_data,←strOfNums_data,h]
 clear h
 induction a generalizing b with
 |nil=>cases b with
  |nil=>rfl
  |cons y b=>cases h1
 |cons x a ih=>
  cases b with
  |nil=>cases h1
  |cons y b=>
   simp only[List.map_cons,List.cons.injEq]at h1;have hx:=ha x List.mem_cons_self;have hy:=hb y List.mem_cons_self;have e:=congrArg UInt8.toNat h1.1;rw[UInt8.toNat_ofNat',UInt8.toNat_ofNat']at e;rw[ih (fun z hz=>ha z (List.mem_cons_of_mem _ hz)) (fun z hz=>hb z (List.mem_cons_of_mem _ hz)) h1.2];have:x=y:=by omega
   rw[this]
theorem qv1{N:Int}{m:List Int}(h:ch N m=true):∀x∈m,0≤x∧x≤255:=fun x hx=>by
 obtain⟨i,hi,rfl⟩:=rf 0 hx;have:=(d7.1 h).2 i hi;omega
theorem q8q{m:List Int}(h:∀x∈m,0≤x∧x≤255):∀x∈qt3 m,0≤x∧x≤255:=fun x hx=>by
 obtain⟨k,hk,hx⟩:=List.mem_flatMap.1 hx;simp only[List.mem_cons,List.not_mem_nil,or_false]at hx;rcases hx with rfl|rfl
 ·exact h _ hk
 ·omega
def qyu(m:List Int):ByteArray:=strOfNums (qt3 m)
theorem jta{N:Int}{a b:List Int}(ha:ch N a=true)(hb:ch N b=true)(h:qyu a=qyu b):a=b:=
 jip (jt0 (q8q (qv1 ha)) (q8q (qv1 hb)) h)
theorem q6q{N:Int}{m:List Int}(hN:N≤1000)(h:ch N m=true):qc9 m=some (qyu m):=by
 have:=(d7.1 h).1;exact j2r (by omega) fun i hi=>qv1 h _ (ba 0 hi)
abbrev Sig:Type:=Bool×List (List Int)×List ar
abbrev dz(σ:Sig)(i:Nat):List Int:=σ.2.1.getD i []
abbrev li(n:b8)(t:Nat):ah:=n.2.1.getD t ah.z
def mvA(i k t:Nat):ar:=((i:Int),(k:Int),(t:Int),())
def jle(σ:Sig)(x:List Int):Option Nat:=me (fun y:List Int=>decide (y=x)) σ.2.1
def qev(n:b8)(M i:Nat)(σ:Sig)(t:Nat):Sig:=
 bif ge (li n t) (dz σ i)then
  bif ch n.1 (cj (li n t) (dz σ i))then
   match jle σ (cj (li n t) (dz σ i))with
   |some k=>(σ.1,σ.2.1,σ.2.2++[mvA i k t])
   |none=>if σ.2.1.length<M then(σ.1,σ.2.1++[cj (li n t) (dz σ i)],σ.2.2++[mvA i σ.2.1.length t])else(false,σ.2.1,σ.2.2)
  else(false,σ.2.1,σ.2.2)
 else σ
abbrev xc(n:b8)(M i:Nat)(l:List Nat)(σ:Sig):Sig:=l.foldl (qev n M i) σ
def qra(n:b8)(M:Nat):Nat→Nat→Sig→Sig
 |0,_,σ=>σ
 |f+1,i,σ=>if i<σ.2.1.length then qra n M f (i+1) (xc n M i (List.range n.2.1.length) σ)else σ
theorem yl(n:b8)(M i:Nat)(σ:Sig)(t:Nat):
  (ge (li n t) (dz σ i)=false∧qev n M i σ t=σ)∨
  (ge (li n t) (dz σ i)=true∧ch n.1 (cj (li n t) (dz σ i))=false∧qev n M i σ t=(false,σ.2.1,σ.2.2))∨
  (ge (li n t) (dz σ i)=true∧ch n.1 (cj (li n t) (dz σ i))=true∧∃k,jle σ (cj (li n t) (dz σ i))=some k∧qev n M i σ t=(σ.1,σ.2.1,σ.2.2++[mvA i k t]))∨
  (ge (li n t) (dz σ i)=true∧ch n.1 (cj (li n t) (dz σ i))=true∧jle σ (cj (li n t) (dz σ i))=none∧σ.2.1.length<M∧qev n M i σ t=(σ.1,σ.2.1++[cj (li n t) (dz σ i)],σ.2.2++[mvA i σ.2.1.length t]))∨
  (ge (li n t) (dz σ i)=true∧ch n.1 (cj (li n t) (dz σ i))=true∧jle σ (cj (li n t) (dz σ i))=none∧¬σ.2.1.length<M∧qev n M i σ t=(false,σ.2.1,σ.2.2)):=by
 unfold qev;cases h1:ge (li n t) (dz σ i)with
 |false=>exact .inl ⟨rfl,rfl⟩
 |true=>
  cases h2:ch n.1 (cj (li n t) (dz σ i))with
  |false=>exact .inr (.inl ⟨rfl,rfl,rfl⟩)
  |true=>
   cases h3:jle σ (cj (li n t) (dz σ i))with
   |some k=>exact .inr (.inr (.inl ⟨rfl,rfl,k,rfl,rfl⟩))
   |none=>
    by_cases h4:σ.2.1.length<M
    ·refine .inr (.inr (.inr (.inl ⟨rfl,rfl,rfl,h4,?_⟩)));simp only[cond_true,if_pos h4]
    ·refine .inr (.inr (.inr (.inr ⟨rfl,rfl,rfl,h4,?_⟩)));simp only[cond_true,if_neg h4]
theorem jsw{σ:Sig}{x:List Int}{k:Nat}(h:jle σ x=some k):k<σ.2.1.length∧dz σ k=x:=by
 obtain⟨h1,h2,_⟩:=qgc [] h;exact⟨h1,of_decide_eq_true h2⟩
theorem jsv{σ:Sig}{x:List Int}(h:jle σ x=none):x∉σ.2.1:=fun hx=>by
 have:=qtd h x hx;exact absurd rfl (of_decide_eq_false this)
theorem zg{α:Type}(l:List α)(x d:α)(i:Nat)(h:i<l.length):(l++[x]).getD i d=l.getD i d:=by
 rw[List.getD_eq_getElem?_getD,List.getD_eq_getElem?_getD,List.getElem?_append_left h]
theorem qk1{α:Type}(l:List α)(x d:α):(l++[x]).getD l.length d=x:=by
 rw[List.getD_eq_getElem?_getD,List.getElem?_append_right (Nat.le_refl _),Nat.sub_self];rfl
structure SpI (n : b8) (M : Nat) (σ : Sig) : Prop where
 mks : ∀ x ∈ σ.2.1, ch n.1 x = true
 nd : σ.2.1.Nodup
 len : σ.2.1.length ≤ M
 pos : 0 < σ.2.1.length
theorem SpI.flag{n:b8}{M:Nat}{σ:Sig}(h:SpI n M σ)(b:Bool)(mv:List ar):SpI n M (b,σ.2.1,mv):=⟨h.mks,h.nd,h.len,h.pos⟩
theorem SpI.push{n:b8}{M:Nat}{σ:Sig}(h:SpI n M σ)(b:Bool)(mv:List ar){x:List Int}(hx:ch n.1 x=true)(hn:x∉σ.2.1)(hl:σ.2.1.length<M):SpI n M (b,σ.2.1++[x],mv):=by
 refine⟨fun y hy=> ?_,?_,by simp;omega,by simp⟩
 ·rcases List.mem_append.1 hy with hy|hy
  ·exact h.mks y hy
  ·rw[List.mem_singleton.1 hy];exact hx
 ·exact List.nodup_append.2 ⟨h.nd,by simp,fun a ha b hb=>by rw[List.mem_singleton.1 hb];exact fun e=>hn (e▸ha)⟩
theorem SpI.step{n:b8}{M i:Nat}{σ:Sig}(h:SpI n M σ)(t:Nat):SpI n M (qev n M i σ t):=by
 rcases yl n M i σ t with⟨_,e⟩|⟨_,_,e⟩|⟨_,_,k,_,e⟩|⟨_,h2,h3,h4,e⟩|⟨_,_,_,_,e⟩<;>rw[e]
 ·exact h
 ·exact h.flag _ _
 ·exact h.flag _ _
 ·exact h.push _ _ h2 (jsv h3) h4
 ·exact h.flag _ _
theorem qz2{n:b8}{M i:Nat}{σ:Sig}{j:Nat}(hj:j<σ.2.1.length)(t:Nat):dz (qev n M i σ t) j=dz σ j∧σ.2.1.length≤(qev n M i σ t).2.1.length:=by
 rcases yl n M i σ t with⟨_,e⟩|⟨_,_,e⟩|⟨_,_,k,_,e⟩|⟨_,h2,h3,h4,e⟩|⟨_,_,_,_,e⟩<;>rw[e]
 ·exact⟨rfl,Nat.le_refl _⟩
 ·exact⟨rfl,Nat.le_refl _⟩
 ·exact⟨rfl,Nat.le_refl _⟩
 ·exact⟨zg _ _ _ _ hj,by simp⟩
 ·exact⟨rfl,Nat.le_refl _⟩
theorem jut(n:b8)(M i:Nat)(σ:Sig)(t:Nat):(qev n M i σ t).2.2.length≤σ.2.2.length+1:=by
 rcases yl n M i σ t with⟨_,e⟩|⟨_,_,e⟩|⟨_,_,k,_,e⟩|⟨_,h2,h3,h4,e⟩|⟨_,_,_,_,e⟩<;>rw[e]<;>simp
theorem qhk{n:b8}{M i:Nat}:∀(l:List Nat) {σ:Sig},SpI n M σ→SpI n M (xc n M i l σ)∧(∀j,j<σ.2.1.length→dz (xc n M i l σ) j=dz σ j)∧σ.2.1.length≤(xc n M i l σ).2.1.length∧(xc n M i l σ).2.2.length≤σ.2.2.length+l.length
 |[],σ,h=>⟨h,fun _ _=>rfl,Nat.le_refl _,Nat.le_refl _⟩
 |t::l,σ,h=>by
  obtain⟨h1,h2,h3,h4⟩:=qhk (n:=n) (M:=M) (i:=i) l (h.step (i:=i) t);have h5:=qz2 (n:=n) (M:=M) (i:=i) (σ:=σ) h.pos t;have h6:=jut n M i σ t;refine⟨h1,fun j hj=>(h2 j (by omega)).trans (qz2 hj t).1,Nat.le_trans h5.2 h3,?_⟩;have:(xc n M i (t::l) σ).2.2.length≤(qev n M i σ t).2.2.length+l.length:=h4;simp only[List.length_cons];omega
theorem qso{n:b8}{M i:Nat}(s:List Int):∀(l:List Nat) {σ:Sig},i<σ.2.1.length→dz σ i=s→xc n M i (l.filter fun t=>ge (li n t) s) σ=xc n M i l σ
 |[],σ,_,_=>rfl
 |t::l,σ,hi,hs=>by
  have h1:=qz2 (n:=n) (M:=M) (i:=i) hi t;cases hc:ge (li n t) s with
  |true=>
   rw[List.filter_cons_of_pos (by rw[hc])];exact qso s l (Nat.lt_of_lt_of_le hi h1.2) (h1.1.trans hs)
  |false=>
   rw[List.filter_cons_of_neg (by rw[hc];decide)];have:qev n M i σ t=σ:=by
    rcases yl n M i σ t with⟨_,e⟩|⟨h,_⟩|⟨h,_⟩|⟨h,_⟩|⟨h,_⟩
    ·exact e
    all_goals rw[hs,hc]at h;cases h
   show _=xc n M i l (qev n M i σ t);rw[this];exact qso s l hi hs
def jji(k:ByteArray)(x:Int)(a:List (ByteArray×Int)):List (ByteArray×Int):=qeb .str k x a
def jel(st:List (List Int)):List (ByteArray×Int):=(List.range st.length).foldl (fun a i=>jji (qyu (st.getD i [])) (i:Int) a) []
theorem q94{α:Type}{P:List α→Prop}(h0:P [])(h1:∀l x,P l→P (l++[x]))(l:List α):P l:=by
 have h:∀l:List α,P l.reverse:=fun l=>by
  induction l with
  |nil=>exact h0
  |cons x l ih=>rw[List.reverse_cons];exact h1 _ _ ih
 rw[←List.reverse_reverse l];exact h _
theorem qni{α β:Type}{f g:β→α→β}:∀(l:List α) (b:β),(∀b a,a∈l→f b a=g b a)→l.foldl f b=l.foldl g b
 |[],_,_=>rfl
 |a::l,b,h=>by
  rw[List.foldl_cons,List.foldl_cons,h b a List.mem_cons_self];exact qni l _ fun b a ha=>h b a (List.mem_cons_of_mem _ ha)
theorem jcr(st:List (List Int))(x:List Int):jel (st++[x])=jji (qyu x) (st.length:Int) (jel st):=by
 unfold jel;rw[List.length_append,List.length_cons,List.length_nil,List.range_succ,List.foldl_append,List.foldl_cons,List.foldl_nil,qk1];exact congrArg _ (qni _ _ fun b a ha=>by rw[zg _ _ _ _ (List.mem_range.1 ha)])
theorem q05{α:Type}(q:α→Bool):∀(l:List α) (x:α),me q (l++[x])=match me q l with|some i=>some i|none=>bif q x then some l.length else none
 |[],x=>by
  show(bif q x then some 0 else _)=_;cases q x<;>rfl
 |y::l,x=>by
  show(bif q y then some 0 else(me q (l++[x])).map (·+1))=match(bif q y then some 0 else(me q l).map (·+1))with|some i=>some i|none=>_
  rw[q05 q l x];cases q y with
  |true=>rfl
  |false=>
   cases me q l with
   |some i=>rfl
   |none=>cases q x<;>rfl
theorem q0p{N:Int}(x:List Int)(hx:ch N x=true):∀st:List (List Int),(∀y∈st,ch N y=true)→st.Nodup→dx .str (qyu x) (jel st)=Option.map (fun i:Nat=>(i:Int)) (me (fun y:List Int=>decide (y=x)) st):=by
 intro st;refine q94 (P:=fun st:List (List Int)=>(∀y∈st,ch N y=true)→st.Nodup→dx .str (qyu x) (jel st)=Option.map (fun i:Nat=>(i:Int)) (me (fun y:List Int=>decide (y=x)) st)) (fun _ _=>rfl) (fun st y ih=> ?_) st
 ·intro hm hn;rw[jcr,q05];unfold jji;rw[qth];have hn' :=List.nodup_append.1 hn;have ih:=ih (fun z hz=>hm z (List.mem_append_left _ hz)) hn'.1;by_cases e:y=x
  ·subst e;have h0:me (fun z:List Int=>decide (z=y)) st=none:=by
    cases hf:me (fun z:List Int=>decide (z=y)) st with
    |none=>rfl
    |some i=>
     obtain⟨h1,h2,_⟩:=qgc [] hf;exact absurd (of_decide_eq_true h2) (hn'.2.2 _ (ba [] h1) _ (List.mem_singleton.2 rfl))
   rw[h0,qoe];simp
  ·have h1:ym (qyu x) (qyu y)=false:=by
    cases hs:ym (qyu x) (qyu y)with
    |false=>rfl
    |true=>exact absurd (jta hx (hm y (List.mem_append_right _ (List.mem_singleton.2 rfl))) (jaj hs)).symm e
   rw[h1,ih];simp only[cond_false,decide_eq_false e];cases me (fun z:List Int=>decide (z=x)) st<;>rfl
theorem q1m{α β:Type}(f:α→β)(l:List α)(i:Nat)(d:α)(d' :β)(h:i<l.length):(l.map f).getD i d' =f (l.getD i d):=by
 rw[List.getD_eq_getElem?_getD,List.getElem?_map,List.getD_eq_getElem?_getD,List.getElem?_eq_getElem h];rfl
theorem jm8{n:b8}{m:List Int}{i t:Nat}:t∈enN n m i↔t<i∧ge (n.2.1.getD t ah.z) m=true:=by
 unfold enN;rw[List.mem_filter,List.mem_range]
theorem jv7{n:b8}(h:Small n)(hv:dp n=true){M:Nat}(hM:M≤100){σ:Sig}(hs:SpI n M σ){i:Nat}(hi:i<σ.2.1.length)(hmv:σ.2.2.length≤10000):
  qpk (M:Int) (i:Int) (enL n (dz σ i)) ((enL n (dz σ i)).length:Int) n.1 n.2.1 n.2.2.1 n.2.2.2.1 [] [] false (0,σ.1,jel σ.2.1,σ.2.1,σ.2.2)=
   some (.inl ((xc n M i (List.range n.2.1.length) σ).1,jel (xc n M i (List.range n.2.1.length) σ).2.1,(xc n M i (List.range n.2.1.length) σ).2.1,(xc n M i (List.range n.2.1.length) σ).2.2)):=by
 have hT:=h.trans;have hN:=s9 hv;rw[←qso (dz σ i) (List.range n.2.1.length) hi rfl];have hen:(List.range n.2.1.length).filter (fun t=>ge (li n t) (dz σ i))=enN n (dz σ i) n.2.1.length:=rfl;rw[hen];have hlen:(enL n (dz σ i)).length=(enN n (dz σ i) n.2.1.length).length:=by unfold enL;rw[List.length_map]
 have hle:(enN n (dz σ i) n.2.1.length).length≤n.2.1.length:=by
  unfold enN;exact Nat.le_trans (List.length_filter_le _ _) (by simp)
 have hg:∀k,k<(enN n (dz σ i) n.2.1.length).length→(enL n (dz σ i)).getD k 0=(((enN n (dz σ i) n.2.1.length).getD k 0:Nat):Int):=fun k hk=>q1m _ _ _ 0 _ hk
 have hmem:∀k,k<(enN n (dz σ i) n.2.1.length).length→(enN n (dz σ i) n.2.1.length).getD k 0<n.2.1.length∧ge (li n ((enN n (dz σ i) n.2.1.length).getD k 0)) (dz σ i)=true:=fun k hk=>jm8.1 (ba 0 hk)
 clear hen;generalize enL n (dz σ i)=L at hlen hg;generalize enN n (dz σ i) n.2.1.length=l at hlen hle hg hmem;have eT:xc n M i l σ=xc n M i (l.take l.length) σ:=by rw[List.take_length]
 rw[eT];refine ct (fun k:Nat=>((k:Int),(xc n M i (l.take k) σ).1,jel (xc n M i (l.take k) σ).2.1,(xc n M i (l.take k) σ).2.1,(xc n M i (l.take k) σ).2.2)) l.length (bw (by omega)) _ (fun k hk=> ?_) ?_ _ (by rfl)
 ·obtain⟨f1,f2,f3,f4⟩:=qhk (n:=n) (M:=M) (i:=i) (l.take k) hs;have e1:xc n M i (l.take (k+1)) σ=qev n M i (xc n M i (l.take k) σ) (l.getD k 0):=by
   rw[ff _ k 0 hk];unfold xc;rw[List.foldl_append];rfl
  have hst:=f2 i hi;obtain⟨ht,hc⟩:=hmem k hk;have hg:=hg k hk;have hkL:k<L.length:=by rw[hlen];exact hk
  have hml:(l.take k).length≤100:=by rw[List.length_take];omega
  generalize xc n M i (l.take k) σ=τ at f1 f2 f3 f4 e1 hst;rw[e1];generalize l.getD k 0=t at ht hc hg e1;have hmS:ch n.1 (dz τ i)=true:=f1.mks _ (ba [] (by omega));rw[←hst]at hc;have F:=qrd h hv hmS ht;have hF:=jec h hv hmS ht;rw[q72 F hc]at hF;have en:((n.1,n.2.1,n.2.2.1,n.2.2.2.1,()):b8)=n:=rfl;have hil:i<τ.2.1.length:=by omega
  have hlenM:=f1.len;rcases yl n M i τ t with⟨g1,e⟩|⟨g1,g2,e⟩|⟨g1,g2,q,g3,e⟩|⟨g1,g2,g3,g4,e⟩|⟨g1,g2,g3,g4,e⟩
  ·rw[show ge (li n t) (dz τ i)=true from hc]at g1;cases g1
  ·rw[e];rw[show ch n.1 (cj (n.2.1.getD t ah.z) (dz τ i))=false from g2,cond_false]at hF;simp(disch:=omega)only[ii,hg,en,hF,rs];rfl
  ·rw[e];rw[show ch n.1 (cj (n.2.1.getD t ah.z) (dz τ i))=true from g2,cond_true]at hF;have hky:=q6q (N:=n.1) (by omega) g2;have hat:=q0p (N:=n.1) _ g2 τ.2.1 f1.mks f1.nd;rw[show me (fun y:List Int=>decide (y=cj (n.2.1.getD t ah.z) (dz τ i))) τ.2.1=some q from g3]at hat;have hml' :(τ.2.2++[((i:Int),(q:Int),(t:Int),())]).length=τ.2.2.length+1:=by simp
   simp(disch:=omega)only[ii,hg,en,hF,hky,hat,Option.map_some,Option.isSome_some,Option.getD_some,Bool.not_true,hml',rs];rfl
  ·rw[e];rw[show ch n.1 (cj (n.2.1.getD t ah.z) (dz τ i))=true from g2,cond_true]at hF;have hky:=q6q (N:=n.1) (by omega) g2;have hat:=q0p (N:=n.1) _ g2 τ.2.1 f1.mks f1.nd;rw[show me (fun y:List Int=>decide (y=cj (n.2.1.getD t ah.z) (dz τ i))) τ.2.1=none from g3]at hat;have hml' :(τ.2.2++[((i:Int),(τ.2.1.length:Int),(t:Int),())]).length=τ.2.2.length+1:=by simp
   simp only[jcr];simp(disch:=omega)only[ii,hg,en,hF,hky,hat,Option.map_none,Option.isSome_none,Bool.not_false,hml',rs];rfl
  ·rw[e];rw[show ch n.1 (cj (n.2.1.getD t ah.z) (dz τ i))=true from g2,cond_true]at hF;have hky:=q6q (N:=n.1) (by omega) g2;have hat:=q0p (N:=n.1) _ g2 τ.2.1 f1.mks f1.nd;rw[show me (fun y:List Int=>decide (y=cj (n.2.1.getD t ah.z) (dz τ i))) τ.2.1=none from g3]at hat;simp(disch:=omega)only[ii,hg,en,hF,hky,hat,Option.map_none,Option.isSome_none,Bool.not_false,rs];rfl
 ·rw[←hlen];simp(disch:=omega)only[ii,rs]
theorem jni{S E R:Type}{step:S→Option (LR S E R)}{o:E⊕R}{n:Nat}{s:S}(h:qvx step n s=some o)(hn:n<many):bt step s=some o:=jc9 h (by omega)
theorem j3e{n:b8}{M i:Nat}{σ:Sig}(h:Small n)(hs:SpI n M σ)(hm:σ.2.2.length≤100*i):(xc n M i (List.range n.2.1.length) σ).2.2.length≤100*(i+1):=by
 have:=(qhk (n:=n) (M:=M) (i:=i) (List.range n.2.1.length) hs).2.2.2;have hT:=h.trans;rw[List.length_range]at this;omega
theorem jv8{n:b8}(h:Small n)(hv:dp n=true){M:Nat}(hM:M≤100):∀(f i:Nat) {σ:Sig},SpI n M σ→M<f+i→σ.2.2.length≤100*i→
  qvx (fun a=>j6 (M:Int) n.1 n.2.1 n.2.2.1 n.2.2.2.1 [] [] false a.1 a.2.1 a.2.2.1 a.2.2.2.1 a.2.2.2.2 (fun a' =>some (.next a')) (fun e=>some (.done e)) (fun r=>some (.ret r))) (f+1) ((i:Int),σ.1,jel σ.2.1,σ.2.1,σ.2.2)=
   some (.inl ((qra n M f i σ).1,(qra n M f i σ).2.1,(qra n M f i σ).2.2)):=by
 intro f
 induction f with
 |zero=>
  intro i σ hs hf hm;have:=hs.len;rw[ry];simp(disch:=omega)only[j6,rs];rfl
 |succ f ih=>
  intro i σ hs hf hm;have hlen:=hs.len;rw[ry];by_cases hi:i<σ.2.1.length
  ·have e0:qra n M (f+1) i σ=qra n M f (i+1) (xc n M i (List.range n.2.1.length) σ):=by
    show(if i<σ.2.1.length then _ else _)=_;rw[if_pos hi]
   have hN:=s9 hv;have hmS:ch n.1 (dz σ i)=true:=hs.mks _ (ba [] hi);have hml:=(d7.1 hmS).1;have hE:=qmn h (dz σ i) (by omega);rw[hv,hmS]at hE;have hL:=jv7 h hv hM hs hi (by omega);have en:((n.1,n.2.1,n.2.2.1,n.2.2.2.1,()):b8)=n:=rfl;have ihh:=ih (i+1) (qhk (n:=n) (M:=M) (i:=i) (List.range n.2.1.length) hs).1 (by omega) (j3e h hs hm);rw[e0,←ihh];simp(disch:=omega)only[j6,en,hE,Bool.and_self,hL,al,rs];rfl
  ·have e0:qra n M (f+1) i σ=σ:=by
    show(if i<σ.2.1.length then _ else _)=_;rw[if_neg hi]
   rw[e0];simp(disch:=omega)only[j6,rs];rfl
def j3i(m:List Int):Sig:=(true,[m],[])
theorem joa{n:b8}{M:Nat}{m:List Int}(hm:ch n.1 m=true)(hM:1≤M):SpI n M (j3i m):=by
 refine⟨fun x hx=> ?_,List.pairwise_singleton _ _,by show 1≤M;exact hM,Nat.one_pos⟩;rw[List.mem_singleton.1 hx];exact hm
def spc(n:b8)(M:Nat)(m:List Int):Sig:=qra n M (M+1) 0 (j3i m)
theorem jkh{n:b8}(h:Small n)(m:List Int)(hl:m.length≤1000000)(most:Int)(hmost:¬(100<most∧most≤2000)):qds n m most=
  some (bif dp n&&ch n.1 m then(if most<1∨2000<most then(([],[],false,()),2)else(((spc n most.toNat m).2.1,(spc n most.toNat m).2.2,(spc n most.toNat m).1,()),0))else(([],[],false,()),1)):=by
 have hE:=qmn h m hl;unfold qds;cases hvm:(dp n&&ch n.1 m)with
 |false=>
  rw[hvm]at hE;simp(disch:=omega)only[hE,rs]
 |true=>
  rw[hvm]at hE;have hv:=(Bool.and_eq_true _ _▸hvm).1;have hmk:=(Bool.and_eq_true _ _▸hvm).2;by_cases h1:most<1
  ·rw[if_pos (.inl h1)];simp(disch:=omega)only[hE,rs]
  ·by_cases h2:2000<most
   ·rw[if_pos (.inr h2)];simp(disch:=omega)only[hE,rs]
   ·rw[if_neg (by omega)];obtain⟨M,rfl⟩:∃M:Nat,most=(M:Int):=⟨most.toNat,by omega⟩;have hN:=s9 hv;have hk:=q6q (N:=n.1) (by omega) hmk;have hC:=lz m hl;have hL:=jv8 h hv (M:=M) (by omega) (M+1) 0 (joa hmk (by omega)) (by omega) (Nat.zero_le _);have hL2:qpl (M:Int) n.1 n.2.1 n.2.2.1 n.2.2.2.1 [] [] false (0,true,jji (qyu m) 0 [],[m],[])=some (.inl ((spc n M m).1,(spc n M m).2.1,(spc n M m).2.2)):=jni hL (bw (by omega));have ep:qeb .str (qyu m) (0:Int) ([]:List (ByteArray×Int))=jji (qyu m) 0 []:=rfl;simp(disch:=omega)only[hE,hk,hC,ep,hL2,rs]
def jws(a b:ar):Prop:=a.1<b.1∨a.1=b.1∧a.2.2.1<b.2.2.1
structure GI (n : b8) (M : Nat) (m : List Int) (i d : Nat) (σ : Sig) : Prop where
 sp : SpI n M σ
 mv : ∀ x ∈ σ.2.2, ∃ a b t, x = mvA a b t ∧ (a < i ∨ a = i ∧ t < d) ∧ a < σ.2.1.length ∧ b < σ.2.1.length ∧ t < n.2.1.length ∧ ge (li n t) (dz σ a) = true ∧ cj (li n t) (dz σ a) = dz σ b
 srt : σ.2.2.Pairwise jws
 full : σ.1 = true → ∀ a t, (a < i ∨ a = i ∧ t < d) → a < σ.2.1.length → t < n.2.1.length → ge (li n t) (dz σ a) = true → ∃ b, mvA a b t ∈ σ.2.2
 rch : ∀ j, 0 < j → j < σ.2.1.length → ∃ a t, a < j ∧ mvA a j t ∈ σ.2.2
 fst : dz σ 0 = m
 ml : σ.2.2.length ≤ i * n.2.1.length + d
theorem GI.ex{n:b8}{M:Nat}{m:List Int}{i d:Nat}{σ:Sig}(h:GI n M m i d σ){st:List (List Int)}{b0:Nat}(hi:i<σ.2.1.length)(ht:d<n.2.1.length)(hst:∀j,j<σ.2.1.length→st.getD j []=dz σ j)(hlen:σ.2.1.length≤st.length)(hb:b0<st.length)(hc:ge (li n d) (dz σ i)=true)(hf:cj (li n d) (dz σ i)=st.getD b0 []):
  (∀x∈σ.2.2++[mvA i b0 d],∃a b t,x=mvA a b t∧(a<i∨a=i∧t<d+1)∧a<st.length∧b<st.length∧t<n.2.1.length∧ge (li n t) (st.getD a [])=true∧cj (li n t) (st.getD a [])=st.getD b [])∧(σ.2.2++[mvA i b0 d]).Pairwise jws:=by
 refine⟨fun x hx=> ?_,List.pairwise_append.2 ⟨h.srt,List.pairwise_singleton _ _,fun x hx y hy=> ?_⟩⟩
 ·rcases List.mem_append.1 hx with hx|hx
  ·obtain⟨a,b,t,e,h1,h2,h3,h4,h5,h6⟩:=h.mv x hx;exact⟨a,b,t,e,by omega,by omega,by omega,h4,by rw[hst a h2];exact h5,by rw[hst a h2,hst b h3];exact h6⟩
  ·rw[List.mem_singleton.1 hx];exact⟨i,b0,d,rfl,by omega,by omega,hb,ht,by rw[hst i hi];exact hc,by rw[hst i hi];exact hf⟩
 ·obtain⟨a,b,t,rfl,h1,_⟩:=h.mv x hx;rw[List.mem_singleton.1 hy];unfold jws mvA;simp only[];omega
theorem GI.step{n:b8}{M:Nat}{m:List Int}{i d:Nat}{σ:Sig}(h:GI n M m i d σ)(hi:i<σ.2.1.length)(ht:d<n.2.1.length):GI n M m i (d+1) (qev n M i σ d):=by
 have hsp:=h.sp.step (i:=i) d;rcases yl n M i σ d with⟨g1,e⟩|⟨g1,g2,e⟩|⟨g1,g2,q,g3,e⟩|⟨g1,g2,g3,g4,e⟩|⟨g1,g2,g3,g4,e⟩<;>rw[e]at hsp⊢
 ·refine⟨hsp,fun x hx=> ?_,h.srt,fun hf a t hat ha ht' hc=> ?_,h.rch,h.fst,by have:=h.ml;omega⟩
  ·obtain⟨a,b,t,e,h1,h2⟩:=h.mv x hx;exact⟨a,b,t,e,by omega,h2⟩
  ·by_cases hd:a=i∧t=d
   ·obtain⟨rfl,rfl⟩:=hd;rw[g1]at hc;cases hc
   ·exact h.full hf a t (by omega) ha ht' hc
 ·refine⟨hsp,fun x hx=> ?_,h.srt,(fun hf=>by cases hf),h.rch,h.fst,by have:=h.ml;show σ.2.2.length≤_;omega⟩;obtain⟨a,b,t,e,h1,h2⟩:=h.mv x hx;exact⟨a,b,t,e,by omega,h2⟩
 ·obtain⟨q1,q2⟩:=jsw g3;obtain⟨m1,m2⟩:=h.ex (st:=σ.2.1) (b0:=q) hi ht (fun _ _=>rfl) (Nat.le_refl _) q1 g1 q2.symm;refine⟨hsp,m1,m2,fun hf a t hat ha ht' hc=> ?_,fun j h0 hj=> ?_,h.fst,by have:=h.ml;simp only[List.length_append,List.length_cons,List.length_nil];omega⟩
  ·by_cases hd:a=i∧t=d
   ·obtain⟨rfl,rfl⟩:=hd;exact⟨q,List.mem_append_right _ (List.mem_singleton.2 rfl)⟩
   ·obtain⟨b,hb⟩:=h.full hf a t (by omega) ha ht' hc;exact⟨b,List.mem_append_left _ hb⟩
  ·obtain⟨a,t,h1,h2⟩:=h.rch j h0 hj;exact⟨a,t,h1,List.mem_append_left _ h2⟩
 ·have hst:∀j,j<σ.2.1.length→(σ.2.1++[cj (li n d) (dz σ i)]).getD j []=dz σ j:=fun j hj=>zg _ _ _ _ hj
  obtain⟨m1,m2⟩:=h.ex (st:=σ.2.1++[cj (li n d) (dz σ i)]) (b0:=σ.2.1.length) hi ht hst (by simp) (by simp) g1 (qk1 _ _ _).symm;refine⟨hsp,m1,m2,fun hf a t hat ha ht' hc=> ?_,fun j h0 hj=> ?_,(hst 0 h.sp.pos).trans h.fst,by have:=h.ml;simp only[List.length_append,List.length_cons,List.length_nil];omega⟩
  ·by_cases hd:a=i∧t=d
   ·obtain⟨rfl,rfl⟩:=hd;exact⟨_,List.mem_append_right _ (List.mem_singleton.2 rfl)⟩
   ·have ha' :a<σ.2.1.length:=by omega
    have hc' :ge (li n t) (dz σ a)=true:=by rw[←hst a ha'];exact hc
    obtain⟨b,hb⟩:=h.full hf a t (by omega) ha' ht' hc';exact⟨b,List.mem_append_left _ hb⟩
  ·by_cases hjl:j<σ.2.1.length
   ·obtain⟨a,t,h1,h2⟩:=h.rch j h0 hjl;exact⟨a,t,h1,List.mem_append_left _ h2⟩
   ·have:j=σ.2.1.length:=by simp only[List.length_append,List.length_cons,List.length_nil]at hj;omega
    subst this;exact⟨i,d,hi,List.mem_append_right _ (List.mem_singleton.2 rfl)⟩
 ·refine⟨hsp,fun x hx=> ?_,h.srt,(fun hf=>by cases hf),h.rch,h.fst,by have:=h.ml;show σ.2.2.length≤_;omega⟩;obtain⟨a,b,t,e,h1,h2⟩:=h.mv x hx;exact⟨a,b,t,e,by omega,h2⟩
theorem GI.row{n:b8}{M:Nat}{m:List Int}{i:Nat}{σ:Sig}(h:GI n M m i 0 σ)(hi:i<σ.2.1.length):GI n M m (i+1) 0 (xc n M i (List.range n.2.1.length) σ):=by
 have key:∀d,d≤n.2.1.length→GI n M m i d (xc n M i (List.range d) σ)∧i<(xc n M i (List.range d) σ).2.1.length:=fun d=>by
  induction d with
  |zero=>intro _;exact⟨h,hi⟩
  |succ d ih=>
   intro hd;obtain⟨h1,h2⟩:=ih (by omega);have e1:xc n M i (List.range (d+1)) σ=qev n M i (xc n M i (List.range d) σ) d:=by
    rw[List.range_succ];unfold xc;rw[List.foldl_append];rfl
   rw[e1];exact⟨h1.step h2 (by omega),Nat.lt_of_lt_of_le h2 (qz2 h2 d).2⟩
 obtain⟨h1,_⟩:=key n.2.1.length (Nat.le_refl _);refine⟨h1.sp,fun x hx=> ?_,h1.srt,fun hf a t hat ha ht hc=>h1.full hf a t (by omega) ha ht hc,h1.rch,h1.fst,by have:=h1.ml;rw[Nat.add_mul];omega⟩;obtain⟨a,b,t,e,g1,g2⟩:=h1.mv x hx;exact⟨a,b,t,e,by omega,g2⟩
theorem GI.expl{n:b8}{M:Nat}{m:List Int}:∀(f i:Nat) {σ:Sig},GI n M m i 0 σ→i≤σ.2.1.length→M<f+i→∃k,GI n M m k 0 (qra n M f i σ)∧k=(qra n M f i σ).2.1.length
 |0,i,σ,h,hi,hf=>⟨i,h,by have:=h.sp.len;show i=σ.2.1.length;omega⟩
 |f+1,i,σ,h,hi,hf=>by
  unfold qra;by_cases hlt:i<σ.2.1.length
  ·rw[if_pos hlt];have:=(qhk (n:=n) (M:=M) (i:=i) (List.range n.2.1.length) h.sp).2.2.1;exact GI.expl f (i+1) (h.row hlt) (by omega) (by omega)
  ·rw[if_neg hlt];exact⟨i,h,by omega⟩
structure SpcOK (n : b8) (M : Nat) (m : List Int) (σ : Sig) : Prop where
 sp : SpI n M σ
 mv : ∀ x ∈ σ.2.2, ∃ a b t, x = mvA a b t ∧ a < σ.2.1.length ∧ b < σ.2.1.length ∧ t < n.2.1.length ∧ ge (li n t) (dz σ a) = true ∧ cj (li n t) (dz σ a) = dz σ b
 srt : σ.2.2.Pairwise jws
 full : σ.1 = true → ∀ a t, a < σ.2.1.length → t < n.2.1.length → ge (li n t) (dz σ a) = true → ∃ b, mvA a b t ∈ σ.2.2
 rch : ∀ j, 0 < j → j < σ.2.1.length → ∃ a t, a < j ∧ mvA a j t ∈ σ.2.2
 fst : dz σ 0 = m
 ml : σ.2.2.length ≤ M * n.2.1.length
theorem j3j{n:b8}{M:Nat}{m:List Int}(hm:ch n.1 m=true)(hM:1≤M):SpcOK n M m (spc n M m):=by
 have h0:GI n M m 0 0 (j3i m):=by
  refine⟨joa hm hM,(fun x hx=>by cases hx),List.Pairwise.nil,fun _ a t hat=>by omega,fun j h0 hj=> ?_,rfl,Nat.zero_le _⟩;have:j<1:=hj;omega
 obtain⟨k,h1,hk⟩:=GI.expl (M+1) 0 h0 (Nat.zero_le _) (by omega);have hlen:=h1.sp.len;refine⟨h1.sp,fun x hx=> ?_,h1.srt,fun hf a t ha ht hc=>h1.full hf a t (by show a<k∨_;rw[hk];exact .inl ha) ha ht hc,h1.rch,h1.fst,Nat.le_trans h1.ml (Nat.mul_le_mul_right _ (by rw[hk];exact hlen))⟩;obtain⟨a,b,t,e,_,g2⟩:=h1.mv x hx;exact⟨a,b,t,e,g2⟩
end Go.Proofs.YtemahcdcacmgdaaGreatDoor
