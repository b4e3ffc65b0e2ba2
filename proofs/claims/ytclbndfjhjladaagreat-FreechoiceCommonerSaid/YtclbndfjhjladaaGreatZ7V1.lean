/-
  Sorting rows of numbers: the order, arrays and lists, insertion and heap.
-/
import Derived.Sort.AssemblyPlain
import Derived.Test.YtclbndfjhjladaaGreatZ7Md
import Derived.Test.YtclbndfjhjladaaGreatZ7KE
set_option linter.all false
namespace Go.Proofs.YtclbndfjhjladaaGreat
open Go.K Go.M
abbrev Rw:Type:=List (List Int)
def em:List Int→List Int→Bool
 |_,[]=>false
 |[],_::_=>true
 |a::l,b::m=>if a=b then em l m else decide (a<b)
theorem jyz:∀a,em a a=false
 |[]=>rfl
 |a::l=>by rw[em,if_pos rfl,jyz l]
theorem jfu:∀a b c,em a b=true→em b c=true→em a c=true
 |x,[],_,h,_=>by cases x<;>simp[em]at h
 |[],_::_,[],_,h=>by cases h
 |[],_::_,_::_,_,_=>rfl
 |_::_,_::_,[],_,h=>by cases h
 |a::x,b::y,c::z,h1,h2=>by
  rw[em]at h1 h2⊢;by_cases e1:a=b
  ·subst e1;rw[if_pos rfl]at h1;by_cases e2:a=c
   ·rw[if_pos e2]at h2⊢;exact jfu x y z h1 h2
   ·rw[if_neg e2]at h2⊢;exact h2
  ·rw[if_neg e1,decide_eq_true_eq]at h1;by_cases e2:b=c
   ·subst e2;rw[if_neg e1];exact decide_eq_true h1
   ·rw[if_neg e2,decide_eq_true_eq]at h2;rw[if_neg (by omega)];exact decide_eq_true (by omega)
theorem jsd:∀a b,em a b=false→em b a=false→a=b
 |[],[],_,_=>rfl
 |[],_::_,h,_=>by cases h
 |_::_,[],_,h=>by cases h
 |a::x,b::y,h1,h2=>by
  rw[em]at h1 h2;by_cases e:a=b
  ·subst e;rw[if_pos rfl]at h1 h2;rw[jsd x y h1 h2]
  ·rw[if_neg e,decide_eq_false_iff_not]at h1;rw[if_neg fun h=>e h.symm,decide_eq_false_iff_not]at h2;omega
theorem quc:Sort.SWO em:=by
 refine⟨jyz,jfu,fun x y z h1 h2=> ?_⟩;cases h:em x z with
 |false=>rfl
 |true=>
  exfalso;cases h3:em y x with
  |true=>
   have:=jfu _ _ _ h3 h;rw[h2]at this;cases this
  |false=>
   obtain rfl:=jsd _ _ h1 h3;rw[h2]at h;cases h
theorem j5l(x y:Int):qhh x y=some (if x<y then-1 else if y<x then 1 else 0):=by
 have h1:u4 x=some false:=by unfold u4;simp
 have h2:u4 y=some false:=by unfold u4;simp
 unfold qhh;rw[h1,ao,h2,ao];by_cases a:x<y
 ·simp[a]
 ·by_cases b:y<x
  ·simp[a,b]
  ·simp[a,b]
theorem j3l(a b:List Int)(i:Nat)(ha:i<a.length)(hb:i<b.length):em (a.drop i) (b.drop i)=if a.getD i 0=b.getD i 0 then em (a.drop (i+1)) (b.drop (i+1))else decide (a.getD i 0<b.getD i 0):=by
 rw[List.drop_eq_getElem_cons ha,List.drop_eq_getElem_cons hb];simp only[em,List.getD_eq_getElem?_getD,List.getElem?_eq_getElem ha,List.getElem?_eq_getElem hb,Option.getD_some]
theorem jwj(a b:List Int)(ha:a.length≤1000000):∃r,au a b=some r∧decide (r<0)=em a b:=by
 have hloop:∃o,qg7 a b a (a.length:Int) 0=some o∧(match o with| .inl _=>a.length≤b.length∧em (a.drop a.length) (b.drop a.length)=em a b| .inr r=>decide (r<0)=em a b):=by
  refine p6 (fun(st:Int)=>∃i:Nat,i≤a.length∧i≤b.length∧st=(i:Int)∧em (a.drop i) (b.drop i)=em a b) (fun st=>((a.length:Int)-st).toNat) (fun(o:Unit⊕Int)=>match o with| .inl _=>a.length≤b.length∧em (a.drop a.length) (b.drop a.length)=em a b| .inr r=>decide (r<0)=em a b) _ ⟨0,Nat.zero_le _,Nat.zero_le _,rfl,rfl⟩ (by show((a.length:Int)-0).toNat<many;unfold many;omega) ?_;rintro _ ⟨i,hi,hib,rfl,he⟩;by_cases h:i<a.length
  ·by_cases h2:i<b.length
   ·rw[j3l a b i h h2]at he;have hc:=j5l (a.getD i 0) (b.getD i 0);have hb2:¬(b.length:Int)≤(i:Int):=by omega
    by_cases heq:a.getD i 0=b.getD i 0
    ·rw[if_pos heq]at he;rw[if_neg (by omega),if_neg (by omega)]at hc;refine⟨.next (((i+1:Nat):Int)),?_,⟨i+1,by omega,by omega,rfl,he⟩,by show((a.length:Int)-((i+1:Nat):Int)).toNat<((a.length:Int)-(i:Int)).toNat;omega⟩;simp only[ee,Int.toNat_natCast,hc];simp(disch:=omega)only[rs];rw[ar]
    ·rw[if_neg heq]at he;by_cases hlt:a.getD i 0<b.getD i 0
     ·rw[if_pos hlt]at hc;refine⟨.ret (-1),?_,?_⟩
      ·simp only[ee,Int.toNat_natCast,hc];simp(disch:=omega)only[rs]
      ·show decide ((-1:Int)<0)=em a b;rw[←he,decide_eq_true hlt];rfl
     ·rw[if_neg hlt,if_pos (by omega)]at hc;refine⟨.ret 1,?_,?_⟩
      ·simp only[ee,Int.toNat_natCast,hc];simp(disch:=omega)only[rs]
      ·show decide ((1:Int)<0)=em a b;rw[←he,decide_eq_false hlt];rfl
   ·refine⟨.ret 1,?_,?_⟩
    ·simp only[ee];simp(disch:=omega)only[rs]
    ·show decide ((1:Int)<0)=em a b;have e:b.drop i=[]:=List.drop_eq_nil_of_le (by omega);rw[←he,e];cases a.drop i<;>rfl
  ·have e:i=a.length:=by omega
   subst e;refine⟨.done (),?_,hib,he⟩;simp only[ee];simp(disch:=omega)only[rs]
 obtain⟨o,ho,hp⟩:=hloop;unfold au;rw[ho,ao];cases o with
 |inr r=>exact⟨r,rfl,hp⟩
 |inl u=>
  obtain⟨h1,h2⟩:=hp;rw[List.drop_length]at h2;by_cases hlt:(a.length:Int)<(b.length:Int)
  ·refine⟨-1,by simp(disch:=omega)only[rs],?_⟩;rw[←h2];cases hd:b.drop a.length with
   |nil=>
    have:=List.length_drop (i:=a.length) (l:=b);rw[hd]at this;simp at this;omega
   |cons x l=>rfl
  ·refine⟨0,by simp(disch:=omega)only[rs],?_⟩;have e:b.drop a.length=[]:=List.drop_eq_nil_of_le (by omega);rw[←h2,e];rfl
def Sh(d:Rw):Prop:=∀i,(d.getD i []).length≤1000000
def cV(a b:List Int):Int:=(ba a b).getD 0
theorem qkr{d:Rw}(h:Sh d)(i j:Nat):ba (d.getD i []) (d.getD j [])=some (cV (d.getD i []) (d.getD j []))∧decide (cV (d.getD i []) (d.getD j [])<0)=em (d.getD i []) (d.getD j []):=by
 obtain⟨r,h1,h2⟩:=jwj (d.getD i []) (d.getD j []) (h i);have e:ba (d.getD i []) (d.getD j [])=some r:=by
  unfold ba;rw[h1];rfl
 unfold cV;rw[e];exact⟨rfl,h2⟩
def swL(d:Rw)(i j:Nat):Rw:=(d.set i (d.getD j [])).set j (d.getD i [])
theorem qne(d:Rw)(i j:Nat):(d.set i (d.getD j [])).set j (d.getD i [])=swL d i j:=rfl
theorem qs(d:Rw)(i j:Nat):(swL d i j).length=d.length:=by simp[swL]
theorem j4k(d:Rw)(i:Nat)(x:List Int)(k:Nat):(d.set i x).getD k []=if i=k∧k<d.length then x else d.getD k []:=by
 rw[List.getD_eq_getElem?_getD,List.getElem?_set];by_cases h:i=k
 ·subst h;by_cases hl:i<d.length
  ·simp[hl]
  ·simp[hl,List.getD_eq_getElem?_getD]
 ·simp[h,List.getD_eq_getElem?_getD]
theorem qgo{d:Rw}(h:Sh d)(i j:Nat):Sh (swL d i j):=by
 intro k;unfold swL;rw[j4k,j4k];split
 ·exact h i
 ·split
  ·exact h j
  ·exact h k
theorem nt(d:Rw)(i:Nat):d.toArray[i]! =d.getD i []:=by
 rw[getElem!_def,List.getD_eq_getElem?_getD];simp only[List.getElem?_toArray];cases d[i]? <;>rfl
theorem og(d:Rw)(i j:Nat):Sort.swp d.toArray i j=(swL d i j).toArray:=by
 unfold Sort.swp swL;rw[nt,nt];simp
theorem qw7{d d' :Rw}{a b:Nat}(h:Sh d)(hb:b≤d.length)(hp:Sort.PermIn a b d.toArray d'.toArray):Sh d' :=by
 intro i;by_cases hi:i<a∨b≤i
 ·have:=hp.2.1 i hi;rw[nt,nt]at this;rw[this];exact h i
 ·have:=Sort.permIn_all d.toArray d'.toArray a b (fun x=>x.length≤1000000) (by simpa using hb) hp (fun k _ _=>by rw[nt];exact h k) i (by omega) (by omega);rwa[nt]at this
theorem qef{d d' :Rw}{a b:Nat}(hp:Sort.PermIn a b d.toArray d'.toArray):d'.length=d.length:=by
 have:=hp.1;simpa using this
theorem j0t(a b i:Int)(an:Nat)(ha:a=(an:Int))(j:Nat)(d:Rw)(hd:Sh d)(hj:j<d.length)(hl:d.length≤1000000):
  jf a b i ((j:Int),d)=some (.inl (Sort.insInner em an j d.toArray).toList):=by
 subst ha;generalize hT:Sort.insInner em an j d.toArray=T;have hloop:∃o,jf (an:Int) b i ((j:Int),d)=some o∧o= .inl T.toList:=by
  refine p6 (fun(st:Int×Rw)=>∃k:Nat,st.1=(k:Int)∧k<st.2.length∧st.2.length=d.length∧Sh st.2∧Sort.insInner em an k st.2.toArray=T) (fun st=>st.1.toNat) (fun(o:Rw⊕Rw)=>o= .inl T.toList) _ ⟨j,rfl,hj,rfl,hd,hT⟩ (by show((j:Nat):Int).toNat<many;unfold many;omega) ?_;rintro⟨_,c⟩ ⟨k,rfl,hk,hcl,hc,hT⟩;have hk:k<c.length:=hk;have hcl:c.length=d.length:=hcl;have hc:Sh c:=hc;have hT:Sort.insInner em an k c.toArray=T:=hT;cases k with
  |zero=>
   refine⟨.done c,?_,by rw[←hT];rfl⟩;have:¬(an:Int)<((0:Nat):Int):=by omega
   simp(disch:=omega)only[cg,rs]
  |succ k=>
   rw[Sort.insInner,nt,nt]at hT;obtain⟨e1,e2⟩:=qkr hc (k+1) k;have e3:((k+1:Nat):Int)-1=(k:Int):=by omega
   by_cases ha:an<k+1
   ·cases hlt:em (c.getD (k+1) []) (c.getD k [])with
    |true=>
     rw[hlt]at e2 hT;rw[if_pos (by simp;omega),og]at hT;refine⟨.next ((k:Int),swL c (k+1) k),?_,⟨k,rfl,by show k<(swL c (k+1) k).length;rw[qs];omega,(qs _ _ _).trans hcl,qgo hc _ _,hT⟩,by show((k:Nat):Int).toNat<((k+1:Nat):Int).toNat;omega⟩;simp only[cg,e3,Int.toNat_natCast,e1,ao,e2,List.length_set];simp(disch:=omega)only[rs];rfl
    |false=>
     rw[hlt]at e2 hT;rw[if_neg (by simp)]at hT;refine⟨.done c,?_,by rw[←hT]⟩;simp only[cg,e3,Int.toNat_natCast,e1,ao,e2];simp(disch:=omega)only[rs]
   ·rw[if_neg (by simp;omega)]at hT;refine⟨.done c,?_,by rw[←hT]⟩;simp(disch:=omega)only[cg,rs]
 obtain⟨_,ho,rfl⟩:=hloop;exact ho
theorem q8s(an:Nat):∀(j:Nat) (d:Rw),Sh d→((Sort.insInner em an j d.toArray).toList).length=d.length∧Sh (Sort.insInner em an j d.toArray).toList
 |0,d,h=>⟨rfl,h⟩
 |j+1,d,h=>by
  rw[Sort.insInner];split
  ·rw[og];have:=q8s an j (swL d (j+1) j) (qgo h _ _);rw[qs]at this;exact this
  ·exact⟨rfl,h⟩
theorem zdq(a b:Nat)(d:Rw)(hd:Sh d)(hab:a≤b)(hb:b≤d.length)(hl:d.length≤1000000):dy (a:Int) (b:Int) d=some (Sort.insertionSort em d.toArray a b).toList:=by
 have hL:∃o,ph (a:Int) (b:Int) (((a+1:Nat):Int),d)=some o∧o= .inl (Sort.insertionSort em d.toArray a b).toList:=by
  unfold Sort.insertionSort;generalize hT:Sort.insOuter em a b (a+1) d.toArray=T;refine p6 (fun(st:Int×Rw)=>∃k:Nat,st.1=(k:Int)∧st.2.length=d.length∧Sh st.2∧Sort.insOuter em a b k st.2.toArray=T) (fun st=>((b:Int)-st.1).toNat) (fun(o:Rw⊕Rw)=>o= .inl T.toList) _ ⟨a+1,rfl,rfl,hd,hT⟩ (by show((b:Int)-((a+1:Nat):Int)).toNat<many;unfold many;omega) ?_;rintro⟨_,c⟩ ⟨k,rfl,hcl,hc,hT⟩;have hcl:c.length=d.length:=hcl;have hc:Sh c:=hc;have hT:Sort.insOuter em a b k c.toArray=T:=hT;rw[Sort.insOuter]at hT;by_cases hk:k<b
  ·rw[if_pos hk]at hT;have e:=j0t (a:Int) (b:Int) (k:Int) a rfl k c hc (by omega) (by omega);obtain⟨h1,h2⟩:=q8s a k c hc;refine⟨.next (((k+1:Nat):Int),(Sort.insInner em a k c.toArray).toList),?_,⟨k+1,rfl,h1.trans hcl,h2,hT⟩,by show((b:Int)-((k+1:Nat):Int)).toNat<((b:Int)-(k:Int)).toNat;omega⟩;simp only[er,e,ao,i6];simp(disch:=omega)only[rs];rw[ar]
  ·rw[if_neg hk]at hT;refine⟨.done c,?_,by rw[←hT]⟩;simp(disch:=omega)only[er,rs]
 obtain⟨_,ho,rfl⟩:=hL;have e:(a:Int)+1=((a+1:Nat):Int):=rfl;unfold dy;rw[e,lz (by omega) (by omega),ho];rfl
end Go.Proofs.YtclbndfjhjladaaGreat
