/-
  Migrate: what Find answers.
-/
import Derived.Test.YtdhfhpdadbopkaaGreatZ3ME
set_option linter.all false
namespace Go.Proofs.YtdhfhpdadbopkaaGreat
open Go.K Go.M
def qf7(w:List ByteArray)(p:jk):Bool:=decide (p.1<(w.length:Int))
def cq(w:List ByteArray)(o:List jk):List jk:=o.filter fun p=> !qf7 w p
theorem jbr(w:List ByteArray)(out:List jk)(ho:out.length≤1000000):bv w out=some (cq w out):=by
 have hg:∀p,yf p w=some (qf7 w p):=fun p=>rfl
 have hI:bx out w=some (qre (qf7 w) out):=by
  have hL:d6 out w (out.length:Int) 0=some (qq8 (fun i=>(i:Int)) (nj (qf7 w) out)):=by
   refine l9 out ae.z (qf7 w) (fun i=>(i:Int)) (by omega) (fun i hi=> ?_) ?_
   ·simp(disch:=omega)only[bt,hg,rs];rw[ai];exact qe4
   ·simp(disch:=omega)only[bt,rs]
  unfold bx;rw[hL,ah,yc]
 unfold bv cq;rw[hI,ah];unfold qre;cases hf:nj (qf7 w) out with
 |none=>
  have:out.filter (fun p=> !qf7 w p)=out:=List.filter_eq_self.2 fun x hx=>by rw[qdm hf x hx];rfl
  rw[this];rfl
 |some k=>
  obtain⟨k1,k2,k3⟩:=qdn ae.z hf;have hne:decide ((k:Int)= -1)=false:=decide_eq_false (by omega);have hpre:(out.take (k+1)).filter (fun p=> !qf7 w p)=out.take k:=by
   rw[a8 out k ae.z k1,List.filter_append];have e1:(out.take k).filter (fun p=> !qf7 w p)=out.take k:=List.filter_eq_self.2 fun x hx=>by
    obtain⟨j,hj,rfl⟩:=ov ae.z hx;have hj' :j<k:=by simp at hj;omega
    have e2:(out.take k).getD j ae.z=out.getD j ae.z:=by simp[List.getD_eq_getElem?_getD,List.getElem?_take,hj']
    rw[e2,k3 j hj'];rfl
   rw[e1,qpp (p:=fun p=> !qf7 w p) (by rw[k2];rfl),List.append_nil]
  have hloop:∃o,dl w ((k:Int),(k:Int)+1,out)=some o∧∃(i:Nat) (s:List jk),o= .inl ((i:Int),s)∧s.length=out.length∧i≤out.length∧s.take i=out.filter fun p=> !qf7 w p:=by
   refine ig (fun(st:Int×Int×List jk)=>∃i j:Nat,st.1=(i:Int)∧st.2.1=(j:Int)∧i<j∧j≤out.length∧st.2.2.length=out.length∧st.2.2.take i=(out.take j).filter (fun p=> !qf7 w p)∧∀m,j≤m→st.2.2.getD m ae.z=out.getD m ae.z) (fun st=>((out.length:Int)-st.2.1).toNat)
    (fun(o:(Int×List jk)⊕List jk)=>∃(i:Nat) (s:List jk),o= .inl ((i:Int),s)∧s.length=out.length∧i≤out.length∧s.take i=out.filter fun p=> !qf7 w p) _ ⟨k,k+1,rfl,ai k,by omega,by omega,rfl,hpre.symm,fun _ _=>rfl⟩ (by show((out.length:Int)-((k:Int)+1)).toNat<many;unfold many;omega) ?_
   rintro⟨_,_,s⟩ ⟨i,j,rfl,rfl,hij,hj,hsl,hst,hrest⟩;have hsl:s.length=out.length:=hsl;have hst:s.take i=(out.take j).filter (fun p=> !qf7 w p):=hst;have hrest:∀m,j≤m→s.getD m ae.z=out.getD m ae.z:=hrest;by_cases hlt:j<out.length
   ·have hsj:=hrest j (Nat.le_refl j);have hμ:((out.length:Int)-((j+1:Nat):Int)).toNat<((out.length:Int)-(j:Int)).toNat:=by omega
    cases hm:qf7 w (out.getD j ae.z)with
    |true=>
     refine⟨.next ((i:Int),((j+1:Nat):Int),s),?_,⟨i,j+1,rfl,rfl,by omega,by omega,hsl,?_,fun m hm=>hrest m (by omega)⟩,hμ⟩
     ·unfold bi;dsimp only;rw[cg (by omega),ao (by omega) (by omega),ao (by omega) (by omega)];simp only[Int.toNat_natCast,hsj];rw[hg,ah,hm,Bool.not_true,cond_false,br (by omega) (by omega),ai]
     ·show s.take i=_;rw[hst,a8 out j ae.z hlt,List.filter_append,qpp (p:=fun p=> !qf7 w p) (by rw[hm];rfl),List.append_nil]
    |false=>
     refine⟨.next (((i+1:Nat):Int),((j+1:Nat):Int),s.set i (out.getD j ae.z)),?_,⟨i+1,j+1,rfl,rfl,by omega,by omega,by show(s.set i _).length=_;rw[List.length_set];exact hsl,?_,fun m hm=> ?_⟩,hμ⟩
     ·unfold bi;dsimp only;rw[cg (by omega),ao (by omega) (by omega),ao (by omega) (by omega)];simp only[Int.toNat_natCast,hsj];rw[hg,ah,hm,Bool.not_false,cond_true,ao (by omega) (by omega),ao (by omega) (by omega),br (by omega) (by omega),br (by omega) (by omega),ai,ai]
     ·show(s.set i (out.getD j ae.z)).take (i+1)=_;rw[a8 _ i ae.z (by rw[List.length_set];omega),List.take_set_of_le (Nat.le_refl i),hst,a8 out j ae.z hlt,List.filter_append];have e1:(s.set i (out.getD j ae.z)).getD i ae.z=out.getD j ae.z:=by
       rw[List.getD_eq_getElem?_getD,List.getElem?_set_self (by omega)];rfl
      rw[e1,qt9 (p:=fun p=> !qf7 w p) (by rw[hm];rfl)]
     ·show(s.set i (out.getD j ae.z)).getD m ae.z=_;rw[←hrest m (by omega),List.getD_eq_getElem?_getD,List.getElem?_set_ne (by omega),←List.getD_eq_getElem?_getD]
   ·obtain rfl:j=out.length:=by omega
    refine⟨.done ((i:Int),s),?_,i,s,rfl,hsl,by omega,by rw[hst,List.take_length]⟩;unfold bi;dsimp only;rw[cp (by omega)]
  obtain⟨_,ho,i,s,rfl,hsl,hi,hst⟩:=hloop;dsimp only;rw[hne,cond_false,br (by omega) (by omega),ho,ah,gf];simp only[Int.toNat_natCast,List.drop_zero,Int.toNat_zero,Nat.sub_zero];have hlen:(mw s i (s.length-i) (List.replicate (s.length-i) (ae.z:ae))).length=s.length:=by
   unfold mw;simp;omega
  rw[qq3 (by omega) (by omega) (by omega),qq3 (by omega) (by omega) (by rw[hlen];omega)];have htake:(mw s i (s.length-i) (List.replicate (s.length-i) (ae.z:ae))).take i=s.take i:=by
   unfold mw;have hl:(s.take i).length=i:=by rw[List.length_take];omega
   rw[List.take_append_of_le_length (by omega),List.take_take,Nat.min_self]
  rw[htake,hst]
theorem jjg(l:List Pr)(x:List Int)(p:jk)(hl:l.length≤1000000)(hp:∀p∈l,p.1.length≤1000000∧p.2.1.length≤1000000):dq l x p=some (n8 l x p.2.1):=by
 have hL:m5 l x p (l.length:Int) 0=some (qq8 (fun i=>(i:Int)) (nj (fun q:Pr=>decide (q.1=x)&&decide (q.2.1=p.2.1)) l)):=by
  refine l9 l ab.z (fun q:Pr=>decide (q.1=x)&&decide (q.2.1=p.2.1)) (fun i=>(i:Int)) (by omega) (fun i hi=> ?_) ?_
  ·obtain⟨h1,h2⟩:=hp _ (au ab.z hi);simp(disch:=omega)only[du,qd9,sx (l.getD i ab.z).1 x (by omega),sx (l.getD i ab.z).2.1 p.2.1 (by omega),rs];rw[ai];cases decide ((l.getD i ab.z).1=x)<;>cases decide ((l.getD i ab.z).2.1=p.2.1)<;>rfl
  ·simp(disch:=omega)only[du,rs]
 unfold dq i4;rw[hL,ah,yc,ah,qdb];rfl
abbrev qgx:dg:=([],[],[],())
section
variable {old new : a7} (ho : Small old) (hn : Small new) (vo : bu old = true) (vn : bu new = true) {run : List Int} {x : List Int} {w : List ByteArray} {M : Nat}
 (hx : bq old.1 x = true) (hw : w.length ≤ 1000) (hM : M ≤ 900) (hM1 : 1 ≤ M) (hg : n9 old new run (M : Int) = some (x, 0, w))
include ho hn vo vn hx hw hM hM1 hg
theorem je6{o:List jk}(hb:pf new w M (M+1) 0 (first new)= .inr o):ep old new run (M:Int)=some (qgx,13):=by
 unfold ep;rw[hg,ah];dsimp only;rw[decide_eq_true rfl,Bool.not_true,cond_false,qsk hn vn hw (by omega) hM1,hb,ah];rfl
theorem qsj:∃o,(pf new w M (M+1) 0 (first new)= .inl o∨pf new w M (M+1) 0 (first new)= .inr o∧o.length=M)∧o.length≤M∧(∀p∈o,PosOK new w p∧p.2.2.1.length≤M+1)∧dh o 0 (qd1 new)=true:=by
 obtain⟨o,h1,h2,h3,h4,h5⟩:=q9n (n:=new) (w:=w) (M:=M) (Q:=PosOK new w) (fun x hx=>hx.next) (M+1) 0 (first new) (by show 1≤M;omega) (fun p hp=>by rw[List.mem_singleton.1 hp];exact PosOK.first new w);have hr:=q46 (n:=new) (w:=w) (M:=M) (M+1) 0 (first new) (by show 1≤M;omega) (fun p hp=>by rw[List.mem_singleton.1 hp];exact Nat.le_refl _) o (h1.imp id fun h=>h.1);exact⟨o,h1,h2,fun p hp=>⟨h3 p hp,by have:=hr p hp;omega⟩,h4 0 (qd1 new) (by unfold dh;rw[List.any_cons,decide_eq_true rfl,decide_eq_true rfl];rfl)⟩
theorem je5{o:List jk}(hb:pf new w M (M+1) 0 (first new)= .inl o):
  ((M<(ck old M [x]).length∨M<(ck new M ((cq w o).map fun p=>p.2.1)).length∨20000<(ck old M [x]).length*(ck new M ((cq w o).map fun p=>p.2.1)).length)∧ep old new run (M:Int)=some (qgx,13))∨
  ((ck old M [x]).length≤M∧(ck new M ((cq w o).map fun p=>p.2.1)).length≤M∧(ck old M [x]).length*(ck new M ((cq w o).map fun p=>p.2.1)).length≤20000∧qv old (ck old M [x])∧qv new (ck new M ((cq w o).map fun p=>p.2.1))∧
   ∃L,Greatest old new (gp (ck old M [x]) (ck new M ((cq w o).map fun p=>p.2.1))) L∧
    (((∀p∈cq w o,n8 L x p.2.1=false)∧ep old new run (M:Int)=some (qgx,10))∨∃p∈cq w o,n8 L x p.2.1=true∧ep old new run (M:Int)=some ((p.2.1,p.2.2.1,L,()),0))):=by
 obtain⟨p1,p2,_⟩:=ba vo ho;obtain⟨q1,q2,_⟩:=ba vn hn;have hto:=ho.trans;have htn:=hn.trans;obtain⟨o',g1,g2,g3,g4⟩:=qsj ho hn vo vn hx hw hM hM1 hg;have hoo:o' =o:=by
  rcases g1 with g1|⟨g1,_⟩
  ·rw[hb]at g1;injection g1 with g1;exact g1.symm
  ·rw[hb]at g1;cases g1
 subst hoo;have hE:(cq w o').length≤M:=by have:=List.length_filter_le (fun p=> !qf7 w p) o';unfold cq;omega
 have hEm:∀p∈cq w o',bq new.1 p.2.1=true:=fun p hp=>((g3 p (List.mem_filter.1 hp).1).1).mark hn vn
 have hF:qv new ((cq w o').map fun p=>p.2.1):=fun m hm=>by
  obtain⟨p,hp,rfl⟩:=List.mem_map.1 hm;exact hEm p hp
 have hX1:qv old [x]:=fun m hm=>by rw[List.mem_singleton.1 hm];exact hx
 have hL0:∀(a b c:List Int) (d:List Pr),qld (M:Int) (cq w o') (cq w o') ((cq w o').length:Int) old.1 old.2.1 old.2.2.1 old.2.2.2.1 new.1 new.2.1 new.2.2.1 new.2.2.2.1 a b d c (0,[])=some (.inl ((cq w o').map fun p=>p.2.1)):=fun a b c d=>by
  refine f9 (fun i=>((i:Int),((cq w o').take i).map fun p=>p.2.1)) (cq w o').length (cr (by omega)) _ (fun i hi=> ?_) ?_ _ rfl
  ·have e:(((cq w o').take i).map fun p:jk=>p.2.1).length=i:=by rw[List.length_map,List.length_take];omega
   unfold v7;dsimp only;rw[cg (by omega),ao (by omega) (by omega),ao (by omega) (by omega),d9 (by omega) (by omega),br (by omega) (by omega),ai];simp only[Int.toNat_natCast];rw[a8 (cq w o') i ae.z hi,List.map_append];rfl
  ·rw[List.take_length];unfold v7;dsimp only;rw[cp (by omega)]
 have hRX:=ja3 ho vo (M:=M) (by omega) hX1 (by show 1≤100000;omega);have hRY:=ja3 hn vn (M:=M) (by omega) hF (by rw[List.length_map];omega);have hXm:qv old (ck old M [x]):=(ql9 (n:=old) (M:=M) (Q:=fun m=>bq old.1 m=true) (fun m t hm ht hok=>tl ho vo hm ht hok) (M+2) 0 (j5 [x]) (fun m hm=>by
  rcases qh.1 hm with hm|⟨t,ht,_,rfl⟩
  ·cases hm
  ·exact hX1 _ ht)).1
 have hYm:qv new (ck new M ((cq w o').map fun p=>p.2.1)):=(ql9 (n:=new) (M:=M) (Q:=fun m=>bq new.1 m=true) (fun m t hm ht hok=>tl hn vn hm ht hok) (M+2) 0 (j5 ((cq w o').map fun p:jk=>p.2.1)) (fun m hm=>by
  rcases qh.1 hm with hm|⟨t,ht,_,rfl⟩
  ·cases hm
  ·exact hF _ ht)).1
 have hXl:(ck old M [x]).length≤max (j5 [x]).length (M+old.2.1.length):=qma (n:=old) (M:=M) (M+2) 0 (j5 [x]);have hYl:(ck new M ((cq w o').map fun p:jk=>p.2.1)).length≤max (j5 ((cq w o').map fun p:jk=>p.2.1)).length (M+new.2.1.length):=qma (n:=new) (M:=M) (M+2) 0 (j5 ((cq w o').map fun p:jk=>p.2.1));have hfx:=ni (fun _=>true) id [x] ([]:Ms);have hfy:=ni (fun _=>true) id ((cq w o').map fun p=>p.2.1) ([]:Ms);rw[List.length_nil,Nat.zero_add,List.length_singleton]at hfx;rw[List.length_nil,Nat.zero_add,List.length_map]at hfy;have hXl:(ck old M [x]).length≤2000:=by
  have e:(j5 [x]).length≤1:=hfx;omega
 have hYl:(ck new M ((cq w o').map fun p=>p.2.1)).length≤2000:=by
  have e:(j5 ((cq w o').map fun p:jk=>p.2.1)).length≤(cq w o').length:=hfy;omega
 generalize hX:ck old M [x]=X at hRX hXm hXl⊢;generalize hFr:(cq w o').map (fun p=>p.2.1)=fr at hF hL0 hRY hYm hYl⊢;generalize hY:ck new M fr=Y at hRY hYm hYl⊢;have hmul:X.length*Y.length≤2000*2000:=Nat.mul_le_mul hXl hYl;have start:ep old new run (M:Int)=(bif (!decide ((X.length:Int)≤(M:Int)))then some (qgx,13)else bif (!decide ((Y.length:Int)≤(M:Int)))then some (qgx,13)else
   bif decide ((20000:Int)<((X.length:Int)*(Y.length:Int)))then some (qgx,13)else
   bnd (ow old new X Y) fun r7=>aq (decide (r7.1.length=X.length))<|aq (decide (r7.2.1.length=Y.length))<|
    bnd (qd8 r7.2.2 (cq w o') ((cq w o').length:Int) [] [] [] x 0) fun oe13=>lk oe13 (fun _=>some (qgx,10)) (fun r=>some r)):=by
  unfold ep;rw[hg,ah];dsimp only;rw[decide_eq_true rfl,Bool.not_true,cond_false,qsk hn vn hw (by omega) hM1,hb,ah];dsimp only;rw[Bool.not_true,cond_false,jbr w o' (by omega),ah,hL0,ah,gf,hRX,ah];dsimp only;rw[qx (c:=decide ([x].length=1)) rfl,hRY,ah];dsimp only;have hin:∀m:Option (dg×Int),aq (d8 .i64 ((X.length:Int)*(Y.length:Int))) m=m:=fun m=>by
   have:((X.length:Int)*(Y.length:Int))=((X.length*Y.length:Nat):Int):=by rw[Int.natCast_mul]
   rw[this];exact br (by omega) (by omega)
  rw[qx (decide_eq_true rfl),hin]
 rw[start];by_cases c1:X.length≤M
 ·rw[decide_eq_true (by omega),Bool.not_true,cond_false];by_cases c2:Y.length≤M
  ·rw[decide_eq_true (by omega),Bool.not_true,cond_false];by_cases c3:X.length*Y.length≤20000
   ·have c3' :¬(20000:Int)<((X.length:Int)*(Y.length:Int)):=by
     rw[←Int.natCast_mul];omega
    obtain⟨L,e1,e2⟩:=q97 ho hn vo vn hXm hYm (by omega) (by omega) c3;rw[decide_eq_false c3',cond_false,e1,ah];dsimp only;rw[qx (decide_eq_true rfl),qx (decide_eq_true rfl)];refine .inr ⟨c1,c2,c3,hXm,hYm,L,e2,?_⟩;have hPl:=qay Y X;have hLl:L.length≤20000:=by have:=e2.len;omega
    have hPM:PM old new L:=fun p hp=>qil hXm hYm p (e2.sub p hp)
    have hLen:∀p∈L,p.1.length≤1000000∧p.2.1.length≤1000000:=fun p hp=>by
     have h1:=b7 (hPM p hp).1;have h2:=b7 (hPM p hp).2;omega
    have hL1:∀(a b:List Int) (c d:List Int) (q:List Pr),qle L (L.length:Int) a b q c d (0,[])=some (.inl L):=fun a b c d q=>by
     refine f9 (fun i=>((i:Int),L.take i)) L.length (cr (by omega)) _ (fun i hi=> ?_) ?_ _ rfl
     ·have e:(L.take i).length=i:=by rw[List.length_take];omega
      have hl:=hLen _ (au ab.z hi);unfold v8;dsimp only;rw[cg (by omega),ao (by omega) (by omega),ao (by omega) (by omega)];simp only[Int.toNat_natCast];rw[qdv _ hl.1,ah,qdv _ hl.2,ah,d9 (by omega) (by omega),br (by omega) (by omega),ai,a8 L i ab.z hi]
     ·rw[List.take_length];unfold v8;dsimp only;rw[cp (by omega)]
    have hL2:qd8 L (cq w o') ((cq w o').length:Int) [] [] [] x 0=some (qq8 (fun i=>((((cq w o').getD i ae.z).2.1,((cq w o').getD i ae.z).2.2.1,L,()),(0:Int))) (nj (fun p:jk=>n8 L x p.2.1) (cq w o'))):=by
     refine l9 (cq w o') ae.z (fun p:jk=>n8 L x p.2.1) _ (by omega) (fun i hi=> ?_) ?_
     ·have hm:=b7 (hEm _ (au ae.z hi));unfold wa;rw[cg (by omega),ao (by omega) (by omega),ao (by omega) (by omega)];simp only[Int.toNat_natCast];rw[jjg L x _ (by omega) hLen,ah];cases n8 L x ((cq w o').getD i ae.z).2.1 with
      |true=>rw[cond_true,qdv _ (by omega),ah,hL1,ah,gf];rfl
      |false=>rw[cond_false,br (by omega) (by omega),ai];rfl
     ·unfold wa;rw[cp (by omega)]
    rw[hL2,ah];cases hf:nj (fun p:jk=>n8 L x p.2.1) (cq w o')with
    |none=>exact .inl ⟨fun p hp=>qdm hf p hp,rfl⟩
    |some i=>
     obtain⟨k1,k2,_⟩:=qdn ae.z hf;exact .inr ⟨_,au ae.z k1,k2,rfl⟩
   ·have c3' :(20000:Int)<((X.length:Int)*(Y.length:Int)):=by
     rw[←Int.natCast_mul];omega
    rw[decide_eq_true c3',cond_true];exact .inl ⟨.inr (.inr (by omega)),rfl⟩
  ·rw[decide_eq_false (by omega),Bool.not_false,cond_true];exact .inl ⟨.inr (.inl (by omega)),rfl⟩
 ·rw[decide_eq_false (by omega),Bool.not_false,cond_true];exact .inl ⟨.inl (by omega),rfl⟩
theorem je4{o:List jk}(hb:pf new w M (M+1) 0 (first new)= .inl o){L:List Pr}{X Y:Ms}(hXm:qv old X)(hYm:qv new Y)(hG:Greatest old new (gp X Y) L){p:jk}(hp:p∈cq w o)(hin:n8 L x p.2.1=true)
  (w1:ea old=some true) (w2:ea new=some true) (hh:qdz old run=some (x,w)):Cert old new run (p.2.1,p.2.2.1,L,())∧p.2.2.1.length≤M+1:=by
 obtain⟨o',g1,g2,g3,g4⟩:=qsj ho hn vo vn hx hw hM hM1 hg;have hoo:o' =o:=by
  rcases g1 with g1|⟨g1,_⟩
  ·rw[hb]at g1;injection g1 with g1;exact g1.symm
  ·rw[hb]at g1;cases g1
 subst hoo;obtain⟨hpo,hpf⟩:=List.mem_filter.1 hp;obtain⟨hP,hPl⟩:=g3 p hpo;unfold qf7 at hpf;rw[Bool.not_eq_true',decide_eq_false_iff_not]at hpf;have hk:p.1=(w.length:Int):=by have:=hP.k1;omega
 refine⟨⟨w1,w2,vo,vn,fun q hq=>qil hXm hYm q (hG.sub q hq),⟨x,w,qam new p.2.2.1,hh,?_,?_,hin⟩,hG.hold⟩,hPl⟩
 ·unfold qdz;rw[if_pos (by show p.2.2.1.length≤1000;omega),show qb5 new p.2.2.1 (qd1 new)=some p.2.1 from hP.run];rfl
 ·have:=hP.word;rw[hk,Int.toNat_natCast,List.take_length]at this;exact this.symm
end
end Go.Proofs.YtdhfhpdadbopkaaGreat
