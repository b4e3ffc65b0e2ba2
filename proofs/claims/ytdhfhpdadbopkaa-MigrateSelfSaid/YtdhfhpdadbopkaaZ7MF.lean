/-
  Migrate: what Find answers.
-/
import Derived.Test.YtdhfhpdadbopkaaZ7ME
set_option linter.all false
namespace Go.Proofs.Ytdhfhpdadbopkaa
open Go.K Go.M
def qfv(w:List ByteArray)(p:iu):Bool:=decide (p.1<(w.length:Int))
def ew(w:List ByteArray)(o:List iu):List iu:=o.filter fun p=> !qfv w p
theorem q7m(w:List ByteArray)(out:List iu)(ho:out.length≤1000000):bt w out=some (ew w out):=by
 have hg:∀p,x4 p w=some (qfv w p):=fun p=>rfl
 have hI:b7 out w=some (qpt (qfv w) out):=by
  have hL:d9 out w (out.length:Int) 0=some (qmc (fun i=>(i:Int)) (kz (qfv w) out)):=by
   refine jl out ae.z (qfv w) (fun i=>(i:Int)) (by omega) (fun i hi=> ?_) ?_
   ·simp(disch:=omega)only[br,hg,rs];rw[aj];exact y8
   ·simp(disch:=omega)only[br,rs]
  unfold b7;rw[hL,ah,vm]
 unfold bt ew;rw[hI,ah];unfold qpt;cases hf:kz (qfv w) out with
 |none=>
  have:out.filter (fun p=> !qfv w p)=out:=List.filter_eq_self.2 fun x hx=>by rw[zw hf x hx];rfl
  rw[this];rfl
 |some k=>
  obtain⟨k1,k2,k3⟩:=zx ae.z hf;have hne:decide ((k:Int)= -1)=false:=decide_eq_false (by omega);have hpre:(out.take (k+1)).filter (fun p=> !qfv w p)=out.take k:=by
   rw[bn out k ae.z k1,List.filter_append];have e1:(out.take k).filter (fun p=> !qfv w p)=out.take k:=List.filter_eq_self.2 fun x hx=>by
    obtain⟨j,hj,rfl⟩:=je ae.z hx;have hj' :j<k:=by simp at hj;omega
    have e2:(out.take k).getD j ae.z=out.getD j ae.z:=by simp[List.getD_eq_getElem?_getD,List.getElem?_take,hj']
    rw[e2,k3 j hj'];rfl
   rw[e1,qw8 (p:=fun p=> !qfv w p) (by rw[k2];rfl),List.append_nil]
  have hloop:∃o,di w ((k:Int),(k:Int)+1,out)=some o∧∃(i:Nat) (s:List iu),o= .inl ((i:Int),s)∧s.length=out.length∧i≤out.length∧s.take i=out.filter fun p=> !qfv w p:=by
   refine ij (fun(st:Int×Int×List iu)=>∃i j:Nat,st.1=(i:Int)∧st.2.1=(j:Int)∧i<j∧j≤out.length∧st.2.2.length=out.length∧st.2.2.take i=(out.take j).filter (fun p=> !qfv w p)∧∀m,j≤m→st.2.2.getD m ae.z=out.getD m ae.z) (fun st=>((out.length:Int)-st.2.1).toNat)
    (fun(o:(Int×List iu)⊕List iu)=>∃(i:Nat) (s:List iu),o= .inl ((i:Int),s)∧s.length=out.length∧i≤out.length∧s.take i=out.filter fun p=> !qfv w p) _ ⟨k,k+1,rfl,aj k,by omega,by omega,rfl,hpre.symm,fun _ _=>rfl⟩ (by show((out.length:Int)-((k:Int)+1)).toNat<many;unfold many;omega) ?_
   rintro⟨_,_,s⟩ ⟨i,j,rfl,rfl,hij,hj,hsl,hst,hrest⟩;have hsl:s.length=out.length:=hsl;have hst:s.take i=(out.take j).filter (fun p=> !qfv w p):=hst;have hrest:∀m,j≤m→s.getD m ae.z=out.getD m ae.z:=hrest;by_cases hlt:j<out.length
   ·have hsj:=hrest j (Nat.le_refl j);have hμ:((out.length:Int)-((j+1:Nat):Int)).toNat<((out.length:Int)-(j:Int)).toNat:=by omega
    cases hm:qfv w (out.getD j ae.z)with
    |true=>
     refine⟨.next ((i:Int),((j+1:Nat):Int),s),?_,⟨i,j+1,rfl,rfl,by omega,by omega,hsl,?_,fun m hm=>hrest m (by omega)⟩,hμ⟩
     ·unfold bg;dsimp only;rw[cj (by omega),ao (by omega) (by omega),ao (by omega) (by omega)];simp only[Int.toNat_natCast,hsj];rw[hg,ah,hm,Bool.not_true,cond_false,ci (by omega) (by omega),aj]
     ·show s.take i=_;rw[hst,bn out j ae.z hlt,List.filter_append,qw8 (p:=fun p=> !qfv w p) (by rw[hm];rfl),List.append_nil]
    |false=>
     refine⟨.next (((i+1:Nat):Int),((j+1:Nat):Int),s.set i (out.getD j ae.z)),?_,⟨i+1,j+1,rfl,rfl,by omega,by omega,by show(s.set i _).length=_;rw[List.length_set];exact hsl,?_,fun m hm=> ?_⟩,hμ⟩
     ·unfold bg;dsimp only;rw[cj (by omega),ao (by omega) (by omega),ao (by omega) (by omega)];simp only[Int.toNat_natCast,hsj];rw[hg,ah,hm,Bool.not_false,cond_true,ao (by omega) (by omega),ao (by omega) (by omega),ci (by omega) (by omega),ci (by omega) (by omega),aj,aj]
     ·show(s.set i (out.getD j ae.z)).take (i+1)=_;rw[bn _ i ae.z (by rw[List.length_set];omega),List.take_set_of_le (Nat.le_refl i),hst,bn out j ae.z hlt,List.filter_append];have e1:(s.set i (out.getD j ae.z)).getD i ae.z=out.getD j ae.z:=by
       rw[List.getD_eq_getElem?_getD,List.getElem?_set_self (by omega)];rfl
      rw[e1,q3d (p:=fun p=> !qfv w p) (by rw[hm];rfl)]
     ·show(s.set i (out.getD j ae.z)).getD m ae.z=_;rw[←hrest m (by omega),List.getD_eq_getElem?_getD,List.getElem?_set_ne (by omega),←List.getD_eq_getElem?_getD]
   ·obtain rfl:j=out.length:=by omega
    refine⟨.done ((i:Int),s),?_,i,s,rfl,hsl,by omega,by rw[hst,List.take_length]⟩;unfold bg;dsimp only;rw[df (by omega)]
  obtain⟨_,ho,i,s,rfl,hsl,hi,hst⟩:=hloop;dsimp only;rw[hne,cond_false,ci (by omega) (by omega),ho,ah,lq];simp only[Int.toNat_natCast,List.drop_zero,Int.toNat_zero,Nat.sub_zero];have hlen:(m5 s i (s.length-i) (List.replicate (s.length-i) (ae.z:ae))).length=s.length:=by
   unfold m5;simp;omega
  rw[qpi (by omega) (by omega) (by omega),qpi (by omega) (by omega) (by rw[hlen];omega)];have htake:(m5 s i (s.length-i) (List.replicate (s.length-i) (ae.z:ae))).take i=s.take i:=by
   unfold m5;have hl:(s.take i).length=i:=by rw[List.length_take];omega
   rw[List.take_append_of_le_length (by omega),List.take_take,Nat.min_self]
  rw[htake,hst]
theorem jff(l:List Pr)(x:List Int)(p:iu)(hl:l.length≤1000000)(hp:∀p∈l,p.1.length≤1000000∧p.2.1.length≤1000000):dq l x p=some (inB l x p.2.1):=by
 have hL:ng l x p (l.length:Int) 0=some (qmc (fun i=>(i:Int)) (kz (fun q:Pr=>decide (q.1=x)&&decide (q.2.1=p.2.1)) l)):=by
  refine jl l ab.z (fun q:Pr=>decide (q.1=x)&&decide (q.2.1=p.2.1)) (fun i=>(i:Int)) (by omega) (fun i hi=> ?_) ?_
  ·obtain⟨h1,h2⟩:=hp _ (aw ab.z hi);simp(disch:=omega)only[du,qdt,qv (l.getD i ab.z).1 x (by omega),qv (l.getD i ab.z).2.1 p.2.1 (by omega),rs];rw[aj];cases decide ((l.getD i ab.z).1=x)<;>cases decide ((l.getD i ab.z).2.1=p.2.1)<;>rfl
  ·simp(disch:=omega)only[du,rs]
 unfold dq i6;rw[hL,ah,vm,ah,qar];rfl
abbrev qng:fv:=([],[],[],())
section
variable {old new : az} (ho : Small old) (hn : Small new) (vo : bv old = true) (vn : bv new = true) {run : List Int} {x : List Int} {w : List ByteArray} {M : Nat}
 (hx : bu old.1 x = true) (hw : w.length ≤ 1000) (hM : M ≤ 900) (hM1 : 1 ≤ M) (hg : jq old new run (M : Int) = some (x, 0, w))
include ho hn vo vn hx hw hM hM1 hg
theorem ja2{o:List iu}(hb:m4 new w M (M+1) 0 (first new)= .inr o):dm old new run (M:Int)=some (qng,13):=by
 unfold dm;rw[hg,ah];dsimp only;rw[decide_eq_true rfl,Bool.not_true,cond_false,qhz hn vn hw (by omega) hM1,hb,ah];rfl
theorem qyx:∃o,(m4 new w M (M+1) 0 (first new)= .inl o∨m4 new w M (M+1) 0 (first new)= .inr o∧o.length=M)∧o.length≤M∧(∀p∈o,PosOK new w p∧p.2.2.1.length≤M+1)∧ct o 0 (uv new)=true:=by
 obtain⟨o,h1,h2,h3,h4,h5⟩:=q5s (n:=new) (w:=w) (M:=M) (Q:=PosOK new w) (fun x hx=>hx.next) (M+1) 0 (first new) (by show 1≤M;omega) (fun p hp=>by rw[List.mem_singleton.1 hp];exact PosOK.first new w);have hr:=qrz (n:=new) (w:=w) (M:=M) (M+1) 0 (first new) (by show 1≤M;omega) (fun p hp=>by rw[List.mem_singleton.1 hp];exact Nat.le_refl _) o (h1.imp id fun h=>h.1);exact⟨o,h1,h2,fun p hp=>⟨h3 p hp,by have:=hr p hp;omega⟩,h4 0 (uv new) (by unfold ct;rw[List.any_cons,decide_eq_true rfl,decide_eq_true rfl];rfl)⟩
theorem ja1{o:List iu}(hb:m4 new w M (M+1) 0 (first new)= .inl o):
  ((M<(ez old M [x]).length∨M<(ez new M ((ew w o).map fun p=>p.2.1)).length∨20000<(ez old M [x]).length*(ez new M ((ew w o).map fun p=>p.2.1)).length)∧dm old new run (M:Int)=some (qng,13))∨
  ((ez old M [x]).length≤M∧(ez new M ((ew w o).map fun p=>p.2.1)).length≤M∧(ez old M [x]).length*(ez new M ((ew w o).map fun p=>p.2.1)).length≤20000∧rv old (ez old M [x])∧rv new (ez new M ((ew w o).map fun p=>p.2.1))∧
   ∃L,Greatest old new (m8 (ez old M [x]) (ez new M ((ew w o).map fun p=>p.2.1))) L∧
    (((∀p∈ew w o,inB L x p.2.1=false)∧dm old new run (M:Int)=some (qng,10))∨∃p∈ew w o,inB L x p.2.1=true∧dm old new run (M:Int)=some ((p.2.1,p.2.2.1,L,()),0))):=by
 obtain⟨p1,p2,_⟩:=bi vo ho;obtain⟨q1,q2,_⟩:=bi vn hn;have hto:=ho.trans;have htn:=hn.trans;obtain⟨o',g1,g2,g3,g4⟩:=qyx ho hn vo vn hx hw hM hM1 hg;have hoo:o' =o:=by
  rcases g1 with g1|⟨g1,_⟩
  ·rw[hb]at g1;injection g1 with g1;exact g1.symm
  ·rw[hb]at g1;cases g1
 subst hoo;have hE:(ew w o').length≤M:=by have:=List.length_filter_le (fun p=> !qfv w p) o';unfold ew;omega
 have hEm:∀p∈ew w o',bu new.1 p.2.1=true:=fun p hp=>((g3 p (List.mem_filter.1 hp).1).1).mark hn vn
 have hF:rv new ((ew w o').map fun p=>p.2.1):=fun m hm=>by
  obtain⟨p,hp,rfl⟩:=List.mem_map.1 hm;exact hEm p hp
 have hX1:rv old [x]:=fun m hm=>by rw[List.mem_singleton.1 hm];exact hx
 have hL0:∀(a b c:List Int) (d:List Pr),qke (M:Int) (ew w o') (ew w o') ((ew w o').length:Int) old.1 old.2.1 old.2.2.1 old.2.2.2.1 new.1 new.2.1 new.2.2.1 new.2.2.2.1 a b d c (0,[])=some (.inl ((ew w o').map fun p=>p.2.1)):=fun a b c d=>by
  refine nt (fun i=>((i:Int),((ew w o').take i).map fun p=>p.2.1)) (ew w o').length (dl (by omega)) _ (fun i hi=> ?_) ?_ _ rfl
  ·have e:(((ew w o').take i).map fun p:iu=>p.2.1).length=i:=by rw[List.length_map,List.length_take];omega
   unfold vp;dsimp only;rw[cj (by omega),ao (by omega) (by omega),ao (by omega) (by omega),gl (by omega) (by omega),ci (by omega) (by omega),aj];simp only[Int.toNat_natCast];rw[bn (ew w o') i ae.z hi,List.map_append];rfl
  ·rw[List.take_length];unfold vp;dsimp only;rw[df (by omega)]
 have hRX:=q64 ho vo (M:=M) (by omega) hX1 (by show 1≤100000;omega);have hRY:=q64 hn vn (M:=M) (by omega) hF (by rw[List.length_map];omega);have hXm:rv old (ez old M [x]):=(qec (n:=old) (M:=M) (Q:=fun m=>bu old.1 m=true) (fun m t hm ht hok=>qaw ho vo hm ht hok) (M+2) 0 (rz [x]) (fun m hm=>by
  rcases qf.1 hm with hm|⟨t,ht,_,rfl⟩
  ·cases hm
  ·exact hX1 _ ht)).1
 have hYm:rv new (ez new M ((ew w o').map fun p=>p.2.1)):=(qec (n:=new) (M:=M) (Q:=fun m=>bu new.1 m=true) (fun m t hm ht hok=>qaw hn vn hm ht hok) (M+2) 0 (rz ((ew w o').map fun p:iu=>p.2.1)) (fun m hm=>by
  rcases qf.1 hm with hm|⟨t,ht,_,rfl⟩
  ·cases hm
  ·exact hF _ ht)).1
 have hXl:(ez old M [x]).length≤max (rz [x]).length (M+old.2.1.length):=qy0 (n:=old) (M:=M) (M+2) 0 (rz [x]);have hYl:(ez new M ((ew w o').map fun p:iu=>p.2.1)).length≤max (rz ((ew w o').map fun p:iu=>p.2.1)).length (M+new.2.1.length):=qy0 (n:=new) (M:=M) (M+2) 0 (rz ((ew w o').map fun p:iu=>p.2.1));have hfx:=qba (fun _=>true) id [x] ([]:Ms);have hfy:=qba (fun _=>true) id ((ew w o').map fun p=>p.2.1) ([]:Ms);rw[List.length_nil,Nat.zero_add,List.length_singleton]at hfx;rw[List.length_nil,Nat.zero_add,List.length_map]at hfy;have hXl:(ez old M [x]).length≤2000:=by
  have e:(rz [x]).length≤1:=hfx;omega
 have hYl:(ez new M ((ew w o').map fun p=>p.2.1)).length≤2000:=by
  have e:(rz ((ew w o').map fun p:iu=>p.2.1)).length≤(ew w o').length:=hfy;omega
 generalize hX:ez old M [x]=X at hRX hXm hXl⊢;generalize hFr:(ew w o').map (fun p=>p.2.1)=fr at hF hL0 hRY hYm hYl⊢;generalize hY:ez new M fr=Y at hRY hYm hYl⊢;have hmul:X.length*Y.length≤2000*2000:=Nat.mul_le_mul hXl hYl;have start:dm old new run (M:Int)=(bif (!decide ((X.length:Int)≤(M:Int)))then some (qng,13)else bif (!decide ((Y.length:Int)≤(M:Int)))then some (qng,13)else
   bif decide ((20000:Int)<((X.length:Int)*(Y.length:Int)))then some (qng,13)else
   bnd (oy old new X Y) fun r7=>aq (decide (r7.1.length=X.length))<|aq (decide (r7.2.1.length=Y.length))<|
    bnd (qds r7.2.2 (ew w o') ((ew w o').length:Int) [] [] [] x 0) fun oe13=>lk oe13 (fun _=>some (qng,10)) (fun r=>some r)):=by
  unfold dm;rw[hg,ah];dsimp only;rw[decide_eq_true rfl,Bool.not_true,cond_false,qhz hn vn hw (by omega) hM1,hb,ah];dsimp only;rw[Bool.not_true,cond_false,q7m w o' (by omega),ah,hL0,ah,lq,hRX,ah];dsimp only;rw[vk (c:=decide ([x].length=1)) rfl,hRY,ah];dsimp only;have hin:∀m:Option (fv×Int),aq (gc .i64 ((X.length:Int)*(Y.length:Int))) m=m:=fun m=>by
   have:((X.length:Int)*(Y.length:Int))=((X.length*Y.length:Nat):Int):=by rw[Int.natCast_mul]
   rw[this];exact ci (by omega) (by omega)
  rw[vk (decide_eq_true rfl),hin]
 rw[start];by_cases c1:X.length≤M
 ·rw[decide_eq_true (by omega),Bool.not_true,cond_false];by_cases c2:Y.length≤M
  ·rw[decide_eq_true (by omega),Bool.not_true,cond_false];by_cases c3:X.length*Y.length≤20000
   ·have c3' :¬(20000:Int)<((X.length:Int)*(Y.length:Int)):=by
     rw[←Int.natCast_mul];omega
    obtain⟨L,e1,e2⟩:=q6a ho hn vo vn hXm hYm (by omega) (by omega) c3;rw[decide_eq_false c3',cond_false,e1,ah];dsimp only;rw[vk (decide_eq_true rfl),vk (decide_eq_true rfl)];refine .inr ⟨c1,c2,c3,hXm,hYm,L,e2,?_⟩;have hPl:=qgk Y X;have hLl:L.length≤20000:=by have:=e2.len;omega
    have hPM:PM old new L:=fun p hp=>qo0 hXm hYm p (e2.sub p hp)
    have hLen:∀p∈L,p.1.length≤1000000∧p.2.1.length≤1000000:=fun p hp=>by
     have h1:=c0 (hPM p hp).1;have h2:=c0 (hPM p hp).2;omega
    have hL1:∀(a b:List Int) (c d:List Int) (q:List Pr),qkf L (L.length:Int) a b q c d (0,[])=some (.inl L):=fun a b c d q=>by
     refine nt (fun i=>((i:Int),L.take i)) L.length (dl (by omega)) _ (fun i hi=> ?_) ?_ _ rfl
     ·have e:(L.take i).length=i:=by rw[List.length_take];omega
      have hl:=hLen _ (aw ab.z hi);unfold vq;dsimp only;rw[cj (by omega),ao (by omega) (by omega),ao (by omega) (by omega)];simp only[Int.toNat_natCast];rw[qde _ hl.1,ah,qde _ hl.2,ah,gl (by omega) (by omega),ci (by omega) (by omega),aj,bn L i ab.z hi]
     ·rw[List.take_length];unfold vq;dsimp only;rw[df (by omega)]
    have hL2:qds L (ew w o') ((ew w o').length:Int) [] [] [] x 0=some (qmc (fun i=>((((ew w o').getD i ae.z).2.1,((ew w o').getD i ae.z).2.2.1,L,()),(0:Int))) (kz (fun p:iu=>inB L x p.2.1) (ew w o'))):=by
     refine jl (ew w o') ae.z (fun p:iu=>inB L x p.2.1) _ (by omega) (fun i hi=> ?_) ?_
     ·have hm:=c0 (hEm _ (aw ae.z hi));unfold vx;rw[cj (by omega),ao (by omega) (by omega),ao (by omega) (by omega)];simp only[Int.toNat_natCast];rw[jff L x _ (by omega) hLen,ah];cases inB L x ((ew w o').getD i ae.z).2.1 with
      |true=>rw[cond_true,qde _ (by omega),ah,hL1,ah,lq];rfl
      |false=>rw[cond_false,ci (by omega) (by omega),aj];rfl
     ·unfold vx;rw[df (by omega)]
    rw[hL2,ah];cases hf:kz (fun p:iu=>inB L x p.2.1) (ew w o')with
    |none=>exact .inl ⟨fun p hp=>zw hf p hp,rfl⟩
    |some i=>
     obtain⟨k1,k2,_⟩:=zx ae.z hf;exact .inr ⟨_,aw ae.z k1,k2,rfl⟩
   ·have c3' :(20000:Int)<((X.length:Int)*(Y.length:Int)):=by
     rw[←Int.natCast_mul];omega
    rw[decide_eq_true c3',cond_true];exact .inl ⟨.inr (.inr (by omega)),rfl⟩
  ·rw[decide_eq_false (by omega),Bool.not_false,cond_true];exact .inl ⟨.inr (.inl (by omega)),rfl⟩
 ·rw[decide_eq_false (by omega),Bool.not_false,cond_true];exact .inl ⟨.inl (by omega),rfl⟩
theorem ja0{o:List iu}(hb:m4 new w M (M+1) 0 (first new)= .inl o){L:List Pr}{X Y:Ms}(hXm:rv old X)(hYm:rv new Y)(hG:Greatest old new (m8 X Y) L){p:iu}(hp:p∈ew w o)(hin:inB L x p.2.1=true)
  (w1:eb old=some true) (w2:eb new=some true) (hh:qdj old run=some (x,w)):Cert old new run (p.2.1,p.2.2.1,L,())∧p.2.2.1.length≤M+1:=by
 obtain⟨o',g1,g2,g3,g4⟩:=qyx ho hn vo vn hx hw hM hM1 hg;have hoo:o' =o:=by
  rcases g1 with g1|⟨g1,_⟩
  ·rw[hb]at g1;injection g1 with g1;exact g1.symm
  ·rw[hb]at g1;cases g1
 subst hoo;obtain⟨hpo,hpf⟩:=List.mem_filter.1 hp;obtain⟨hP,hPl⟩:=g3 p hpo;unfold qfv at hpf;rw[Bool.not_eq_true',decide_eq_false_iff_not]at hpf;have hk:p.1=(w.length:Int):=by have:=hP.k1;omega
 refine⟨⟨w1,w2,vo,vn,fun q hq=>qo0 hXm hYm q (hG.sub q hq),⟨x,w,o9 new p.2.2.1,hh,?_,?_,hin⟩,hG.hold⟩,hPl⟩
 ·unfold qdj;rw[if_pos (by show p.2.2.1.length≤1000;omega),show xl new p.2.2.1 (uv new)=some p.2.1 from hP.run];rfl
 ·have:=hP.word;rw[hk,Int.toNat_natCast,List.take_length]at this;exact this.symm
end
end Go.Proofs.Ytdhfhpdadbopkaa
