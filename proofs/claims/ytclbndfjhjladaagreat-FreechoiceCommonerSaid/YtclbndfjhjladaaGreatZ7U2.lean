/-
  Siphon: the greatest siphon, or trap, in a set; the law SiphonForms.
-/
import Derived.Test.YtclbndfjhjladaaGreatZ7U1
set_option linter.all false
namespace Go.Proofs.YtclbndfjhjladaaGreat
open Go.K Go.M
def jro(t:ab)(trap:Bool):List Int:=bif trap then t.2.1 else t.2.2.1
def jix(t:ab)(trap:Bool):List Int:=bif trap then t.2.2.1 else t.2.1
theorem jyp(t:ab)(trap:Bool):qrx t trap=some (jro t trap,jix t trap):=by
 unfold qrx jro jix;cases trap<;>rfl
def qwx(trap:Bool)(l:List Int)(t:ab):Bool:=qb1 (jro t trap) l&& !qb1 (jix t trap) l
def qwa(ts:List ab)(trap:Bool)(l:List Int):Bool:= !ts.any (qwx trap l)
structure SmallT (ts : List ab) : Prop where
 trans : ts.length ≤ 100
 ins : ∀ t ∈ ts, t.2.1.length ≤ 60
 outs : ∀ t ∈ ts, t.2.2.1.length ≤ 60
theorem Small.T{n:dj}(h:Small n):SmallT n.2.1:=⟨h.trans,h.ins,h.outs⟩
theorem SmallT.a{ts:List ab}(h:SmallT ts){t:ab}(ht:t∈ts)(trap:Bool):(jro t trap).length≤60:=by
 cases trap
 ·exact h.outs t ht
 ·exact h.ins t ht
theorem SmallT.b{ts:List ab}(h:SmallT ts){t:ab}(ht:t∈ts)(trap:Bool):(jix t trap).length≤60:=by
 cases trap
 ·exact h.ins t ht
 ·exact h.outs t ht
theorem j0g{n:dj}(h:SmallT n.2.1)(l:List Int)(hl:l.length≤1000000)(trap:Bool):qq5 n l trap=some (qwa n.2.1 trap l):=by
 have hL:l9 n.2.1 trap l (n.2.1.length:Int) 0=some (q38 (fun i=>(i:Int)) (zm (qwx trap l) n.2.1)):=by
  have:=h.trans;refine kq n.2.1 ab.z (qwx trap l) (fun i=>(i:Int)) (by omega) (fun i hi=> ?_) ?_
  ·have h1:=h.a (bm ab.z hi) trap;have h2:=h.b (bm ab.z hi) trap;have e:qhk (n.2.1.getD i ab.z) trap l=some (qwx trap l (n.2.1.getD i ab.z)):=by
    unfold qhk qwx;rw[jyp];simp only[ao];rw[jm2 _ _ (by omega) hl,jm2 _ _ (by omega) hl];simp only[ao];rw[show ix 0 1=true from rfl];cases qb1 (jro (n.2.1.getD i ab.z) trap) l<;>rfl
   simp(disch:=omega)only[dp,e,rs];rw[ar];exact q7b
  ·simp(disch:=omega)only[dp,rs]
 unfold qq5 fx gp qwa;rw[hL,ao,qbc,ao,ao,qfa]
def q9(ts:List ab)(trap:Bool)(W:List Int):Prop:=qwa ts trap W=true
theorem tq{a b:List Int}:qb1 a b=true↔∃p,p∈a∧p∈b:=by
 unfold qb1;rw[List.any_eq_true];constructor
 ·rintro⟨p,hp,h⟩;exact⟨p,hp,t3.1 h⟩
 ·rintro⟨p,hp,h⟩;exact⟨p,hp,t3.2 h⟩
theorem qd2{ts:List ab}{trap:Bool}{W:List Int}:q9 ts trap W↔∀t∈ts,(∃p,p∈jro t trap∧p∈W)→∃p,p∈jix t trap∧p∈W:=by
 unfold q9 qwa;rw[Bool.not_eq_true',List.any_eq_false];constructor
 ·intro h t ht hA;have:=h t ht;unfold qwx at this;rw[Bool.and_eq_true,Bool.not_eq_true',not_and]at this;have h2:=this (tq.2 hA);exact tq.1 (by simpa using h2)
 ·intro h t ht hc;unfold qwx at hc;rw[Bool.and_eq_true,Bool.not_eq_true']at hc;have:=tq.2 (h t ht (tq.1 hc.1));rw[hc.2]at this;cases this
def ja8(ts:List ab)(trap:Bool)(l out:List Int):Prop:=(∃p:Int→Bool,out=l.filter p)∧∀W,q9 ts trap W→(∀x∈W,x∈l)→∀x∈W,x∈out
def jle(ts:List ab)(trap:Bool)(l out:List Int):Prop:=ja8 ts trap l out∧q9 ts trap out
theorem jw0(ts:List ab)(trap:Bool)(l:List Int):ja8 ts trap l l:=⟨⟨fun _=>true,(List.filter_eq_self.2 fun _ _=>rfl).symm⟩,fun W _ h=>h⟩
theorem jry{ts:List ab}{trap:Bool}{l out:List Int}(h:ja8 ts trap l out){p:Int→Bool}(hp:∀W,q9 ts trap W→(∀x∈W,x∈out)→∀x∈W,p x=true):ja8 ts trap l (out.filter p):=by
 obtain⟨⟨q,rfl⟩,h2⟩:=h;refine⟨⟨fun x=>p x&&q x,by rw[List.filter_filter]⟩,fun W hW hl x hx=>List.mem_filter.2 ⟨h2 W hW hl x hx,hp W hW (h2 W hW hl) x hx⟩⟩
theorem jws{α:Type}{p:α→Bool}{x:α}(h:p x=false):[x].filter p=[]:=by rw[List.filter_cons,h];rfl
theorem j2x{α:Type}{p:α→Bool}{x:α}(h:p x=true):[x].filter p=[x]:=by rw[List.filter_cons,h];rfl
theorem jwl{α:Type}(xs:List α)(off n:Nat)(ys:List α)(h:off≤xs.length):(qc2 xs off n ys).take off=xs.take off:=by
 unfold qc2;have hl:(xs.take off).length=off:=by rw[List.length_take];omega
 rw[List.take_append_of_le_length (by omega),List.take_take,Nat.min_self]
theorem joq(a out:List Int)(ha:a.length≤1000000)(ho:out.length≤1000000):jy a out=some (out.filter fun p=> !u7 a p):=by
 have hg:∀p,t6 p a=some (u7 a p):=fun p=>by
  unfold t6;rw[qip a ha];rfl
 have hI:j6 out a=some (jr0 (u7 a) out):=by
  have hL:yl out a (out.length:Int) 0=some (q38 (fun i=>(i:Int)) (zm (u7 a) out)):=by
   refine kq out 0 (u7 a) (fun i=>(i:Int)) (by omega) (fun i hi=> ?_) ?_
   ·simp(disch:=omega)only[ip,hg,rs];rw[ar];exact q7b
   ·simp(disch:=omega)only[ip,rs]
  unfold j6;rw[hL,ao,qbc]
 unfold jy;rw[hI,ao];unfold jr0;cases hf:zm (u7 a) out with
 |none=>
  have:out.filter (fun p=> !u7 a p)=out:=List.filter_eq_self.2 fun x hx=>by rw[qyo hf x hx];rfl
  rw[this];rfl
 |some k=>
  obtain⟨k1,k2,k3⟩:=qyp 0 hf;have hne:decide ((k:Int)= -1)=false:=decide_eq_false (by omega);have hin:bc .i64 ((k:Int)+1)=true:=qwq (by omega) (by omega);simp only[hne,hin,cond_false,be];have hpre:(out.take (k+1)).filter (fun p=> !u7 a p)=out.take k:=by
   rw[j4 out k 0 k1,List.filter_append];have e1:(out.take k).filter (fun p=> !u7 a p)=out.take k:=List.filter_eq_self.2 fun x hx=>by
    obtain⟨j,hj,rfl⟩:=qrr 0 hx;have hj' :j<k:=by simp at hj;omega
    have e2:(out.take k).getD j 0=out.getD j 0:=by simp[List.getD_eq_getElem?_getD,List.getElem?_take,hj']
    rw[e2,k3 j hj'];rfl
   rw[e1,jws (p:=fun p=> !u7 a p) (by rw[k2];rfl),List.append_nil]
  have hloop:∃o,vy a ((k:Int),(k:Int)+1,out)=some o∧∃(i:Nat) (s:List Int),o= .inl ((i:Int),s)∧s.length=out.length∧i≤out.length∧s.take i=out.filter fun p=> !u7 a p:=by
   refine p6 (fun(st:Int×Int×List Int)=>∃i j:Nat,st.1=(i:Int)∧st.2.1=(j:Int)∧i<j∧j≤out.length∧st.2.2.length=out.length∧st.2.2.take i=(out.take j).filter (fun p=> !u7 a p)∧∀m,j≤m→st.2.2.getD m 0=out.getD m 0) (fun st=>((out.length:Int)-st.2.1).toNat)
    (fun(o:(Int×List Int)⊕List Int)=>∃(i:Nat) (s:List Int),o= .inl ((i:Int),s)∧s.length=out.length∧i≤out.length∧s.take i=out.filter fun p=> !u7 a p) _ ⟨k,k+1,rfl,ar k,by omega,by omega,rfl,hpre.symm,fun _ _=>rfl⟩ (by show((out.length:Int)-((k:Int)+1)).toNat<many;unfold many;omega) ?_
   rintro⟨_,_,s⟩ ⟨i,j,rfl,rfl,hij,hj,hsl,hst,hrest⟩;have hsl:s.length=out.length:=hsl;have hst:s.take i=(out.take j).filter (fun p=> !u7 a p):=hst;have hrest:∀m,j≤m→s.getD m 0=out.getD m 0:=hrest;by_cases hlt:j<out.length
   ·have hsj:=hrest j (Nat.le_refl j);cases hm:u7 a (out.getD j 0)with
    |true=>
     refine⟨.next ((i:Int),((j+1:Nat):Int),s),?_,⟨i,j+1,rfl,rfl,by omega,by omega,hsl,?_,fun m hm=>hrest m (by omega)⟩,by show((out.length:Int)-((j+1:Nat):Int)).toNat<((out.length:Int)-(j:Int)).toNat;omega⟩
     ·simp only[eq,Int.toNat_natCast,hsj,hg,hm,hsl];simp(disch:=omega)only[rs];rw[ar]
     ·show s.take i=_;rw[hst,j4 out j 0 hlt,List.filter_append,jws (p:=fun p=> !u7 a p) (by rw[hm];rfl),List.append_nil]
    |false=>
     refine⟨.next (((i+1:Nat):Int),((j+1:Nat):Int),s.set i (out.getD j 0)),?_,⟨i+1,j+1,rfl,rfl,by omega,by omega,by rw[List.length_set];exact hsl,?_,fun m hm=> ?_⟩,by show((out.length:Int)-((j+1:Nat):Int)).toNat<((out.length:Int)-(j:Int)).toNat;omega⟩
     ·simp only[eq,Int.toNat_natCast,hsj,hg,hm,hsl];simp(disch:=omega)only[rs];rw[ar,ar]
     ·show(s.set i (out.getD j 0)).take (i+1)=_;rw[j4 _ i 0 (by rw[List.length_set];omega),List.take_set_of_le (Nat.le_refl i),hst,j4 out j 0 hlt,List.filter_append];have e1:(s.set i (out.getD j 0)).getD i 0=out.getD j 0:=by
       rw[List.getD_eq_getElem?_getD,List.getElem?_set_self (by omega)];rfl
      rw[e1,j2x (p:=fun p=> !u7 a p) (by rw[hm];rfl)]
     ·show(s.set i (out.getD j 0)).getD m 0=_;rw[←hrest m (by omega),List.getD_eq_getElem?_getD,List.getElem?_set_ne (by omega),←List.getD_eq_getElem?_getD]
   ·obtain rfl:j=out.length:=by omega
    refine⟨.done ((i:Int),s),?_,i,s,rfl,hsl,by omega,by rw[hst,List.take_length]⟩;simp only[eq,hsl];simp(disch:=omega)only[rs]
  obtain⟨_,ho,i,s,rfl,hsl,hi,hst⟩:=hloop;rw[ho,ao,i6];simp only[Int.toNat_natCast,List.drop_zero,Int.toNat_zero,Nat.sub_zero];have hlen:(qc2 s i (s.length-i) (List.replicate (s.length-i) (0:Int))).length=s.length:=by
   unfold qc2;simp;omega
  rw[jwl s i _ _ (by omega),hst,hlen];simp(disch:=omega)only[rs]
def q7e(trap:Bool)(out:List Int)(t:ab):List Int:=bif qb1 (jix t trap) out then out else out.filter fun p=> !u7 (jro t trap) p
theorem jhq(trap:Bool)(out:List Int)(t:ab):(q7e trap out t).Sublist out:=by
 unfold q7e;cases qb1 (jix t trap) out
 ·exact List.filter_sublist
 ·exact List.Sublist.refl _
def qtj(trap:Bool)(ts:List ab)(out:List Int):List Int:=ts.foldl (q7e trap) out
theorem q7r(trap:Bool):∀(ts:List ab) (out:List Int),(qtj trap ts out).Sublist out
 |[],out=>List.Sublist.refl _
 |t::ts,out=>(q7r trap ts _).trans (jhq trap out t)
theorem jvk{ts:List ab}{trap:Bool}{l out:List Int}(h:ja8 ts trap l out){t:ab}(ht:t∈ts):ja8 ts trap l (q7e trap out t):=by
 unfold q7e;cases hm:qb1 (jix t trap) out with
 |true=>exact h
 |false=>
  refine jry h fun W hW hl x hx=> ?_
  cases hx2:u7 (jro t trap) x with
  |false=>rfl
  |true=>
   obtain⟨p,hp1,hp2⟩:=qd2.1 hW t ht ⟨x,t3.1 hx2,hx⟩;have:=tq.2 ⟨p,hp1,hl p hp2⟩;rw[hm]at this;cases this
theorem jif{ts:List ab}{trap:Bool}{l:List Int}:∀(r:List ab),(∀t∈r,t∈ts)→∀out,ja8 ts trap l out→ja8 ts trap l (qtj trap r out)
 |[],_,out,h=>h
 |t::r,hr,out,h=>jif r (fun t ht=>hr t (List.mem_cons_of_mem _ ht)) _ (jvk h (hr t List.mem_cons_self))
theorem jnj{trap:Bool}:∀(ts:List ab) (out0 out:List Int),out.Sublist out0→(∃t∈ts,qwx trap out0 t=true)→(qtj trap ts out).length<out0.length
 |[],_,_,_,⟨t,ht,_⟩=>by cases ht
 |t::ts,out0,out,hs,⟨u,hu,hop⟩=>by
  rcases List.mem_cons.1 hu with rfl|hu
  ·unfold qwx at hop;rw[Bool.and_eq_true,Bool.not_eq_true']at hop;obtain⟨p,hp1,hp2⟩:=tq.1 hop.1;have hs2:(qtj trap ts (q7e trap out u)).Sublist out0:=((q7r trap ts _).trans (jhq trap out u)).trans hs;have hno:p∉q7e trap out u:=by
    have hm:qb1 (jix u trap) out=false:=by
     cases hm:qb1 (jix u trap) out with
     |false=>rfl
     |true=>
      obtain⟨q,hq1,hq2⟩:=tq.1 hm;have:=tq.2 ⟨q,hq1,hs.subset hq2⟩;rw[hop.2]at this;cases this
    unfold q7e;rw[hm];intro hc;have:=(List.mem_filter.1 hc).2;rw[t3.2 hp1]at this;cases this
   have hle:=hs2.length_le;rcases Nat.lt_or_ge (qtj trap ts (q7e trap out u)).length out0.length with h|h
   ·exact h
   ·have e:=hs2.eq_of_length (by omega);rw[←e]at hp2;exact absurd ((q7r trap ts _).subset hp2) hno
  ·exact jnj ts out0 _ ((jhq trap out t).trans hs) ⟨u,hu,hop⟩
theorem jh7{n:dj}(h:SmallT n.2.1)(l:List Int)(hl:l.length≤1000000)(trap:Bool):∃G,tv n l trap=some G∧jle n.2.1 trap l G:=by
 have htr:=h.trans;have hL0:∀out:List Int,out.length≤1000000→qxc trap n.2.1 (n.2.1.length:Int) n.1 n.2.1 n.2.2.1 n.2.2.2.1 (0,out)=some (.inl (qtj trap n.2.1 out)):=fun out ho=>by
  have e:qtj trap n.2.1 out=qtj trap (n.2.1.take n.2.1.length) out:=by rw[List.take_length]
  rw[e];refine qfh (fun i:Nat=>((i:Int),qtj trap (n.2.1.take i) out)) n.2.1.length (fg (by omega)) _ (fun i hi=> ?_) ?_ _ rfl
  ·have h1:=h.a (bm ab.z hi) trap;have h2:=h.b (bm ab.z hi) trap;have h3:=(q7r trap (n.2.1.take i) out).length_le;have e1:=jm2 (jix (n.2.1.getD i ab.z) trap) (qtj trap (n.2.1.take i) out) (by omega) (by omega);have e2:=joq (jro (n.2.1.getD i ab.z) trap) (qtj trap (n.2.1.take i) out) (by omega) (by omega);have e3:qtj trap (n.2.1.take (i+1)) out=q7e trap (qtj trap (n.2.1.take i) out) (n.2.1.getD i ab.z):=by
    rw[j4 n.2.1 i ab.z hi];unfold qtj;rw[List.foldl_append];rfl
   rw[e3];unfold q7e;simp(disch:=omega)only[qbh,jyp,e1,e2,rs];rw[ar];cases qb1 (jix (n.2.1.getD i ab.z) trap) (qtj trap (n.2.1.take i) out)<;>rfl
  ·simp(disch:=omega)only[qbh,rs]
 have hC:cw l=some l:=by
  unfold cw qm;simp(disch:=omega)only[List.nil_append,rs]
 have hL1:∃o,qxd trap n.1 n.2.1 n.2.2.1 n.2.2.2.1 l=some o∧∃G,o= .inl G∧jle n.2.1 trap l G:=by
  refine p6 (fun(out:List Int)=>ja8 n.2.1 trap l out) (fun out=>out.length) (fun(o:List Int⊕List Int)=>∃G,o= .inl G∧jle n.2.1 trap l G) l (jw0 _ _ _) (fg (by omega)) ?_;intro out hh;have hol:out.length≤l.length:=by
   obtain⟨⟨p,rfl⟩,_⟩:=hh;exact List.length_filter_le _ _
  have e:((n.1,n.2.1,n.2.2.1,n.2.2.2.1,()):dj)=n:=rfl;have e1:=j0g h out (by omega) trap;cases hc:qwa n.2.1 trap out with
  |true=>
   rw[hc]at e1;exact⟨.done out,by simp(disch:=omega)only[qbi,e,e1,rs],out,rfl,hh,hc⟩
  |false=>
   rw[hc]at e1;refine⟨.next (qtj trap n.2.1 out),by simp(disch:=omega)only[qbi,e,e1,hL0 out (by omega),rs],jif n.2.1 (fun _ h=>h) out hh,?_⟩;unfold qwa at hc;simp only[Bool.not_eq_false']at hc;obtain⟨t,ht,hop⟩:=List.any_eq_true.1 hc;exact jnj n.2.1 out out (List.Sublist.refl _) ⟨t,ht,hop⟩
 obtain⟨_,ho,G,rfl,hG⟩:=hL1;refine⟨G,?_,hG⟩;unfold tv;rw[hC,ao,ho,ao,i6];cases G with
 |nil=>rfl
 |cons x G=>
  have:decide ((((x::G).length:Nat):Int)=0)=false:=decide_eq_false (by simp only[List.length_cons];omega);rw[this];rfl
end Go.Proofs.YtclbndfjhjladaaGreat
