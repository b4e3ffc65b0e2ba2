/-
  Siphon: the greatest siphon, or trap, in a set; the law SiphonForms.
-/
import Derived.Test.YtclbndfjhjladaaGreatZ6U1
set_option linter.all false
namespace Go.Proofs.YtclbndfjhjladaaGreat
open Go.K Go.M
def jmg(t:ab)(trap:Bool):List Int:=bif trap then t.2.1 else t.2.2.1
def jbm(t:ab)(trap:Bool):List Int:=bif trap then t.2.2.1 else t.2.1
theorem jvs(t:ab)(trap:Bool):qo2 t trap=some (jmg t trap,jbm t trap):=by
 unfold qo2 jmg jbm;cases trap<;>rfl
def qmj(trap:Bool)(l:List Int)(t:ab):Bool:=tk (jmg t trap) l&& !tk (jbm t trap) l
def qax(ts:List ab)(trap:Bool)(l:List Int):Bool:= !ts.any (qmj trap l)
structure SmallT (ts : List ab) : Prop where
 trans : ts.length ≤ 100
 ins : ∀ t ∈ ts, t.2.1.length ≤ 60
 outs : ∀ t ∈ ts, t.2.2.1.length ≤ 60
theorem Small.T{n:ff}(h:Small n):SmallT n.2.1:=⟨h.trans,h.ins,h.outs⟩
theorem SmallT.a{ts:List ab}(h:SmallT ts){t:ab}(ht:t∈ts)(trap:Bool):(jmg t trap).length≤60:=by
 cases trap
 ·exact h.outs t ht
 ·exact h.ins t ht
theorem SmallT.b{ts:List ab}(h:SmallT ts){t:ab}(ht:t∈ts)(trap:Bool):(jbm t trap).length≤60:=by
 cases trap
 ·exact h.ins t ht
 ·exact h.outs t ht
theorem jw7{n:ff}(h:SmallT n.2.1)(l:List Int)(hl:l.length≤1000000)(trap:Bool):qoc n l trap=some (qax n.2.1 trap l):=by
 have hL:li n.2.1 trap l (n.2.1.length:Int) 0=some (q6l (fun i=>(i:Int)) (qas (qmj trap l) n.2.1)):=by
  have:=h.trans;refine ny n.2.1 ab.z (qmj trap l) (fun i=>(i:Int)) (by omega) (fun i hi=> ?_) ?_
  ·have h1:=h.a (cr ab.z hi) trap;have h2:=h.b (cr ab.z hi) trap;have e:qfg (n.2.1.getD i ab.z) trap l=some (qmj trap l (n.2.1.getD i ab.z)):=by
    unfold qfg qmj;rw[jvs];simp only[ag];rw[jkk _ _ (by omega) hl,jkk _ _ (by omega) hl];simp only[ag];rw[show ix 0 1=true from rfl];cases tk (jmg (n.2.1.getD i ab.z) trap) l<;>rfl
   simp(disch:=omega)only[d8,e,ba,aj,ai,ar,ax,bc,a8,am,a7,al,az,ak,a9,ao,aq,af,ae,ag,au,ay,Int.toNat_natCast,decide_true];rw[bq];exact qw4
  ·simp(disch:=omega)only[d8,ba,aj,ai,ar,ax,bc,a8,am,a7,al,az,ak,a9,ao,aq,af,ae,ag,au,ay,Int.toNat_natCast,decide_true]
 unfold qoc f8 gm qax;rw[hL,ag,qiv,ag,ag,qny]
theorem q3t{n:ff}(h:SmallT n.2.1)(l:List Int)(hl:l.length≤1000000):ve n l=some (qax n.2.1 false l):=by
 have hL:qv6 l n.1 n.2.1 n.2.2.1 n.2.2.2.1 0=some (bif n.2.1.any (qmj false l)then .inr false else .inl ()):=by
  have:=h.trans;refine qb2 n.2.1 ab.z (qmj false l) false (by omega) (fun i hi=> ?_) ?_
  ·have h1:=h.ins _ (cr ab.z hi);have h2:=h.outs _ (cr ab.z hi);have e1:=q1i (n.2.1.getD i ab.z).2.2.1 l (by omega) hl;have e2:=q1i (n.2.1.getD i ab.z).2.1 l (by omega) hl;unfold qmj jmg jbm;simp(disch:=omega)only[qa6,e1,e2,ba,aj,ai,ar,ax,bc,a8,am,a7,al,az,ak,a9,ao,aq,af,ae,ag,au,ay,Int.toNat_natCast,decide_true];rw[bq];cases tk (n.2.1.getD i ab.z).2.2.1 l<;>cases tk (n.2.1.getD i ab.z).2.1 l<;>rfl
  ·simp(disch:=omega)only[qa6,ba,aj,ai,ar,ax,bc,a8,am,a7,al,az,ak,a9,ao,aq,af,ae,ag,au,ay,Int.toNat_natCast,decide_true]
 unfold ve qax;rw[hL,ag];cases n.2.1.any (qmj false l)<;>rfl
def jx5(t:ab):ab:=(t.1,t.2.2.1,t.2.1,())
def zck(n:ff):ff:=(n.1,n.2.1.map jx5,n.2.2.2.1,n.2.2.1,())
theorem jx6{ts:List ab}(h:SmallT ts):SmallT (ts.map jx5):=by
 refine⟨by rw[List.length_map];exact h.trans,fun t ht=> ?_,fun t ht=> ?_⟩
 ·obtain⟨u,hu,rfl⟩:=List.mem_map.1 ht;exact h.outs u hu
 ·obtain⟨u,hu,rfl⟩:=List.mem_map.1 ht;exact h.ins u hu
theorem jlq(ts:List ab)(l:List Int):qax (ts.map jx5) false l=qax ts true l:=by
 unfold qax;rw[List.any_map];rfl
theorem jtd{n:ff}(h:SmallT n.2.1):qn5 n=some (zck n):=by
 have hL:qzw n.1 n.2.1 n.2.2.1 n.2.2.2.1 0 [] 0 0 n.1 n.2.2.2.1 n.2.2.1 (0,[])=some (.inl (n.2.1.map jx5)):=by
  have:=h.trans;refine qa4 (fun i:Nat=>((i:Int),(n.2.1.take i).map jx5)) n.2.1.length (ic (by omega)) _ (fun i hi=> ?_) ?_ _ rfl
  ·have h1:=h.ins _ (cr ab.z hi);have h2:=h.outs _ (cr ab.z hi);have hl:((n.2.1.take i).map jx5).length=i:=by rw[List.length_map,List.length_take];omega
   simp only[qc5,hl,List.nil_append];simp(disch:=omega)only[ba,aj,ai,ar,ax,bc,a8,am,a7,al,az,ak,a9,ao,aq,af,ae,ag,au,ay,Int.toNat_natCast,decide_true];rw[bq,f5 n.2.1 i ab.z hi,List.map_append];rfl
  ·simp only[qc5,List.take_length];simp(disch:=omega)only[ba,aj,ai,ar,ax,bc,a8,am,a7,al,az,ak,a9,ao,aq,af,ae,ag,au,ay,Int.toNat_natCast,decide_true]
 unfold qn5;rw[hL,ag];rfl
def qdz(ts:List ab)(trap:Bool)(W:List Int):Prop:=qax ts trap W=true
theorem rl{a b:List Int}:tk a b=true↔∃p,p∈a∧p∈b:=by
 unfold tk;rw[List.any_eq_true];constructor
 ·rintro⟨p,hp,h⟩;exact⟨p,hp,va.1 h⟩
 ·rintro⟨p,hp,h⟩;exact⟨p,hp,va.2 h⟩
theorem qxb{ts:List ab}{trap:Bool}{W:List Int}:qdz ts trap W↔∀t∈ts,(∃p,p∈jmg t trap∧p∈W)→∃p,p∈jbm t trap∧p∈W:=by
 unfold qdz qax;rw[Bool.not_eq_true',List.any_eq_false];constructor
 ·intro h t ht hA;have:=h t ht;unfold qmj at this;rw[Bool.and_eq_true,Bool.not_eq_true',not_and]at this;have h2:=this (rl.2 hA);exact rl.1 (by simpa using h2)
 ·intro h t ht hc;unfold qmj at hc;rw[Bool.and_eq_true,Bool.not_eq_true']at hc;have:=rl.2 (h t ht (rl.1 hc.1));rw[hc.2]at this;cases this
def q1a(ts:List ab)(trap:Bool)(l out:List Int):Prop:=(∃p:Int→Bool,out=l.filter p)∧∀W,qdz ts trap W→(∀x∈W,x∈l)→∀x∈W,x∈out
def qun(ts:List ab)(trap:Bool)(l out:List Int):Prop:=q1a ts trap l out∧qdz ts trap out
theorem jpd{ts:List ab}{trap:Bool}{l a b:List Int}(ha:qun ts trap l a)(hb:qun ts trap l b):a=b:=by
 obtain⟨⟨⟨p,rfl⟩,ha2⟩,ha3⟩:=ha;obtain⟨⟨⟨q,rfl⟩,hb2⟩,hb3⟩:=hb;refine List.filter_congr fun x hx=> ?_
 have h1:=fun h=>hb2 _ ha3 (fun y hy=>(List.mem_filter.1 hy).1) x (List.mem_filter.2 ⟨hx,h⟩)
 have h2:=fun h=>ha2 _ hb3 (fun y hy=>(List.mem_filter.1 hy).1) x (List.mem_filter.2 ⟨hx,h⟩)
 rw[Bool.eq_iff_iff];exact⟨fun h=>(List.mem_filter.1 (h1 h)).2,fun h=>(List.mem_filter.1 (h2 h)).2⟩
theorem jjx(ts:List ab)(trap:Bool)(l:List Int):q1a ts trap l l:=⟨⟨fun _=>true,(List.filter_eq_self.2 fun _ _=>rfl).symm⟩,fun W _ h=>h⟩
theorem q8s{ts:List ab}{trap:Bool}{l out:List Int}(h:q1a ts trap l out){p:Int→Bool}(hp:∀W,qdz ts trap W→(∀x∈W,x∈out)→∀x∈W,p x=true):q1a ts trap l (out.filter p):=by
 obtain⟨⟨q,rfl⟩,h2⟩:=h;refine⟨⟨fun x=>p x&&q x,by rw[List.filter_filter]⟩,fun W hW hl x hx=>List.mem_filter.2 ⟨h2 W hW hl x hx,hp W hW (h2 W hW hl) x hx⟩⟩
theorem jty{α:Type}{p:α→Bool}{x:α}(h:p x=false):[x].filter p=[]:=by rw[List.filter_cons,h];rfl
theorem jzc{α:Type}{p:α→Bool}{x:α}(h:p x=true):[x].filter p=[x]:=by rw[List.filter_cons,h];rfl
theorem jts{α:Type}(xs:List α)(off n:Nat)(ys:List α)(h:off≤xs.length):(qay xs off n ys).take off=xs.take off:=by
 unfold qay;have hl:(xs.take off).length=off:=by rw[List.length_take];omega
 rw[List.take_append_of_le_length (by omega),List.take_take,Nat.min_self]
theorem jmb(a out:List Int)(ha:a.length≤1000000)(ho:out.length≤1000000):jq a out=some (out.filter fun p=> !ls a p):=by
 have hg:∀p,r0 p a=some (ls a p):=fun p=>by
  unfold r0;rw[qsg a ha];rfl
 have hI:jx out a=some (jxi (ls a) out):=by
  have hL:wg out a (out.length:Int) 0=some (q6l (fun i=>(i:Int)) (qas (ls a) out)):=by
   refine ny out 0 (ls a) (fun i=>(i:Int)) (by omega) (fun i hi=> ?_) ?_
   ·simp(disch:=omega)only[io,hg,ba,aj,ai,ar,ax,bc,a8,am,a7,al,az,ak,a9,ao,aq,af,ae,ag,au,ay,Int.toNat_natCast,decide_true];rw[bq];exact qw4
   ·simp(disch:=omega)only[io,ba,aj,ai,ar,ax,bc,a8,am,a7,al,az,ak,a9,ao,aq,af,ae,ag,au,ay,Int.toNat_natCast,decide_true]
  unfold jx;rw[hL,ag,qiv]
 unfold jq;rw[hI,ag];unfold jxi;cases hf:qas (ls a) out with
 |none=>
  have:out.filter (fun p=> !ls a p)=out:=List.filter_eq_self.2 fun x hx=>by rw[jbo hf x hx];rfl
  rw[this];rfl
 |some k=>
  obtain⟨k1,k2,k3⟩:=jbp 0 hf;have hne:decide ((k:Int)= -1)=false:=decide_eq_false (by omega);have hin:bz .i64 ((k:Int)+1)=true:=qsv (by omega) (by omega);simp only[hne,hin,cond_false,b7];have hpre:(out.take (k+1)).filter (fun p=> !ls a p)=out.take k:=by
   rw[f5 out k 0 k1,List.filter_append];have e1:(out.take k).filter (fun p=> !ls a p)=out.take k:=List.filter_eq_self.2 fun x hx=>by
    obtain⟨j,hj,rfl⟩:=qvu 0 hx;have hj' :j<k:=by simp at hj;omega
    have e2:(out.take k).getD j 0=out.getD j 0:=by simp[List.getD_eq_getElem?_getD,List.getElem?_take,hj']
    rw[e2,k3 j hj'];rfl
   rw[e1,jty (p:=fun p=> !ls a p) (by rw[k2];rfl),List.append_nil]
  have hloop:∃o,tu a ((k:Int),(k:Int)+1,out)=some o∧∃(i:Nat) (s:List Int),o= .inl ((i:Int),s)∧s.length=out.length∧i≤out.length∧s.take i=out.filter fun p=> !ls a p:=by
   refine ju (fun(st:Int×Int×List Int)=>∃i j:Nat,st.1=(i:Int)∧st.2.1=(j:Int)∧i<j∧j≤out.length∧st.2.2.length=out.length∧st.2.2.take i=(out.take j).filter (fun p=> !ls a p)∧∀m,j≤m→st.2.2.getD m 0=out.getD m 0) (fun st=>((out.length:Int)-st.2.1).toNat)
    (fun(o:(Int×List Int)⊕List Int)=>∃(i:Nat) (s:List Int),o= .inl ((i:Int),s)∧s.length=out.length∧i≤out.length∧s.take i=out.filter fun p=> !ls a p) _ ⟨k,k+1,rfl,bq k,by omega,by omega,rfl,hpre.symm,fun _ _=>rfl⟩ (by show((out.length:Int)-((k:Int)+1)).toNat<many;unfold many;omega) ?_
   rintro⟨_,_,s⟩ ⟨i,j,rfl,rfl,hij,hj,hsl,hst,hrest⟩;have hsl:s.length=out.length:=hsl;have hst:s.take i=(out.take j).filter (fun p=> !ls a p):=hst;have hrest:∀m,j≤m→s.getD m 0=out.getD m 0:=hrest;by_cases hlt:j<out.length
   ·have hsj:=hrest j (Nat.le_refl j);cases hm:ls a (out.getD j 0)with
    |true=>
     refine⟨.next ((i:Int),((j+1:Nat):Int),s),?_,⟨i,j+1,rfl,rfl,by omega,by omega,hsl,?_,fun m hm=>hrest m (by omega)⟩,by show((out.length:Int)-((j+1:Nat):Int)).toNat<((out.length:Int)-(j:Int)).toNat;omega⟩
     ·simp only[fb,Int.toNat_natCast,hsj,hg,hm,hsl];simp(disch:=omega)only[ba,aj,ai,ar,ax,bc,a8,am,a7,al,az,ak,a9,ao,aq,af,ae,ag,au,ay,Int.toNat_natCast,decide_true];rw[bq]
     ·show s.take i=_;rw[hst,f5 out j 0 hlt,List.filter_append,jty (p:=fun p=> !ls a p) (by rw[hm];rfl),List.append_nil]
    |false=>
     refine⟨.next (((i+1:Nat):Int),((j+1:Nat):Int),s.set i (out.getD j 0)),?_,⟨i+1,j+1,rfl,rfl,by omega,by omega,by rw[List.length_set];exact hsl,?_,fun m hm=> ?_⟩,by show((out.length:Int)-((j+1:Nat):Int)).toNat<((out.length:Int)-(j:Int)).toNat;omega⟩
     ·simp only[fb,Int.toNat_natCast,hsj,hg,hm,hsl];simp(disch:=omega)only[ba,aj,ai,ar,ax,bc,a8,am,a7,al,az,ak,a9,ao,aq,af,ae,ag,au,ay,Int.toNat_natCast,decide_true];rw[bq,bq]
     ·show(s.set i (out.getD j 0)).take (i+1)=_;rw[f5 _ i 0 (by rw[List.length_set];omega),List.take_set_of_le (Nat.le_refl i),hst,f5 out j 0 hlt,List.filter_append];have e1:(s.set i (out.getD j 0)).getD i 0=out.getD j 0:=by
       rw[List.getD_eq_getElem?_getD,List.getElem?_set_self (by omega)];rfl
      rw[e1,jzc (p:=fun p=> !ls a p) (by rw[hm];rfl)]
     ·show(s.set i (out.getD j 0)).getD m 0=_;rw[←hrest m (by omega),List.getD_eq_getElem?_getD,List.getElem?_set_ne (by omega),←List.getD_eq_getElem?_getD]
   ·obtain rfl:j=out.length:=by omega
    refine⟨.done ((i:Int),s),?_,i,s,rfl,hsl,by omega,by rw[hst,List.take_length]⟩;simp only[fb,hsl];simp(disch:=omega)only[ba,aj,ai,ar,ax,bc,a8,am,a7,al,az,ak,a9,ao,aq,af,ae,ag,au,ay,Int.toNat_natCast,decide_true]
  obtain⟨_,ho,i,s,rfl,hsl,hi,hst⟩:=hloop;rw[ho,ag,au];simp only[Int.toNat_natCast,List.drop_zero,Int.toNat_zero,Nat.sub_zero];have hlen:(qay s i (s.length-i) (List.replicate (s.length-i) (0:Int))).length=s.length:=by
   unfold qay;simp;omega
  rw[jts s i _ _ (by omega),hst,hlen];simp(disch:=omega)only[ba,aj,ai,ar,ax,bc,a8,am,a7,al,az,ak,a9,ao,aq,af,ae,ag,au,ay,Int.toNat_natCast,decide_true]
def q39(trap:Bool)(out:List Int)(t:ab):List Int:=bif tk (jbm t trap) out then out else out.filter fun p=> !ls (jmg t trap) p
theorem jep(trap:Bool)(out:List Int)(t:ab):(q39 trap out t).Sublist out:=by
 unfold q39;cases tk (jbm t trap) out
 ·exact List.filter_sublist
 ·exact List.Sublist.refl _
def qql(trap:Bool)(ts:List ab)(out:List Int):List Int:=ts.foldl (q39 trap) out
theorem q4k(trap:Bool):∀(ts:List ab) (out:List Int),(qql trap ts out).Sublist out
 |[],out=>List.Sublist.refl _
 |t::ts,out=>(q4k trap ts _).trans (jep trap out t)
theorem js2{ts:List ab}{trap:Bool}{l out:List Int}(h:q1a ts trap l out){t:ab}(ht:t∈ts):q1a ts trap l (q39 trap out t):=by
 unfold q39;cases hm:tk (jbm t trap) out with
 |true=>exact h
 |false=>
  refine q8s h fun W hW hl x hx=> ?_
  cases hx2:ls (jmg t trap) x with
  |false=>rfl
  |true=>
   obtain⟨p,hp1,hp2⟩:=qxb.1 hW t ht ⟨x,va.1 hx2,hx⟩;have:=rl.2 ⟨p,hp1,hl p hp2⟩;rw[hm]at this;cases this
theorem jfg{ts:List ab}{trap:Bool}{l:List Int}:∀(r:List ab),(∀t∈r,t∈ts)→∀out,q1a ts trap l out→q1a ts trap l (qql trap r out)
 |[],_,out,h=>h
 |t::r,hr,out,h=>jfg r (fun t ht=>hr t (List.mem_cons_of_mem _ ht)) _ (js2 h (hr t List.mem_cons_self))
theorem jkx{trap:Bool}:∀(ts:List ab) (out0 out:List Int),out.Sublist out0→(∃t∈ts,qmj trap out0 t=true)→(qql trap ts out).length<out0.length
 |[],_,_,_,⟨t,ht,_⟩=>by cases ht
 |t::ts,out0,out,hs,⟨u,hu,hop⟩=>by
  rcases List.mem_cons.1 hu with rfl|hu
  ·unfold qmj at hop;rw[Bool.and_eq_true,Bool.not_eq_true']at hop;obtain⟨p,hp1,hp2⟩:=rl.1 hop.1;have hs2:(qql trap ts (q39 trap out u)).Sublist out0:=((q4k trap ts _).trans (jep trap out u)).trans hs;have hno:p∉q39 trap out u:=by
    have hm:tk (jbm u trap) out=false:=by
     cases hm:tk (jbm u trap) out with
     |false=>rfl
     |true=>
      obtain⟨q,hq1,hq2⟩:=rl.1 hm;have:=rl.2 ⟨q,hq1,hs.subset hq2⟩;rw[hop.2]at this;cases this
    unfold q39;rw[hm];intro hc;have:=(List.mem_filter.1 hc).2;rw[va.2 hp1]at this;cases this
   have hle:=hs2.length_le;rcases Nat.lt_or_ge (qql trap ts (q39 trap out u)).length out0.length with h|h
   ·exact h
   ·have e:=hs2.eq_of_length (by omega);rw[←e]at hp2;exact absurd ((q4k trap ts _).subset hp2) hno
  ·exact jkx ts out0 _ ((jep trap out t).trans hs) ⟨u,hu,hop⟩
theorem je8{n:ff}(h:SmallT n.2.1)(l:List Int)(hl:l.length≤1000000)(trap:Bool):∃G,rq n l trap=some G∧qun n.2.1 trap l G:=by
 have htr:=h.trans;have hL0:∀out:List Int,out.length≤1000000→qth trap n.2.1 (n.2.1.length:Int) n.1 n.2.1 n.2.2.1 n.2.2.2.1 (0,out)=some (.inl (qql trap n.2.1 out)):=fun out ho=>by
  have e:qql trap n.2.1 out=qql trap (n.2.1.take n.2.1.length) out:=by rw[List.take_length]
  rw[e];refine qa4 (fun i:Nat=>((i:Int),qql trap (n.2.1.take i) out)) n.2.1.length (ic (by omega)) _ (fun i hi=> ?_) ?_ _ rfl
  ·have h1:=h.a (cr ab.z hi) trap;have h2:=h.b (cr ab.z hi) trap;have h3:=(q4k trap (n.2.1.take i) out).length_le;have e1:=jkk (jbm (n.2.1.getD i ab.z) trap) (qql trap (n.2.1.take i) out) (by omega) (by omega);have e2:=jmb (jmg (n.2.1.getD i ab.z) trap) (qql trap (n.2.1.take i) out) (by omega) (by omega);have e3:qql trap (n.2.1.take (i+1)) out=q39 trap (qql trap (n.2.1.take i) out) (n.2.1.getD i ab.z):=by
    rw[f5 n.2.1 i ab.z hi];unfold qql;rw[List.foldl_append];rfl
   rw[e3];unfold q39;simp(disch:=omega)only[zj,jvs,e1,e2,ba,aj,ai,ar,ax,bc,a8,am,a7,al,az,ak,a9,ao,aq,af,ae,ag,au,ay,Int.toNat_natCast,decide_true];rw[bq];cases tk (jbm (n.2.1.getD i ab.z) trap) (qql trap (n.2.1.take i) out)<;>rfl
  ·simp(disch:=omega)only[zj,ba,aj,ai,ar,ax,bc,a8,am,a7,al,az,ak,a9,ao,aq,af,ae,ag,au,ay,Int.toNat_natCast,decide_true]
 have hC:dh l=some l:=by
  unfold dh pf;simp(disch:=omega)only[List.nil_append,ba,aj,ai,ar,ax,bc,a8,am,a7,al,az,ak,a9,ao,aq,af,ae,ag,au,ay,Int.toNat_natCast,decide_true]
 have hL1:∃o,qti trap n.1 n.2.1 n.2.2.1 n.2.2.2.1 l=some o∧∃G,o= .inl G∧qun n.2.1 trap l G:=by
  refine ju (fun(out:List Int)=>q1a n.2.1 trap l out) (fun out=>out.length) (fun(o:List Int⊕List Int)=>∃G,o= .inl G∧qun n.2.1 trap l G) l (jjx _ _ _) (ic (by omega)) ?_;intro out hh;have hol:out.length≤l.length:=by
   obtain⟨⟨p,rfl⟩,_⟩:=hh;exact List.length_filter_le _ _
  have e:((n.1,n.2.1,n.2.2.1,n.2.2.2.1,()):ff)=n:=rfl;have e1:=jw7 h out (by omega) trap;cases hc:qax n.2.1 trap out with
  |true=>
   rw[hc]at e1;exact⟨.done out,by simp(disch:=omega)only[zk,e,e1,ba,aj,ai,ar,ax,bc,a8,am,a7,al,az,ak,a9,ao,aq,af,ae,ag,au,ay,Int.toNat_natCast,decide_true],out,rfl,hh,hc⟩
  |false=>
   rw[hc]at e1;refine⟨.next (qql trap n.2.1 out),by simp(disch:=omega)only[zk,e,e1,hL0 out (by omega),ba,aj,ai,ar,ax,bc,a8,am,a7,al,az,ak,a9,ao,aq,af,ae,ag,au,ay,Int.toNat_natCast,decide_true],jfg n.2.1 (fun _ h=>h) out hh,?_⟩;unfold qax at hc;simp only[Bool.not_eq_false']at hc;obtain⟨t,ht,hop⟩:=List.any_eq_true.1 hc;exact jkx n.2.1 out out (List.Sublist.refl _) ⟨t,ht,hop⟩
 obtain⟨_,ho,G,rfl,hG⟩:=hL1;refine⟨G,?_,hG⟩;unfold rq;rw[hC,ag,ho,ag,au];cases G with
 |nil=>rfl
 |cons x G=>
  have:decide ((((x::G).length:Nat):Int)=0)=false:=decide_eq_false (by simp only[List.length_cons];omega);rw[this];rfl
def okB(ts:List ab)(out:List Int)(x:Int):Bool:=ts.all fun t=> !ls t.2.2.1 x||tk t.2.1 out
theorem jae{n:ff}(h:SmallT n.2.1)(l:List Int)(hl:l.length≤1000000):∃G,qc7 n l=some G∧qun n.2.1 false l G:=by
 have htr:=h.trans;have hL0:∀(out kept:List Int) (i:Nat),out.length≤1000000→i<out.length→q3e out (i:Int) n.1 n.2.1 n.2.2.1 n.2.2.2.1 kept (true,0)=some (.inl (okB n.2.1 out (out.getD i 0))):=fun out kept i ho hi=>by
  have e:okB n.2.1 out (out.getD i 0)=okB (n.2.1.take n.2.1.length) out (out.getD i 0):=by rw[List.take_length]
  rw[e];refine qa4 (fun t:Nat=>(okB (n.2.1.take t) out (out.getD i 0),(t:Int))) n.2.1.length (ic (by omega)) _ (fun t ht=> ?_) ?_ _ rfl
  ·have h1:=h.ins _ (cr ab.z ht);have h2:=h.outs _ (cr ab.z ht);have e1:=joq (n.2.1.getD t ab.z).2.2.1 (by omega) (out.getD i 0);have e2:=q1i (n.2.1.getD t ab.z).2.1 out (by omega) ho;have e3:okB (n.2.1.take (t+1)) out (out.getD i 0)=(okB (n.2.1.take t) out (out.getD i 0)&&(!ls (n.2.1.getD t ab.z).2.2.1 (out.getD i 0)||tk (n.2.1.getD t ab.z).2.1 out)):=by
    unfold okB;rw[f5 n.2.1 t ab.z ht,List.all_append];simp
   rw[e3];simp(disch:=omega)only[qfa,e1,e2,ba,aj,ai,ar,ax,bc,a8,am,a7,al,az,ak,a9,ao,aq,af,ae,ag,au,ay,Int.toNat_natCast,decide_true];rw[bq];cases okB (n.2.1.take t) out (out.getD i 0)<;>cases ls (n.2.1.getD t ab.z).2.2.1 (out.getD i 0)<;>cases tk (n.2.1.getD t ab.z).2.1 out<;>rfl
  ·simp(disch:=omega)only[qfa,ba,aj,ai,ar,ax,bc,a8,am,a7,al,az,ak,a9,ao,aq,af,ae,ag,au,ay,Int.toNat_natCast,decide_true]
 have hL1:∀out:List Int,out.length≤1000000→q3f out n.1 n.2.1 n.2.2.1 n.2.2.2.1 (0,[])=some (.inl (out.filter (okB n.2.1 out))):=fun out ho=>by
  have e:out.filter (okB n.2.1 out)=(out.take out.length).filter (okB n.2.1 out):=by rw[List.take_length]
  rw[e];refine qa4 (fun i:Nat=>((i:Int),(out.take i).filter (okB n.2.1 out))) out.length (ic (by omega)) _ (fun i hi=> ?_) ?_ _ rfl
  ·have h3:((out.take i).filter (okB n.2.1 out)).length≤i:=Nat.le_trans (List.length_filter_le _ _) (by rw[List.length_take];omega);have e1:=hL0 out ((out.take i).filter (okB n.2.1 out)) i ho hi;have e3:(out.take (i+1)).filter (okB n.2.1 out)=(out.take i).filter (okB n.2.1 out)++(bif okB n.2.1 out (out.getD i 0)then [out.getD i 0]else []):=by
    rw[f5 out i 0 hi,List.filter_append];congr 1
   rw[e3];simp(disch:=omega)only[qfb,e1,ba,aj,ai,ar,ax,bc,a8,am,a7,al,az,ak,a9,ao,aq,af,ae,ag,au,ay,Int.toNat_natCast,decide_true];rw[bq];cases okB n.2.1 out (out.getD i 0)with
   |true=>rfl
   |false=>simp
  ·simp(disch:=omega)only[qfb,ba,aj,ai,ar,ax,bc,a8,am,a7,al,az,ak,a9,ao,aq,af,ae,ag,au,ay,Int.toNat_natCast,decide_true]
 have hL2:∃o,q3g n.1 n.2.1 n.2.2.1 n.2.2.2.1 l=some o∧∃G,o= .inr G∧qun n.2.1 false l G:=by
  refine ju (fun(out:List Int)=>q1a n.2.1 false l out) (fun out=>out.length) (fun(o:Unit⊕List Int)=>∃G,o= .inr G∧qun n.2.1 false l G) l (jjx _ _ _) (ic (by omega)) ?_;intro out hh;have hol:out.length≤l.length:=by
   obtain⟨⟨p,rfl⟩,_⟩:=hh;exact List.length_filter_le _ _
  have e1:=hL1 out (by omega);have hkept:q1a n.2.1 false l (out.filter (okB n.2.1 out)):=by
   refine q8s hh fun W hW hl x hx=> ?_
   unfold okB;rw[List.all_eq_true];intro t ht;cases hm:ls t.2.2.1 x with
   |false=>rfl
   |true=>
    obtain⟨p,hp1,hp2⟩:=qxb.1 hW t ht ⟨x,va.1 hm,hx⟩;have:=rl.2 ⟨p,hp1,hl p hp2⟩;exact this
  by_cases hlen:(out.filter (okB n.2.1 out)).length=out.length
  ·have e:out.filter (okB n.2.1 out)=out:=List.filter_sublist.eq_of_length hlen;refine⟨.ret (out.filter (okB n.2.1 out)),?_,_,rfl,hkept,?_⟩
   ·have:decide (((out.filter (okB n.2.1 out)).length:Int)=(out.length:Int))=true:=decide_eq_true (by omega);simp(disch:=omega)only[qfc,e1,this,ba,aj,ai,ar,ax,bc,a8,am,a7,al,az,ak,a9,ao,aq,af,ae,ag,au,ay,Int.toNat_natCast,decide_true]
   ·rw[e,qxb];rintro t ht ⟨p,hp1,hp2⟩;have hok:=(List.filter_eq_self.1 e) p hp2;unfold okB at hok;have:=List.all_eq_true.1 hok t ht;have hm:ls t.2.2.1 p=true:=va.2 hp1;rw[hm]at this;have h3:tk t.2.1 out=true:=by simpa using this
    exact rl.1 h3
  ·have hlt:=List.length_filter_le (okB n.2.1 out) out;refine⟨.next (out.filter (okB n.2.1 out)),?_,hkept,by omega⟩;have:decide (((out.filter (okB n.2.1 out)).length:Int)=(out.length:Int))=false:=decide_eq_false (by omega);simp(disch:=omega)only[qfc,e1,this,ba,aj,ai,ar,ax,bc,a8,am,a7,al,az,ak,a9,ao,aq,af,ae,ag,au,ay,Int.toNat_natCast,decide_true]
 obtain⟨_,ho,G,rfl,hG⟩:=hL2;refine⟨G,?_,hG⟩;unfold qc7;rw[ho,ag,ay]
theorem jut{n:ff}(h:SmallT n.2.1)(l:List Int)(hl:l.length≤1000000):∃G,qm2 n l=some G∧qun n.2.1 true l G:=by
 obtain⟨G,h1,h2⟩:=jae (n:=zck n) (jx6 h) l hl;refine⟨G,?_,⟨h2.1.1,fun W hW=>h2.1.2 W ?_⟩,?_⟩
 ·unfold qm2;rw[jtd h,ag,h1];rfl
 ·exact(jlq _ _).trans hW
 ·exact(jlq _ _).symm.trans h2.2
end Go.Proofs.YtclbndfjhjladaaGreat
