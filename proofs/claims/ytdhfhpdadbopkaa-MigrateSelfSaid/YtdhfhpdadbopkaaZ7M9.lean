/-
  Migrate: the positions of a word.
-/
import Derived.Test.YtdhfhpdadbopkaaZ7M8
set_option linter.all false
namespace Go.Proofs.Ytdhfhpdadbopkaa
open Go.K Go.M
abbrev iu:Type:=ae
def ct(out:List iu)(k:Int)(m:List Int):Bool:=out.any fun p=>decide (p.1=k)&&decide (p.2.1=m)
theorem qdl{out:List iu}{k:Int}{m:List Int}:ct out k m=true↔∃p∈out,p.1=k∧p.2.1=m:=by
 unfold ct;rw[List.any_eq_true];simp only[Bool.and_eq_true,decide_eq_true_iff]
theorem qev(out:List iu)(p:iu)(k:Int)(m:List Int):ct (out++[p]) k m=((decide (p.1=k)&&decide (p.2.1=m))||ct out k m):=by
 unfold ct;rw[List.any_append,List.any_cons,List.any_nil,Bool.or_false,Bool.or_comm]
def qcs(n:az)(w:List ByteArray)(k:Int)(t:Nat):Option Int:=
 bif qhv n t then some k else bif decide (k<(w.length:Int))&&eqS (w.getD k.toNat ⟨#[]⟩) (ns n t)then some (k+1)else none
def q6r(n:az)(w:List ByteArray)(x:iu)(t:Nat):Option iu:=
 bif xc n x.2.1 t then(qcs n w x.1 t).map fun k=>(k,(bj n x.2.1 t).2,x.2.2.1++[(t:Int)],())else none
def q1t(n:az)(w:List ByteArray)(x:iu)(ts:List Nat):List iu:=ts.filterMap (q6r n w x)
abbrev rx(n:az)(w:List ByteArray)(x:iu):List iu:=q1t n w x (List.range n.2.1.length)
def s8(M:Nat):List iu→List iu→List iu⊕List iu
 |out,[]=> .inl out
 |out,c::cs=>bif ct out c.1 c.2.1 then s8 M out cs else if out.length=M then .inr out else s8 M (out++[c]) cs
def m4(n:az)(w:List ByteArray)(M:Nat):Nat→Nat→List iu→List iu⊕List iu
 |0,_,out=> .inl out
 |f+1,i,out=>if i<out.length then(match s8 M out (rx n w (out.getD i ae.z))with| .inl o=>m4 n w M f (i+1) o| .inr o=> .inr o)else .inl out
theorem qhm{M:Nat}{out:List iu}{c:iu}{cs:List iu}(h:ct out c.1 c.2.1=true):s8 M out (c::cs)=s8 M out cs:=by
 show(bif ct out c.1 c.2.1 then _ else _)=_;rw[h];rfl
theorem qlz{M:Nat}{out:List iu}{c:iu}{cs:List iu}(h:ct out c.1 c.2.1=false)(hl:out.length=M):s8 M out (c::cs)= .inr out:=by
 show(bif ct out c.1 c.2.1 then _ else _)=_;rw[h,cond_false,if_pos hl]
theorem qpw{M:Nat}{out:List iu}{c:iu}{cs:List iu}(h:ct out c.1 c.2.1=false)(hl:¬out.length=M):s8 M out (c::cs)=s8 M (out++[c]) cs:=by
 show(bif ct out c.1 c.2.1 then _ else _)=_;rw[h,cond_false,if_neg hl]
theorem v7{M:Nat}:∀{cs out:List iu},out.length≤M→∃o,(s8 M out cs= .inl o∨s8 M out cs= .inr o∧o.length=M)∧o.length≤M∧out.length≤o.length∧(∀j,j<out.length→o.getD j ae.z=out.getD j ae.z)∧(∀p∈o,p∈out∨p∈cs)∧(∀k m,ct out k m=true→ct o k m=true)∧(s8 M out cs= .inl o→∀c∈cs,ct o c.1 c.2.1=true)
 |[],out,h=>⟨out, .inl rfl,h,Nat.le_refl _,fun _ _=>rfl,fun p hp=> .inl hp,fun _ _ h=>h,fun _ c hc=>by cases hc⟩
 |c::cs,out,h=>by
  cases hk:ct out c.1 c.2.1 with
  |true=>
   rw[qhm hk];obtain⟨o,h1,h2,h3,h4,h5,h6,h7⟩:=v7 (cs:=cs) h;refine⟨o,h1,h2,h3,h4,fun p hp=>(h5 p hp).imp_right (List.mem_cons_of_mem _),h6,fun hi c' hc' => ?_⟩;rcases List.mem_cons.1 hc' with rfl|hc'
   ·exact h6 _ _ hk
   ·exact h7 hi c' hc'
  |false=>
   by_cases hl:out.length=M
   ·rw[qlz hk hl];exact⟨out, .inr ⟨rfl,hl⟩,h,Nat.le_refl _,fun _ _=>rfl,fun p hp=> .inl hp,fun _ _ h=>h,fun hi=>by cases hi⟩
   ·rw[qpw hk hl];have hlen:(out++[c]).length=out.length+1:=by simp
    obtain⟨o,h1,h2,h3,h4,h5,h6,h7⟩:=v7 (cs:=cs) (out:=out++[c]) (M:=M) (by omega);refine⟨o,h1,h2,by omega,fun j hj=> ?_,fun p hp=> ?_,fun k m hkm=>h6 k m (by rw[qev,hkm,Bool.or_true]),fun hi c' hc' => ?_⟩
    ·rw[h4 j (by omega),List.getD_eq_getElem?_getD,List.getD_eq_getElem?_getD,List.getElem?_append_left hj]
    ·rcases h5 p hp with hp|hp
     ·rcases List.mem_append.1 hp with hp|hp
      ·exact .inl hp
      ·exact .inr (by rw[List.mem_singleton.1 hp];exact List.mem_cons_self)
     ·exact .inr (List.mem_cons_of_mem _ hp)
    ·rcases List.mem_cons.1 hc' with rfl|hc'
     ·exact h6 _ _ (by rw[qev,decide_eq_true rfl,decide_eq_true rfl];rfl)
     ·exact h7 hi c' hc'
theorem q5s{n:az}{w:List ByteArray}{M:Nat}{Q:iu→Prop}(hQ:∀x,Q x→∀c∈rx n w x,Q c):∀(f i:Nat) (out:List iu),out.length≤M→(∀p∈out,Q p)→
  ∃o,(m4 n w M f i out= .inl o∨m4 n w M f i out= .inr o∧o.length=M)∧o.length≤M∧(∀p∈o,Q p)∧(∀k m,ct out k m=true→ct o k m=true)∧(0<out.length→0<o.length)
 |0,i,out,h,hq=>⟨out, .inl rfl,h,hq,fun _ _ h=>h,id⟩
 |f+1,i,out,h,hq=>by
  unfold m4;by_cases hi:i<out.length
  ·rw[if_pos hi];obtain⟨o,h1,h2,h3,h4,h5,h6,h7⟩:=v7 (cs:=rx n w (out.getD i ae.z)) h;have hqo:∀p∈o,Q p:=fun p hp=>(h5 p hp).elim (hq p) (hQ _ (hq _ (aw ae.z hi)) p)
   rcases h1 with h1|⟨h1,h8⟩
   ·rw[h1];obtain⟨o',g1,g2,g3,g4,g5⟩:=q5s hQ f (i+1) o h2 hqo;exact⟨o',g1,g2,g3,fun k m hk=>g4 k m (h6 k m hk),fun hp=>g5 (by omega)⟩
   ·rw[h1];exact⟨o, .inr ⟨rfl,h8⟩,h2,hqo,h6,fun hp=>by omega⟩
  ·rw[if_neg hi];exact⟨out, .inl rfl,h,hq,fun _ _ h=>h,id⟩
theorem qt1{n:az}{w:List ByteArray}{M:Nat}:∀(f i:Nat) (out o:List iu),M<f+i→out.length≤M→(∀j,j<i→j<out.length→∀c∈rx n w (out.getD j ae.z),ct out c.1 c.2.1=true)→m4 n w M f i out= .inl o→
  ∀x∈o,∀c∈rx n w x,ct o c.1 c.2.1=true
 |0,i,out,o,hf,hl,hc,hb,x,hx=>by
  obtain rfl:out=o:=by injection hb
  obtain⟨j,hj,rfl⟩:=je ae.z hx;exact hc j (by omega) hj
 |f+1,i,out,o,hf,hl,hc,hb,x,hx=>by
  unfold m4 at hb;by_cases hi:i<out.length
  ·rw[if_pos hi]at hb;obtain⟨o1,h1,h2,h3,h4,h5,h6,h7⟩:=v7 (cs:=rx n w (out.getD i ae.z)) hl;rcases h1 with h1|⟨h1,h8⟩
   ·rw[h1]at hb;refine qt1 f (i+1) o1 o (by omega) h2 (fun j hj hjl c hcm=> ?_) hb x hx;by_cases hji:j=i
    ·subst hji;rw[h4 j hi]at hcm;exact h7 h1 c hcm
    ·rw[h4 j (by omega)]at hcm;exact h6 _ _ (hc j (by omega) (by omega) c hcm)
   ·rw[h1]at hb;cases hb
  ·rw[if_neg hi]at hb;obtain rfl:out=o:=by injection hb
   obtain⟨j,hj,rfl⟩:=je ae.z hx;exact hc j (by omega) hj
theorem q2j(n:az)(t:Int):∀(l m:List Int),xl n (l++[t]) m=(xl n l m).bind fun x=>if(jo n x t).1=0 then some (jo n x t).2 else none
 |[],m=>rfl
 |t' ::l,m=>by
  show(if(jo n m t').1=0 then xl n (l++[t]) (jo n m t').2 else none)=(if(jo n m t').1=0 then xl n l (jo n m t').2 else none).bind _;by_cases h:(jo n m t').1=0
  ·rw[if_pos h,if_pos h];exact q2j n t l _
  ·rw[if_neg h,if_neg h];rfl
structure PosOK (n : az) (w : List ByteArray) (p : iu) : Prop where
 k0 : 0 ≤ p.1
 k1 : p.1 ≤ (w.length : Int)
 run : xl n p.2.2.1 (uv n) = some p.2.1
 word : qu3 (o9 n p.2.2.1) (w.take p.1.toNat)
theorem qjt{n:az}{w:List ByteArray}{x c:iu}:c∈rx n w x↔∃t,t<n.2.1.length∧xc n x.2.1 t=true∧∃k,qcs n w x.1 t=some k∧c=(k,(bj n x.2.1 t).2,x.2.2.1++[(t:Int)],()):=by
 unfold rx q1t;rw[List.mem_filterMap];constructor
 ·rintro⟨t,ht,h⟩;unfold q6r at h;cases ho:xc n x.2.1 t with
  |false=>rw[ho]at h;cases h
  |true=>
   rw[ho,cond_true]at h;cases hk:qcs n w x.1 t with
   |none=>rw[hk]at h;cases h
   |some k=>rw[hk]at h;cases h;exact⟨t,List.mem_range.1 ht,ho,k,hk,rfl⟩
 ·rintro⟨t,ht,ho,k,hk,rfl⟩;refine⟨t,List.mem_range.2 ht,?_⟩;unfold q6r;rw[ho,hk];rfl
theorem qye{n:az}{w:List ByteArray}{k k' :Int}{t:Nat}(h:qcs n w k t=some k'):(qhv n t=true∧k' =k)∨(qhv n t=false∧k<(w.length:Int)∧eqS (w.getD k.toNat ⟨#[]⟩) (ns n t)=true∧k' =k+1):=by
 unfold qcs at h;cases hn:qhv n t with
 |true=>rw[hn]at h;cases h;exact .inl ⟨rfl,rfl⟩
 |false=>
  rw[hn,cond_false]at h;cases hc:(decide (k<(w.length:Int))&&eqS (w.getD k.toNat ⟨#[]⟩) (ns n t))with
  |false=>rw[hc]at h;cases h
  |true=>
   rw[hc]at h;rw[Bool.and_eq_true,decide_eq_true_iff]at hc;cases h;exact .inr ⟨rfl,hc.1,hc.2,rfl⟩
theorem qyg{n:az}{m:List Int}{t:Nat}(ht:t<n.2.1.length):jo n m (t:Int)=bj n m t:=qpp (by omega) (by omega)
theorem PosOK.next{n:az}{w:List ByteArray}{x:iu}(h:PosOK n w x):∀c∈rx n w x,PosOK n w c:=fun c hc=>by
 obtain⟨t,ht,ho,k,hk,rfl⟩:=qjt.1 hc;have hr:xl n (x.2.2.1++[(t:Int)]) (uv n)=some (bj n x.2.1 t).2:=by
  rw[q2j,h.run,Option.bind_some,qyg ht,if_pos (of_decide_eq_true ho)]
 have k0:=h.k0;have k1:=h.k1;rcases qye hk with⟨g1,rfl⟩|⟨g1,g2,g3,rfl⟩
 ·refine⟨k0,k1,hr,?_⟩;show qu3 (o9 n (x.2.2.1++[(t:Int)])) _;rw[qib,Int.toNat_natCast,if_pos g1];exact h.word
 ·refine⟨by show 0≤x.1+1;omega,by show x.1+1≤(w.length:Int);omega,hr,?_⟩;show qu3 (o9 n (x.2.2.1++[(t:Int)])) (w.take (x.1+1).toNat);have e:(x.1+1).toNat=x.1.toNat+1:=by omega
  have hw:=h.word;unfold qu3 at hw⊢;rw[qib,Int.toNat_natCast,if_neg (by rw[g1];simp),e,bn w x.1.toNat ⟨#[]⟩ (by omega),List.map_append,List.map_append,hw];congr 1;show [ByteArray.toList (ns n t)]=[ByteArray.toList (w.getD x.1.toNat ⟨#[]⟩)];rw[(beq_iff_eq.1 g3:ByteArray.toList (w.getD x.1.toNat ⟨#[]⟩)=ByteArray.toList (ns n t))]
theorem PosOK.mark{n:az}(h:Small n)(hv:bv n=true){w:List ByteArray}{p:iu}(hp:PosOK n w p):bu n.1 p.2.1=true:=ql7 h hv (qd9 h hv _) hp.run
theorem PosOK.first(n:az)(w:List ByteArray):PosOK n w (0,uv n,[],()):=⟨Int.le_refl _,by show(0:Int)≤_;omega,rfl,rfl⟩
theorem qhy{n:az}{w:List ByteArray}{P:List iu}(hc:∀x∈P,∀c∈rx n w x,ct P c.1 c.2.1=true):∀(l:List Int) (k:Nat) (m y:List Int) (j:Nat),ct P (k:Int) m=true→xl n l m=some y→qu3 (o9 n l) ((w.drop k).take j)→k+j≤w.length→ct P ((k+j:Nat):Int) y=true
 |[],k,m,y,j,hk,hr,hw,hl=>by
  have:j=0:=by
   have:=congrArg List.length hw;rw[List.length_map,List.length_map,List.length_take,List.length_drop]at this;have e:(o9 n []).length=0:=rfl;omega
  subst this;cases hr;exact hk
 |t::l,k,m,y,j,hk,hr,hw,hl=>by
  unfold xl at hr;by_cases h0:(jo n m t).1=0
  ·rw[if_pos h0]at hr;obtain⟨t0,t1⟩:=qpq h0;obtain⟨u,rfl⟩:=Int.eq_ofNat_of_zero_le t0;have hu:u<n.2.1.length:=by omega
   rw[qyg hu]at hr h0;have hok:xc n m u=true:=decide_eq_true h0;obtain⟨x,hx,e1,e2⟩:=qdl.1 hk;by_cases hn:qhv n u=true
   ·have hw' :o9 n ((u:Int)::l)=o9 n l:=by
     unfold o9;rw[List.filter_cons];rw[if_neg (by rw[Int.toNat_natCast,hn];simp)]
    rw[hw']at hw;have hkn:qcs n w x.1 u=some x.1:=by unfold qcs;rw[hn];rfl
    have:=hc x hx _ (qjt.2 ⟨u,hu,by rw[e2];exact hok,_,hkn,rfl⟩);dsimp only at this;rw[e1,e2]at this;exact qhy hc l k _ y j this hr hw hl
   ·have hn' :qhv n u=false:=by simpa using hn
    have hw' :o9 n ((u:Int)::l)=ns n u::o9 n l:=by
     unfold o9;rw[List.filter_cons,if_pos (by rw[Int.toNat_natCast,hn'];rfl),List.map_cons,Int.toNat_natCast]
    rw[hw']at hw;cases j with
    |zero=>
     exfalso;have:=congrArg List.length hw;rw[List.length_map,List.length_map,List.length_take,List.length_cons]at this;omega
    |succ j=>
     have hkl:k<w.length:=by omega
     have hw:(ByteArray.toList (ns n u)::(o9 n l).map ByteArray.toList)=((w.drop k).take (j+1)).map ByteArray.toList:=hw;rw[List.drop_eq_getElem_cons hkl,List.take_succ_cons,List.map_cons]at hw;injection hw with hw1 hw2
     have hfit:eqS (w.getD k ⟨#[]⟩) (ns n u)=true:=by
      rw[mz w k _ hkl];exact beq_iff_eq.2 hw1.symm
     have hkn:qcs n w x.1 u=some (x.1+1):=by
      unfold qcs;rw[hn',e1,Int.toNat_natCast,hfit,decide_eq_true (by omega)];rfl
     have:=hc x hx _ (qjt.2 ⟨u,hu,by rw[e2];exact hok,_,hkn,rfl⟩);dsimp only at this;rw[e1,e2,aj]at this;have h9:=qhy hc l (k+1) _ y j this hr hw2 (by omega);have e:k+1+j=k+(j+1):=by omega
     rwa[e]at h9
  ·rw[if_neg h0]at hr;cases hr
end Go.Proofs.Ytdhfhpdadbopkaa
