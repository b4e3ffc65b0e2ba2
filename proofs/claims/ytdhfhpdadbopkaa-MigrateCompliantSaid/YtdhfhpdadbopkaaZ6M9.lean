/-
  Migrate: the positions of a word.
-/
import Derived.Test.YtdhfhpdadbopkaaZ6M8
set_option linter.all false
namespace Go.Proofs.Ytdhfhpdadbopkaa
open Go.K Go.M
abbrev m3:Type:=ab
def df(out:List m3)(k:Int)(m:List Int):Bool:=out.any fun p=>decide (p.1=k)&&decide (p.2.1=m)
theorem qvm{out:List m3}{k:Int}{m:List Int}:df out k m=true↔∃p∈out,p.1=k∧p.2.1=m:=by
 unfold df;rw[List.any_eq_true];simp only[Bool.and_eq_true,decide_eq_true_iff]
theorem qcg(out:List m3)(p:m3)(k:Int)(m:List Int):df (out++[p]) k m=((decide (p.1=k)&&decide (p.2.1=m))||df out k m):=by
 unfold df;rw[List.any_append,List.any_cons,List.any_nil,Bool.or_false,Bool.or_comm]
def qgs(n:az)(w:List ByteArray)(k:Int)(t:Nat):Option Int:=
 bif qml n t then some k else bif decide (k<(w.length:Int))&&eqS (w.getD k.toNat ⟨#[]⟩) (qdp n t)then some (k+1)else none
def q35(n:az)(w:List ByteArray)(x:m3)(t:Nat):Option m3:=
 bif okB n x.2.1 t then(qgs n w x.1 t).map fun k=>(k,(ek n x.2.1 t).2,x.2.2.1++[(t:Int)],())else none
def qzl(n:az)(w:List ByteArray)(x:m3)(ts:List Nat):List m3:=ts.filterMap (q35 n w x)
abbrev ud(n:az)(w:List ByteArray)(x:m3):List m3:=qzl n w x (List.range n.2.1.length)
def qa(M:Nat):List m3→List m3→List m3⊕List m3
 |out,[]=> .inl out
 |out,c::cs=>bif df out c.1 c.2.1 then qa M out cs else if out.length=M then .inr out else qa M (out++[c]) cs
def p0(n:az)(w:List ByteArray)(M:Nat):Nat→Nat→List m3→List m3⊕List m3
 |0,_,out=> .inl out
 |f+1,i,out=>if i<out.length then(match qa M out (ud n w (out.getD i ab.z))with| .inl o=>p0 n w M f (i+1) o| .inr o=> .inr o)else .inl out
theorem qfn{M:Nat}{out:List m3}{c:m3}{cs:List m3}(h:df out c.1 c.2.1=true):qa M out (c::cs)=qa M out cs:=by
 show(bif df out c.1 c.2.1 then _ else _)=_;rw[h];rfl
theorem qju{M:Nat}{out:List m3}{c:m3}{cs:List m3}(h:df out c.1 c.2.1=false)(hl:out.length=M):qa M out (c::cs)= .inr out:=by
 show(bif df out c.1 c.2.1 then _ else _)=_;rw[h,cond_false,if_pos hl]
theorem qnq{M:Nat}{out:List m3}{c:m3}{cs:List m3}(h:df out c.1 c.2.1=false)(hl:¬out.length=M):qa M out (c::cs)=qa M (out++[c]) cs:=by
 show(bif df out c.1 c.2.1 then _ else _)=_;rw[h,cond_false,if_neg hl]
theorem qa9{M:Nat}:∀{cs out:List m3},out.length≤M→∃o,(qa M out cs= .inl o∨qa M out cs= .inr o∧o.length=M)∧o.length≤M∧out.length≤o.length∧(∀j,j<out.length→o.getD j ab.z=out.getD j ab.z)∧(∀p∈o,p∈out∨p∈cs)∧(∀k m,df out k m=true→df o k m=true)∧(qa M out cs= .inl o→∀c∈cs,df o c.1 c.2.1=true)
 |[],out,h=>⟨out, .inl rfl,h,Nat.le_refl _,fun _ _=>rfl,fun p hp=> .inl hp,fun _ _ h=>h,fun _ c hc=>by cases hc⟩
 |c::cs,out,h=>by
  cases hk:df out c.1 c.2.1 with
  |true=>
   rw[qfn hk];obtain⟨o,h1,h2,h3,h4,h5,h6,h7⟩:=qa9 (cs:=cs) h;refine⟨o,h1,h2,h3,h4,fun p hp=>(h5 p hp).imp_right (List.mem_cons_of_mem _),h6,fun hi c' hc' => ?_⟩;rcases List.mem_cons.1 hc' with rfl|hc'
   ·exact h6 _ _ hk
   ·exact h7 hi c' hc'
  |false=>
   by_cases hl:out.length=M
   ·rw[qju hk hl];exact⟨out, .inr ⟨rfl,hl⟩,h,Nat.le_refl _,fun _ _=>rfl,fun p hp=> .inl hp,fun _ _ h=>h,fun hi=>by cases hi⟩
   ·rw[qnq hk hl];have hlen:(out++[c]).length=out.length+1:=by simp
    obtain⟨o,h1,h2,h3,h4,h5,h6,h7⟩:=qa9 (cs:=cs) (out:=out++[c]) (M:=M) (by omega);refine⟨o,h1,h2,by omega,fun j hj=> ?_,fun p hp=> ?_,fun k m hkm=>h6 k m (by rw[qcg,hkm,Bool.or_true]),fun hi c' hc' => ?_⟩
    ·rw[h4 j (by omega),List.getD_eq_getElem?_getD,List.getD_eq_getElem?_getD,List.getElem?_append_left hj]
    ·rcases h5 p hp with hp|hp
     ·rcases List.mem_append.1 hp with hp|hp
      ·exact .inl hp
      ·exact .inr (by rw[List.mem_singleton.1 hp];exact List.mem_cons_self)
     ·exact .inr (List.mem_cons_of_mem _ hp)
    ·rcases List.mem_cons.1 hc' with rfl|hc'
     ·exact h6 _ _ (by rw[qcg,decide_eq_true rfl,decide_eq_true rfl];rfl)
     ·exact h7 hi c' hc'
theorem q0a(n:az)(t:Int):∀(l m:List Int),zx n (l++[t]) m=(zx n l m).bind fun x=>if(i4 n x t).1=0 then some (i4 n x t).2 else none
 |[],m=>rfl
 |t' ::l,m=>by
  show(if(i4 n m t').1=0 then zx n (l++[t]) (i4 n m t').2 else none)=(if(i4 n m t').1=0 then zx n l (i4 n m t').2 else none).bind _;by_cases h:(i4 n m t').1=0
  ·rw[if_pos h,if_pos h];exact q0a n t l _
  ·rw[if_neg h,if_neg h];rfl
structure PosOK (n : az) (w : List ByteArray) (p : m3) : Prop where
 k0 : 0 ≤ p.1
 k1 : p.1 ≤ (w.length : Int)
 run : zx n p.2.2.1 (qdl n) = some p.2.1
 word : q4m (zd n p.2.2.1) (w.take p.1.toNat)
theorem qu1{n:az}{w:List ByteArray}{x c:m3}:c∈ud n w x↔∃t,t<n.2.1.length∧okB n x.2.1 t=true∧∃k,qgs n w x.1 t=some k∧c=(k,(ek n x.2.1 t).2,x.2.2.1++[(t:Int)],()):=by
 unfold ud qzl;rw[List.mem_filterMap];constructor
 ·rintro⟨t,ht,h⟩;unfold q35 at h;cases ho:okB n x.2.1 t with
  |false=>rw[ho]at h;cases h
  |true=>
   rw[ho,cond_true]at h;cases hk:qgs n w x.1 t with
   |none=>rw[hk]at h;cases h
   |some k=>rw[hk]at h;cases h;exact⟨t,List.mem_range.1 ht,ho,k,hk,rfl⟩
 ·rintro⟨t,ht,ho,k,hk,rfl⟩;refine⟨t,List.mem_range.2 ht,?_⟩;unfold q35;rw[ho,hk];rfl
theorem qwf{n:az}{w:List ByteArray}{k k' :Int}{t:Nat}(h:qgs n w k t=some k'):(qml n t=true∧k' =k)∨(qml n t=false∧k<(w.length:Int)∧eqS (w.getD k.toNat ⟨#[]⟩) (qdp n t)=true∧k' =k+1):=by
 unfold qgs at h;cases hn:qml n t with
 |true=>rw[hn]at h;cases h;exact .inl ⟨rfl,rfl⟩
 |false=>
  rw[hn,cond_false]at h;cases hc:(decide (k<(w.length:Int))&&eqS (w.getD k.toNat ⟨#[]⟩) (qdp n t))with
  |false=>rw[hc]at h;cases h
  |true=>
   rw[hc]at h;rw[Bool.and_eq_true,decide_eq_true_iff]at hc;cases h;exact .inr ⟨rfl,hc.1,hc.2,rfl⟩
theorem ja6{n:az}{m:List Int}{t:Nat}(ht:t<n.2.1.length):i4 n m (t:Int)=ek n m t:=qnl (by omega) (by omega)
theorem PosOK.next{n:az}{w:List ByteArray}{x:m3}(h:PosOK n w x):∀c∈ud n w x,PosOK n w c:=fun c hc=>by
 obtain⟨t,ht,ho,k,hk,rfl⟩:=qu1.1 hc;have hr:zx n (x.2.2.1++[(t:Int)]) (qdl n)=some (ek n x.2.1 t).2:=by
  rw[q0a,h.run,Option.bind_some,ja6 ht,if_pos (of_decide_eq_true ho)]
 have k0:=h.k0;have k1:=h.k1;rcases qwf hk with⟨g1,rfl⟩|⟨g1,g2,g3,rfl⟩
 ·refine⟨k0,k1,hr,?_⟩;show q4m (zd n (x.2.2.1++[(t:Int)])) _;rw[qf8,Int.toNat_natCast,if_pos g1];exact h.word
 ·refine⟨by show 0≤x.1+1;omega,by show x.1+1≤(w.length:Int);omega,hr,?_⟩;show q4m (zd n (x.2.2.1++[(t:Int)])) (w.take (x.1+1).toNat);have e:(x.1+1).toNat=x.1.toNat+1:=by omega
  have hw:=h.word;unfold q4m at hw⊢;rw[qf8,Int.toNat_natCast,if_neg (by rw[g1];simp),e,fp w x.1.toNat ⟨#[]⟩ (by omega),List.map_append,List.map_append,hw];congr 1;show [ByteArray.toList (qdp n t)]=[ByteArray.toList (w.getD x.1.toNat ⟨#[]⟩)];rw[(beq_iff_eq.1 g3:ByteArray.toList (w.getD x.1.toNat ⟨#[]⟩)=ByteArray.toList (qdp n t))]
theorem PosOK.mark{n:az}(h:Small n)(hv:cd n=true){w:List ByteArray}{p:m3}(hp:PosOK n w p):fa n.1 p.2.1=true:=qz9 h hv (qn9 h hv _) hp.run
theorem PosOK.first(n:az)(w:List ByteArray):PosOK n w (0,qdl n,[],()):=⟨Int.le_refl _,by show(0:Int)≤_;omega,rfl,rfl⟩
end Go.Proofs.Ytdhfhpdadbopkaa
