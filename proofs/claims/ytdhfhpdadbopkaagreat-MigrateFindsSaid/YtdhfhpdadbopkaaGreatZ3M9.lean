/-
  Migrate: the positions of a word.
-/
import Derived.Test.YtdhfhpdadbopkaaGreatZ3M7
set_option linter.all false
namespace Go.Proofs.YtdhfhpdadbopkaaGreat
open Go.K Go.M
abbrev jk:Type:=ae
def dh(out:List jk)(k:Int)(m:List Int):Bool:=out.any fun p=>decide (p.1=k)&&decide (p.2.1=m)
theorem q0r{out:List jk}{k:Int}{m:List Int}:dh out k m=true↔∃p∈out,p.1=k∧p.2.1=m:=by
 unfold dh;rw[List.any_eq_true];simp only[Bool.and_eq_true,decide_eq_true_iff]
theorem qff(out:List jk)(p:jk)(k:Int)(m:List Int):dh (out++[p]) k m=((decide (p.1=k)&&decide (p.2.1=m))||dh out k m):=by
 unfold dh;rw[List.any_append,List.any_cons,List.any_nil,Bool.or_false,Bool.or_comm]
def qjm(n:a7)(w:List ByteArray)(k:Int)(t:Nat):Option Int:=
 bif qly n t then some k else bif decide (k<(w.length:Int))&&eqS (w.getD k.toNat ⟨#[]⟩) (mu n t)then some (k+1)else none
def jaq(n:a7)(w:List ByteArray)(x:jk)(t:Nat):Option jk:=
 bif tj n x.2.1 t then(qjm n w x.1 t).map fun k=>(k,(bm n x.2.1 t).2,x.2.2.1++[(t:Int)],())else none
def q5c(n:a7)(w:List ByteArray)(x:jk)(ts:List Nat):List jk:=ts.filterMap (jaq n w x)
abbrev uy(n:a7)(w:List ByteArray)(x:jk):List jk:=q5c n w x (List.range n.2.1.length)
def s6(M:Nat):List jk→List jk→List jk⊕List jk
 |out,[]=> .inl out
 |out,c::cs=>bif dh out c.1 c.2.1 then s6 M out cs else if out.length=M then .inr out else s6 M (out++[c]) cs
def pf(n:a7)(w:List ByteArray)(M:Nat):Nat→Nat→List jk→List jk⊕List jk
 |0,_,out=> .inl out
 |f+1,i,out=>if i<out.length then(match s6 M out (uy n w (out.getD i ae.z))with| .inl o=>pf n w M f (i+1) o| .inr o=> .inr o)else .inl out
theorem qid{M:Nat}{out:List jk}{c:jk}{cs:List jk}(h:dh out c.1 c.2.1=true):s6 M out (c::cs)=s6 M out cs:=by
 show(bif dh out c.1 c.2.1 then _ else _)=_;rw[h];rfl
theorem qnd{M:Nat}{out:List jk}{c:jk}{cs:List jk}(h:dh out c.1 c.2.1=false)(hl:out.length=M):s6 M out (c::cs)= .inr out:=by
 show(bif dh out c.1 c.2.1 then _ else _)=_;rw[h,cond_false,if_pos hl]
theorem qrh{M:Nat}{out:List jk}{c:jk}{cs:List jk}(h:dh out c.1 c.2.1=false)(hl:¬out.length=M):s6 M out (c::cs)=s6 M (out++[c]) cs:=by
 show(bif dh out c.1 c.2.1 then _ else _)=_;rw[h,cond_false,if_neg hl]
theorem qaq{M:Nat}:∀{cs out:List jk},out.length≤M→∃o,(s6 M out cs= .inl o∨s6 M out cs= .inr o∧o.length=M)∧o.length≤M∧out.length≤o.length∧(∀j,j<out.length→o.getD j ae.z=out.getD j ae.z)∧(∀p∈o,p∈out∨p∈cs)∧(∀k m,dh out k m=true→dh o k m=true)∧(s6 M out cs= .inl o→∀c∈cs,dh o c.1 c.2.1=true)
 |[],out,h=>⟨out, .inl rfl,h,Nat.le_refl _,fun _ _=>rfl,fun p hp=> .inl hp,fun _ _ h=>h,fun _ c hc=>by cases hc⟩
 |c::cs,out,h=>by
  cases hk:dh out c.1 c.2.1 with
  |true=>
   rw[qid hk];obtain⟨o,h1,h2,h3,h4,h5,h6,h7⟩:=qaq (cs:=cs) h;refine⟨o,h1,h2,h3,h4,fun p hp=>(h5 p hp).imp_right (List.mem_cons_of_mem _),h6,fun hi c' hc' => ?_⟩;rcases List.mem_cons.1 hc' with rfl|hc'
   ·exact h6 _ _ hk
   ·exact h7 hi c' hc'
  |false=>
   by_cases hl:out.length=M
   ·rw[qnd hk hl];exact⟨out, .inr ⟨rfl,hl⟩,h,Nat.le_refl _,fun _ _=>rfl,fun p hp=> .inl hp,fun _ _ h=>h,fun hi=>by cases hi⟩
   ·rw[qrh hk hl];have hlen:(out++[c]).length=out.length+1:=by simp
    obtain⟨o,h1,h2,h3,h4,h5,h6,h7⟩:=qaq (cs:=cs) (out:=out++[c]) (M:=M) (by omega);refine⟨o,h1,h2,by omega,fun j hj=> ?_,fun p hp=> ?_,fun k m hkm=>h6 k m (by rw[qff,hkm,Bool.or_true]),fun hi c' hc' => ?_⟩
    ·rw[h4 j (by omega),List.getD_eq_getElem?_getD,List.getD_eq_getElem?_getD,List.getElem?_append_left hj]
    ·rcases h5 p hp with hp|hp
     ·rcases List.mem_append.1 hp with hp|hp
      ·exact .inl hp
      ·exact .inr (by rw[List.mem_singleton.1 hp];exact List.mem_cons_self)
     ·exact .inr (List.mem_cons_of_mem _ hp)
    ·rcases List.mem_cons.1 hc' with rfl|hc'
     ·exact h6 _ _ (by rw[qff,decide_eq_true rfl,decide_eq_true rfl];rfl)
     ·exact h7 hi c' hc'
theorem q9n{n:a7}{w:List ByteArray}{M:Nat}{Q:jk→Prop}(hQ:∀x,Q x→∀c∈uy n w x,Q c):∀(f i:Nat) (out:List jk),out.length≤M→(∀p∈out,Q p)→
  ∃o,(pf n w M f i out= .inl o∨pf n w M f i out= .inr o∧o.length=M)∧o.length≤M∧(∀p∈o,Q p)∧(∀k m,dh out k m=true→dh o k m=true)∧(0<out.length→0<o.length)
 |0,i,out,h,hq=>⟨out, .inl rfl,h,hq,fun _ _ h=>h,id⟩
 |f+1,i,out,h,hq=>by
  unfold pf;by_cases hi:i<out.length
  ·rw[if_pos hi];obtain⟨o,h1,h2,h3,h4,h5,h6,h7⟩:=qaq (cs:=uy n w (out.getD i ae.z)) h;have hqo:∀p∈o,Q p:=fun p hp=>(h5 p hp).elim (hq p) (hQ _ (hq _ (au ae.z hi)) p)
   rcases h1 with h1|⟨h1,h8⟩
   ·rw[h1];obtain⟨o',g1,g2,g3,g4,g5⟩:=q9n hQ f (i+1) o h2 hqo;exact⟨o',g1,g2,g3,fun k m hk=>g4 k m (h6 k m hk),fun hp=>g5 (by omega)⟩
   ·rw[h1];exact⟨o, .inr ⟨rfl,h8⟩,h2,hqo,h6,fun hp=>by omega⟩
  ·rw[if_neg hi];exact⟨out, .inl rfl,h,hq,fun _ _ h=>h,id⟩
theorem q57(n:a7)(t:Int):∀(l m:List Int),qb5 n (l++[t]) m=(qb5 n l m).bind fun x=>if(j4 n x t).1=0 then some (j4 n x t).2 else none
 |[],m=>rfl
 |t' ::l,m=>by
  show(if(j4 n m t').1=0 then qb5 n (l++[t]) (j4 n m t').2 else none)=(if(j4 n m t').1=0 then qb5 n l (j4 n m t').2 else none).bind _;by_cases h:(j4 n m t').1=0
  ·rw[if_pos h,if_pos h];exact q57 n t l _
  ·rw[if_neg h,if_neg h];rfl
structure PosOK (n : a7) (w : List ByteArray) (p : jk) : Prop where
 k0 : 0 ≤ p.1
 k1 : p.1 ≤ (w.length : Int)
 run : qb5 n p.2.2.1 (qd1 n) = some p.2.1
 word : qxq (qam n p.2.2.1) (w.take p.1.toNat)
theorem qz3{n:a7}{w:List ByteArray}{x c:jk}:c∈uy n w x↔∃t,t<n.2.1.length∧tj n x.2.1 t=true∧∃k,qjm n w x.1 t=some k∧c=(k,(bm n x.2.1 t).2,x.2.2.1++[(t:Int)],()):=by
 unfold uy q5c;rw[List.mem_filterMap];constructor
 ·rintro⟨t,ht,h⟩;unfold jaq at h;cases ho:tj n x.2.1 t with
  |false=>rw[ho]at h;cases h
  |true=>
   rw[ho,cond_true]at h;cases hk:qjm n w x.1 t with
   |none=>rw[hk]at h;cases h
   |some k=>rw[hk]at h;cases h;exact⟨t,List.mem_range.1 ht,ho,k,hk,rfl⟩
 ·rintro⟨t,ht,ho,k,hk,rfl⟩;refine⟨t,List.mem_range.2 ht,?_⟩;unfold jaq;rw[ho,hk];rfl
theorem q1h{n:a7}{w:List ByteArray}{k k' :Int}{t:Nat}(h:qjm n w k t=some k'):(qly n t=true∧k' =k)∨(qly n t=false∧k<(w.length:Int)∧eqS (w.getD k.toNat ⟨#[]⟩) (mu n t)=true∧k' =k+1):=by
 unfold qjm at h;cases hn:qly n t with
 |true=>rw[hn]at h;cases h;exact .inl ⟨rfl,rfl⟩
 |false=>
  rw[hn,cond_false]at h;cases hc:(decide (k<(w.length:Int))&&eqS (w.getD k.toNat ⟨#[]⟩) (mu n t))with
  |false=>rw[hc]at h;cases h
  |true=>
   rw[hc]at h;rw[Bool.and_eq_true,decide_eq_true_iff]at hc;cases h;exact .inr ⟨rfl,hc.1,hc.2,rfl⟩
theorem jij{n:a7}{m:List Int}{t:Nat}(ht:t<n.2.1.length):j4 n m (t:Int)=bm n m t:=qra (by omega) (by omega)
theorem PosOK.next{n:a7}{w:List ByteArray}{x:jk}(h:PosOK n w x):∀c∈uy n w x,PosOK n w c:=fun c hc=>by
 obtain⟨t,ht,ho,k,hk,rfl⟩:=qz3.1 hc;have hr:qb5 n (x.2.2.1++[(t:Int)]) (qd1 n)=some (bm n x.2.1 t).2:=by
  rw[q57,h.run,Option.bind_some,jij ht,if_pos (of_decide_eq_true ho)]
 have k0:=h.k0;have k1:=h.k1;rcases q1h hk with⟨g1,rfl⟩|⟨g1,g2,g3,rfl⟩
 ·refine⟨k0,k1,hr,?_⟩;show qxq (qam n (x.2.2.1++[(t:Int)])) _;rw[qi3,Int.toNat_natCast,if_pos g1];exact h.word
 ·refine⟨by show 0≤x.1+1;omega,by show x.1+1≤(w.length:Int);omega,hr,?_⟩;show qxq (qam n (x.2.2.1++[(t:Int)])) (w.take (x.1+1).toNat);have e:(x.1+1).toNat=x.1.toNat+1:=by omega
  have hw:=h.word;unfold qxq at hw⊢;rw[qi3,Int.toNat_natCast,if_neg (by rw[g1];simp),e,a8 w x.1.toNat ⟨#[]⟩ (by omega),List.map_append,List.map_append,hw];congr 1;show [ByteArray.toList (mu n t)]=[ByteArray.toList (w.getD x.1.toNat ⟨#[]⟩)];rw[(beq_iff_eq.1 g3:ByteArray.toList (w.getD x.1.toNat ⟨#[]⟩)=ByteArray.toList (mu n t))]
theorem PosOK.mark{n:a7}(h:Small n)(hv:bu n=true){w:List ByteArray}{p:jk}(hp:PosOK n w p):bq n.1 p.2.1=true:=qhh h hv (qep h hv _) hp.run
theorem PosOK.first(n:a7)(w:List ByteArray):PosOK n w (0,qd1 n,[],()):=⟨Int.le_refl _,by show(0:Int)≤_;omega,rfl,rfl⟩
end Go.Proofs.YtdhfhpdadbopkaaGreat
