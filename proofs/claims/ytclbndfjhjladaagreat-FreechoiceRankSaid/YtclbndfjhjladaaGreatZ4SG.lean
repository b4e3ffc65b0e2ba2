/-
  Siphon: Minimal as the program gives it; the reference's bits and order.
-/
import Derived.Test.YtclbndfjhjladaaGreatZ4SF
set_option linter.all false
namespace Go.Proofs.YtclbndfjhjladaaGreat
open Go.K Go.M
section
variable (n : ca) (N : Nat) (hn : n.1 = (N : Int)) (hN : N ≤ 16) (hs : Small n) (hv : c6 n = true)
theorem jqi(N:Nat)(hN:N≤16)(s:Nat)(hs:s<2 ^ N)(v18:List Int)(v19 v20 a b c:Int)(ts:List af)(o:Rw):
  qmf (s:Int) v18 v19 v20 (N:Int) a ts b c o (0,[])=some (.inl (bq N s)):=by
 have h16:2 ^ N≤2 ^ 16:=Nat.pow_le_pow_right (by omega) hN;refine a9 (fun i:Nat=>((i:Int),bq i s)) N (aw (by omega)) _ (fun i hi=> ?_) ?_ _ rfl
 ·have e1:=j5s s i (by omega) (by omega);have e2:=q2z i s;have hl:=qdx i s;have h0:(0:Int)≤(i:Int):=by omega
  cases hb:s.testBit i with
  |true=>
   rw[hb]at e1 e2;rw[e2];simp only[ma,e1];simp(disch:=omega)only[rs];rw[ag];rfl
  |false=>
   rw[hb]at e1 e2;rw[e2];simp only[ma,e1];simp(disch:=omega)only[rs];rw[ag];rfl
 ·simp(disch:=omega)only[ma,rs]
include hn hN hs hv
noncomputable def ic(n:ca)(N:Nat):Rw:=(m7 n N (2 ^ N)).map (bq N)
omit hn hN hs hv in
theorem jsa(n:ca)(N s:Nat):(m7 n N s).length≤s:=by
 have:=List.length_filter_le (qz3 n N) (List.range s);rw[List.length_range]at this;exact this
omit hn hN hs hv in
theorem jb1(n:ca)(N:Nat):∀s,(m7 n N (s+1)).length≤s
 |0=>by
  rw[qg8];exact Nat.le_refl 0
 |s+1=>by
  have:=jb1 n N s;rw[qg8];cases qz3 n N (s+1)with
  |false=>exact Nat.le_succ_of_le this
  |true=>simp only[cond_true,List.length_append,List.length_cons,List.length_nil];omega
omit hn hs hv in
theorem j1j:ShR (ic n N):=by
 intro i;by_cases h:i<(ic n N).length
 ·have hm:=ao (l:=ic n N) [] h;unfold ic at hm;obtain⟨k,_,hk⟩:=List.mem_map.1 hm;unfold ic;rw[←hk];have:=qdx N k;omega
 ·rw[List.getD_eq_getElem?_getD,List.getElem?_eq_none (by omega)];show(0:Nat)≤_;omega
theorem jux(a:Int)(ts:List af)(b c:Int):qmg ((m7 n N (2 ^ N)).map fun(k:Nat)=>(k:Int)) (((m7 n N (2 ^ N)).map fun(k:Nat)=>(k:Int)).length:Int) n.1 ts b c (0,[])=some (.inl (ic n N)):=by
 have h16:2 ^ N≤2 ^ 16:=Nat.pow_le_pow_right (by omega) hN;have hfl:=jsa n N (2 ^ N);have hlen:((m7 n N (2 ^ N)).map fun(k:Nat)=>(k:Int)).length=(m7 n N (2 ^ N)).length:=List.length_map ..;have e:ic n N=((m7 n N (2 ^ N)).take (m7 n N (2 ^ N)).length).map (bq N):=by rw[List.take_length];rfl
 rw[e,hlen,hn];refine a9 (fun i:Nat=>((i:Int),((m7 n N (2 ^ N)).take i).map (bq N))) (m7 n N (2 ^ N)).length (aw (by omega)) _ (fun i hi=> ?_) ?_ _ rfl
 ·have hg:=jcs (m7 n N (2 ^ N)) (fun(k:Nat)=>(k:Int)) 0 i hi;have hk:(m7 n N (2 ^ N)).getD i 0<2 ^ N:=by
   have hm:=ao (l:=m7 n N (2 ^ N)) 0 hi;unfold m7 at hm;exact List.mem_range.1 (List.mem_filter.1 hm).1
  have e1:=jqi N hN ((m7 n N (2 ^ N)).getD i 0) hk ((m7 n N (2 ^ N)).map fun(k:Nat)=>(k:Int)) ((m7 n N (2 ^ N)).length:Int) (i:Int) (N:Int) b c ts (((m7 n N (2 ^ N)).take i).map (bq N));have hl:(((m7 n N (2 ^ N)).take i).map (bq N)).length=i:=by rw[List.length_map,List.length_take];omega
  rw[ct (m7 n N (2 ^ N)) i 0 hi,List.map_append];simp only[s4,Int.toNat_natCast,hg,e1,au,mo,hl];simp(disch:=omega)only[rs];rw[ag];rfl
 ·simp(disch:=omega)only[s4,rs]
theorem jl7(h12:N≤12):qar n=some (0,srt (ic n N)):=by
 have h16:2 ^ N≤2 ^ 12:=Nat.pow_le_pow_right (by omega) h12;have h1p:1≤2 ^ N:=Nat.one_le_two_pow;have hfl:=jb1 n N (2 ^ N-1);rw[show 2 ^ N-1+1=2 ^ N by omega]at hfl;have hlen:(ic n N).length=(m7 n N (2 ^ N)).length:=List.length_map ..;have e1:=jow n N hn hN hs hv;have e2:=jux n N hn hN hs hv 0 n.2.1 n.2.2.1 n.2.2.2.1;have e3:=j11 (ic n N) (j1j n N hN) (by omega);have e4:(srt (ic n N)).length=(ic n N).length:=(qa8 _).length_eq;unfold qar;rw[yu hs,hv];have hlt:¬(16:Int)<n.1:=by omega
 simp only[au,e1,e2,mo,e3];rw[pg (decide_eq_true e4),decide_eq_false hlt];rfl
end
theorem jwi{i k:Nat}(hk:k<2 ^ i):∀N,i≤N→bq N k=bq i k:=by
 intro N
 induction N with
 |zero=>intro h;rw[show i=0 by omega]
 |succ N ih=>
  intro h;by_cases he:i=N+1
  ·rw[he]
  ·rw[q2z,Nat.testBit_lt_two_pow (Nat.lt_of_lt_of_le hk (Nat.pow_le_pow_right (by omega) (by omega)))];exact ih (by omega)
theorem jqv(N k:Nat)(hN:N≤16)(hk:k<2 ^ N):qoh (k:Int)=some (bq N k):=by
 have h16:2 ^ N≤2 ^ 16:=Nat.pow_le_pow_right (by omega) hN;have hloop:∃o,q1a ((k:Int),0,[])=some o∧o= .inl (bq N k):=by
  refine da (fun(st:Int×Int×List Int)=>∃i:Nat,i≤N∧st=(((k/2 ^ i:Nat):Int),(i:Int),bq i k)) (fun st=>((N:Int)-st.2.1).toNat) (fun(o:List Int⊕List Int)=>o= .inl (bq N k)) _ ⟨0,Nat.zero_le _,by simp[bq]⟩ (by show((N:Int)-0).toNat<many;unfold many;omega) ?_;rintro _ ⟨i,hi,rfl⟩;have hle:k/2 ^ i≤k:=Nat.div_le_self _ _;by_cases h0:0<k/2 ^ i
  ·have hki:2 ^ i≤k:=by
    refine Classical.byContradiction fun hc=> ?_
    rw[Nat.div_eq_of_lt (by omega)]at h0;omega
   have hiN:i<N:=by
    refine Classical.byContradiction fun hc=> ?_
    have:2 ^ N≤2 ^ i:=Nat.pow_le_pow_right (by omega) (by omega);omega
   have e1:k/2 ^ (i+1)=k/2 ^ i/2:=by rw[Nat.pow_succ,Nat.div_div_eq_div_mul]
   have e2:Int.tmod ((k/2 ^ i:Nat):Int) 2=((k/2 ^ i % 2:Nat):Int):=by rw[Int.tmod_eq_emod_of_nonneg (Int.natCast_nonneg _)];rfl
   have e3:Int.tdiv ((k/2 ^ i:Nat):Int) 2=((k/2 ^ (i+1):Nat):Int):=by rw[Int.tdiv_eq_ediv_of_nonneg (Int.natCast_nonneg _),e1];rfl
   have e4:=q2z i k;have e5:decide (((k/2 ^ i % 2:Nat):Int)=1)=k.testBit i:=by
    rw[Nat.testBit_eq_decide_div_mod_eq];exact decide_eq_decide.2 ⟨fun h=>by omega,fun h=>by omega⟩
   have hl:=qdx i k;have hpos:(0:Int)<((k/2 ^ i:Nat):Int):=Int.natCast_pos.2 h0;have hle2:k/2 ^ (i+1)≤k:=Nat.div_le_self _ _;refine⟨.next (((k/2 ^ (i+1):Nat):Int),((i+1:Nat):Int),bq (i+1) k),?_,⟨i+1,hiN,rfl⟩,by show((N:Int)-((i+1:Nat):Int)).toNat<((N:Int)-(i:Int)).toNat;omega⟩;simp only[qdq,e2,e3,e5,e4];generalize k/2 ^ (i+1)=q at hle2;generalize k/2 ^ i=q' at hpos;cases k.testBit i with
   |true=>
    simp(disch:=omega)only[rs];rw[ag]
   |false=>
    simp(disch:=omega)only[rs];rw[ag]
  ·refine⟨.done (bq i k),?_,?_⟩
   ·have:¬(0:Int)<((k/2 ^ i:Nat):Int):=fun h=>h0 (Int.natCast_pos.1 h)
    simp only[qdq];rw[decide_eq_false this];rfl
   ·have hz:k/2 ^ i=0:=Nat.eq_zero_of_not_pos h0;have hki:k<2 ^ i:=by
     rcases(Nat.div_eq_zero_iff).1 hz with h|h
     ·have:1≤2 ^ i:=Nat.one_le_two_pow;omega
     ·exact h
    rw[jwi hki N hi]
 obtain⟨_,ho,rfl⟩:=hloop;unfold qoh;rw[ho];rfl
theorem jy4(a b:List Int)(ha:a.length≤1000000)(hb:b.length≤1000000):qoi a b=some (vb a b):=by
 have hloop:∃o,q1c a b 0=some o∧(match o with| .inl _=>decide ((a.length:Int)<(b.length:Int))=vb a b| .inr r=>r=vb a b):=by
  refine da (fun(st:Int)=>∃i:Nat,i≤a.length∧i≤b.length∧st=(i:Int)∧vb (a.drop i) (b.drop i)=vb a b) (fun st=>((a.length:Int)-st).toNat) (fun(o:Unit⊕Bool)=>match o with| .inl _=>decide ((a.length:Int)<(b.length:Int))=vb a b| .inr r=>r=vb a b) _ ⟨0,Nat.zero_le _,Nat.zero_le _,rfl,rfl⟩ (by show((a.length:Int)-0).toNat<many;unfold many;omega) ?_;rintro _ ⟨i,hi,hib,rfl,he⟩;by_cases h:i<a.length
  ·by_cases h2:i<b.length
   ·rw[jnp a b i h h2]at he;by_cases heq:a.getD i 0=b.getD i 0
    ·rw[if_pos heq]at he;refine⟨.next (((i+1:Nat):Int)),?_,⟨i+1,by omega,by omega,rfl,he⟩,by show((a.length:Int)-((i+1:Nat):Int)).toNat<((a.length:Int)-(i:Int)).toNat;omega⟩;simp(disch:=omega)only[rv,rs];rw[ag]
    ·rw[if_neg heq]at he;refine⟨.ret (decide (a.getD i 0<b.getD i 0)),?_,he⟩;simp(disch:=omega)only[rv,rs]
   ·refine⟨.done (),?_,?_⟩
    ·simp(disch:=omega)only[rv,rs]
    ·show decide ((a.length:Int)<(b.length:Int))=vb a b;have e:b.drop i=[]:=List.drop_eq_nil_of_le (by omega);rw[←he,e,decide_eq_false (by omega)];cases a.drop i<;>rfl
  ·have e:i=a.length:=by omega
   subst e;refine⟨.done (),?_,?_⟩
   ·simp(disch:=omega)only[rv,rs]
   ·show decide ((a.length:Int)<(b.length:Int))=vb a b;rw[←he,List.drop_length];cases hd:b.drop a.length with
    |nil=>
     have:=List.length_drop (i:=a.length) (l:=b);rw[hd]at this;simp at this;rw[decide_eq_false (by omega)];rfl
    |cons x l=>
     have:=List.length_drop (i:=a.length) (l:=b);rw[hd]at this;simp at this;rw[decide_eq_true (by omega)];rfl
 obtain⟨o,ho,hp⟩:=hloop;unfold qoi;rw[ho,au];cases o with
 |inl _=>exact congrArg some hp
 |inr _=>exact congrArg some hp
end Go.Proofs.YtclbndfjhjladaaGreat
