/-
  Siphon: Minimal as the program gives it; the reference's bits and order.
-/
import Derived.Test.YtclbndfjhjladaaGreatZ7W2
set_option linter.all false
namespace Go.Proofs.YtclbndfjhjladaaGreat
open Go.K Go.M
section
variable (n : dj) (N : Nat) (hn : n.1 = (N : Int)) (hN : N ≤ 16) (hs : Small n) (hv : n5 n = true)
theorem jw7(N:Nat)(hN:N≤16)(s:Nat)(hs:s<2 ^ N)(v18:List Int)(v19 v20 a b c:Int)(ts:List ab)(o:Rw):
  qz7 (s:Int) v18 v19 v20 (N:Int) a ts b c o (0,[])=some (.inl (jz N s)):=by
 have h16:2 ^ N≤2 ^ 16:=Nat.pow_le_pow_right (by omega) hN;refine qfh (fun i:Nat=>((i:Int),jz i s)) N (fg (by omega)) _ (fun i hi=> ?_) ?_ _ rfl
 ·have e1:=zao s i (by omega) (by omega);have e2:=j0b i s;have hl:=q41 i s;have h0:(0:Int)≤(i:Int):=by omega
  cases hb:s.testBit i with
  |true=>
   rw[hb]at e1 e2;rw[e2];simp only[t5,e1];simp(disch:=omega)only[rs];rw[ar];rfl
  |false=>
   rw[hb]at e1 e2;rw[e2];simp only[t5,e1];simp(disch:=omega)only[rs];rw[ar];rfl
 ·simp(disch:=omega)only[t5,rs]
include hn hN hs hv
noncomputable def fw(n:dj)(N:Nat):Rw:=(zn n N (2 ^ N)).map (jz N)
omit hn hN hs hv in
theorem jyt(n:dj)(N s:Nat):(zn n N s).length≤s:=by
 have:=List.length_filter_le (q58 n N) (List.range s);rw[List.length_range]at this;exact this
omit hn hN hs hv in
theorem jui(n:dj)(N:Nat):∀s,(zn n N (s+1)).length≤s
 |0=>by
  rw[q5j];exact Nat.le_refl 0
 |s+1=>by
  have:=jui n N s;rw[q5j];cases q58 n N (s+1)with
  |false=>exact Nat.le_succ_of_le this
  |true=>simp only[cond_true,List.length_append,List.length_cons,List.length_nil];omega
omit hn hs hv in
theorem j6p:Sh (fw n N):=by
 intro i;by_cases h:i<(fw n N).length
 ·have hm:=bm (l:=fw n N) [] h;unfold fw at hm;obtain⟨k,_,hk⟩:=List.mem_map.1 hm;unfold fw;rw[←hk];have:=q41 N k;omega
 ·rw[List.getD_eq_getElem?_getD,List.getElem?_eq_none (by omega)];show(0:Nat)≤_;omega
theorem j09(a:Int)(ts:List ab)(b c:Int):qz8 ((zn n N (2 ^ N)).map fun(k:Nat)=>(k:Int)) (((zn n N (2 ^ N)).map fun(k:Nat)=>(k:Int)).length:Int) n.1 ts b c (0,[])=some (.inl (fw n N)):=by
 have h16:2 ^ N≤2 ^ 16:=Nat.pow_le_pow_right (by omega) hN;have hfl:=jyt n N (2 ^ N);have hlen:((zn n N (2 ^ N)).map fun(k:Nat)=>(k:Int)).length=(zn n N (2 ^ N)).length:=List.length_map ..;have e:fw n N=((zn n N (2 ^ N)).take (zn n N (2 ^ N)).length).map (jz N):=by rw[List.take_length];rfl
 rw[e,hlen,hn];refine qfh (fun i:Nat=>((i:Int),((zn n N (2 ^ N)).take i).map (jz N))) (zn n N (2 ^ N)).length (fg (by omega)) _ (fun i hi=> ?_) ?_ _ rfl
 ·have hg:=jmv (zn n N (2 ^ N)) (fun(k:Nat)=>(k:Int)) 0 i hi;have hk:(zn n N (2 ^ N)).getD i 0<2 ^ N:=by
   have hm:=bm (l:=zn n N (2 ^ N)) 0 hi;unfold zn at hm;exact List.mem_range.1 (List.mem_filter.1 hm).1
  have e1:=jw7 N hN ((zn n N (2 ^ N)).getD i 0) hk ((zn n N (2 ^ N)).map fun(k:Nat)=>(k:Int)) ((zn n N (2 ^ N)).length:Int) (i:Int) (N:Int) b c ts (((zn n N (2 ^ N)).take i).map (jz N));have hl:(((zn n N (2 ^ N)).take i).map (jz N)).length=i:=by rw[List.length_map,List.length_take];omega
  rw[j4 (zn n N (2 ^ N)) i 0 hi,List.map_append];simp only[qdc,Int.toNat_natCast,hg,e1,ao,i6,hl];simp(disch:=omega)only[rs];rw[ar];rfl
 ·simp(disch:=omega)only[qdc,rs]
theorem jtk(h12:N≤12):qeg n=some (0,srt (fw n N)):=by
 have h16:2 ^ N≤2 ^ 12:=Nat.pow_le_pow_right (by omega) h12;have h1p:1≤2 ^ N:=Nat.one_le_two_pow;have hfl:=jui n N (2 ^ N-1);rw[show 2 ^ N-1+1=2 ^ N by omega]at hfl;have hlen:(fw n N).length=(zn n N (2 ^ N)).length:=List.length_map ..;have e1:=jw8 n N hn hN hs hv;have e2:=j09 n N hn hN hs hv 0 n.2.1 n.2.2.1 n.2.2.2.1;have e3:=j6x (fw n N) (j6p n N hN) (by omega);have e4:(srt (fw n N)).length=(fw n N).length:=(List.mergeSort_perm _ _).length_eq;unfold qeg;rw[jlf hs,hv];have hlt:¬(16:Int)<n.1:=by omega
 simp only[ao,e1,e2,i6,e3];rw[n9 (decide_eq_true e4),decide_eq_false hlt];rfl
end
end Go.Proofs.YtclbndfjhjladaaGreat
