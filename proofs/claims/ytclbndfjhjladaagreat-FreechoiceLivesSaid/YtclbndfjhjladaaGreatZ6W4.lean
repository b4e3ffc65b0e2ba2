/-
  Siphon: Minimal as the reference gives it; the law SiphonMinimal.
-/
import Derived.Test.YtclbndfjhjladaaGreatZ6W3
set_option linter.all false
namespace Go.Proofs.YtclbndfjhjladaaGreat
open Go.K Go.M
theorem jo0{ts:List ab}{trap:Bool}{a b:List Int}(h:∀x,x∈a↔x∈b)(ha:qdz ts trap a):qdz ts trap b:=by
 rw[qxb]at ha⊢;rintro t ht ⟨p,h1,h2⟩;obtain⟨q,h3,h4⟩:=ha t ht ⟨p,h1,(h p).2 h2⟩;exact⟨q,h3,(h q).1 h4⟩
theorem jn1{ts:List ab}{trap:Bool}{l G:List Int}(h:qun ts trap l G):G≠[]↔∃W,W≠[]∧qdz ts trap W∧∀x∈W,x∈l:=by
 constructor
 ·exact fun hne=>⟨G,hne,h.2,jcc h⟩
 ·rintro⟨W,h1,h2,h3⟩ hG;have:=h.1.2 W h2 h3;cases W with
  |nil=>exact h1 rfl
  |cons x W=>
   have:=this x List.mem_cons_self;rw[hG]at this;cases this
theorem jix(N k:Nat):(cu N k).Nodup:=by
 unfold cu;have h:((List.range N).filter fun p=>k.testBit p).Nodup:=List.Pairwise.filter _ List.nodup_range;unfold List.Nodup at h⊢;rw[List.pairwise_map];exact h.imp fun hne he=>hne (by omega)
theorem j9m{A B:List Int}{a x:Int}(h:(A++a::B).Nodup):x∈A++B↔x∈A++a::B∧x≠a:=by
 unfold List.Nodup at h;rw[List.pairwise_append,List.pairwise_cons]at h;obtain⟨_,⟨h2,_⟩,h4⟩:=h;rw[List.mem_append,List.mem_append,List.mem_cons];constructor
 ·rintro(hx|hx)
  ·exact⟨Or.inl hx,h4 x hx a List.mem_cons_self⟩
  ·exact⟨Or.inr (Or.inr hx),fun he=>h2 x hx he.symm⟩
 ·rintro⟨hx|hx|hx,hne⟩
  ·exact Or.inl hx
  ·exact(hne hx).elim
  ·exact Or.inr hx
theorem j0w{l:List Int}(h:l.Nodup){i:Nat}(hi:i<l.length){x:Int}:x∈l.take i++l.drop (i+1)↔x∈l∧x≠l.getD i 0:=by
 have e:l=l.take i++l.getD i 0::l.drop (i+1):=by
  rw[qa3 l i 0 hi,←List.drop_eq_getElem_cons hi,List.take_append_drop]
 have h' :=h;rw[e]at h';have:=j9m (x:=x) h';rw[←e]at this;exact this
theorem j51{n:ff}{N:Nat}{W:List Int}(hb:∀x∈W,(0:Int)≤x∧x<(N:Int))(hc:qdz n.2.1 false W):clo n N (qq W)=true:=by
 refine jo0 (fun x=> ?_) hc;constructor
 ·intro hx;have:=hb x hx;refine zx.2 ⟨x.toNat,by omega,?_,by omega⟩;rw[qrq fun x hx=>(hb x hx).1,va,Int.toNat_of_nonneg this.1];exact hx
 ·intro hx;obtain⟨p,_,h2,rfl⟩:=zx.1 hx;rw[qrq fun x hx=>(hb x hx).1,va]at h2;exact h2
theorem jzu{W:List Int}(hb:∀x∈W,(0:Int)≤x)(hne:W≠[]):1≤qq W:=by
 cases W with
 |nil=>exact(hne rfl).elim
 |cons x W=>
  refine Nat.pos_of_ne_zero fun hz=> ?_
  have h1:(qq (x::W)).testBit x.toNat=true:=by
   rw[qrq hb,va,Int.toNat_of_nonneg (hb x List.mem_cons_self)];exact List.mem_cons_self
  rw[hz,Nat.zero_testBit]at h1;cases h1
theorem jvm{N k:Nat}(h1:1≤k)(hk:k<2 ^ N):cu N k≠[]:=by
 intro he;have:k=0:=by
  refine Nat.eq_of_testBit_eq fun p=> ?_
  rw[Nat.zero_testBit];cases h:k.testBit p with
  |false=>rfl
  |true=>
   by_cases hp:p<N
   ·have:(p:Int)∈cu N k:=zx.2 ⟨p,hp,h,rfl⟩;rw[he]at this;cases this
   ·rw[Nat.testBit_lt_two_pow (Nat.lt_of_lt_of_le hk (Nat.pow_le_pow_right (by omega) (by omega)))]at h;cases h
 omega
def Inn(n:ff)(l:List Int)(i:Nat):Prop:=∃W,W≠[]∧qdz n.2.1 false W∧∀x∈W,x∈l.take i++l.drop (i+1)
theorem j1u{n:ff}{N k:Nat}(hN:N≤16)(hk:k<2 ^ N):(∃i,i<(cu N k).length∧Inn n (cu N k) i)↔tj n N N k=true:=by
 have h16:2 ^ N≤2 ^ 16:=Nat.pow_le_pow_right (by omega) hN;constructor
 ·rintro⟨i,hi,W,h1,h2,h3⟩;obtain⟨p,p1,p2,p3⟩:=zx.1 (cr (l:=cu N k) 0 hi);have h4:∀x∈W,x∈cu N k∧x≠(p:Int):=fun x hx=>by
   have:=(j0w (jix N k) hi).1 (h3 x hx);rw[←p3]at this;exact this
  have hb:∀x∈W,(0:Int)≤x∧x<(N:Int):=fun x hx=>by
   obtain⟨q,q1,_,rfl⟩:=zx.1 (h4 x hx).1;omega
  refine List.any_eq_true.2 ⟨p,List.mem_range.2 p1,?_⟩;rw[p2,Bool.true_and,qwa];refine⟨qq W,jzu (fun x hx=>(hb x hx).1) h1,fun j hj=> ?_,j51 hb h2⟩;rw[qrq fun x hx=>(hb x hx).1,va]at hj;obtain⟨q,_,q2,q3⟩:=zx.1 (h4 _ hj).1;obtain rfl:q=j:=by omega
  rw[q71 k p q (by omega),q2,Bool.true_and,Bool.not_eq_true'];exact decide_eq_false fun he=>(h4 _ hj).2 (by omega)
 ·intro h;obtain⟨p,p1,p2⟩:=List.any_eq_true.1 h;rw[Bool.and_eq_true,qwa]at p2;obtain⟨p2,f,f1,f2,f3⟩:=p2;have hpl:(p:Int)∈cu N k:=zx.2 ⟨p,List.mem_range.1 p1,p2,rfl⟩;obtain⟨i,hi,hg⟩:=qvu 0 hpl;have hfk:f<2 ^ N:=Nat.lt_of_le_of_lt (Nat.le_trans (jin f2) (jin (jo1 (by omega)))) hk;refine⟨i,hi,cu N f,jvm f1 hfk,f3,fun x hx=>(j0w (jix N k) hi).2 ?_⟩;obtain⟨q,q1,q2,rfl⟩:=zx.1 hx;have:=f2 q q2;rw[q71 k p q (by omega),Bool.and_eq_true,Bool.not_eq_true',decide_eq_false_iff_not]at this;rw[hg];exact⟨zx.2 ⟨q,q1,this.1,rfl⟩,fun he=>this.2 (by omega)⟩
theorem j2o(l:List Int)(i:Nat)(hi:i<l.length)(hl:l.length≤1000000):qoa l (i:Int)=some (l.take i++l.drop (i+1)):=by
 unfold qoa;have e:((i:Int)+1).toNat=i+1:=by omega
 simp(disch:=omega)only[ba,aj,ai,ar,ax,bc,a8,am,a7,al,az,ak,a9,ao,aq,af,ae,ag,au,ay,Int.toNat_natCast,decide_true];rw[e];simp;rw[ai (by omega) (by omega),ai (by omega) (by omega)]
section
variable (n : ff) (N : Nat) (hn : n.1 = (N : Int)) (hN : N ≤ 16) (hs : Small n) (hv : zw n = true)
include hN hs
theorem jh1(k:Nat)(hk:k<2 ^ N)(a b:Int):qpu (cu N k) n.1 n.2.1 n.2.2.1 n.2.2.2.1 0=some (bif tj n N N k then .inr false else .inl ()):=by
 have hlen:=qof N k;have hloop:∃o,qpu (cu N k) n.1 n.2.1 n.2.2.1 n.2.2.2.1 0=some o∧(match o with| .inl _=>∀j,j<(cu N k).length→¬Inn n (cu N k) j| .inr r=>r=false∧∃j,j<(cu N k).length∧Inn n (cu N k) j):=by
  refine ju (fun(st:Int)=>∃i:Nat,i≤(cu N k).length∧st=(i:Int)∧∀j,j<i→¬Inn n (cu N k) j) (fun st=>(((cu N k).length:Int)-st).toNat) (fun(o:Unit⊕Bool)=>match o with| .inl _=>∀j,j<(cu N k).length→¬Inn n (cu N k) j| .inr r=>r=false∧∃j,j<(cu N k).length∧Inn n (cu N k) j) _ ⟨0,Nat.zero_le _,rfl,fun j h=>by omega⟩ (by show(((cu N k).length:Int)-0).toNat<many;unfold many;omega) ?_;rintro _ ⟨i,hi,rfl,hno⟩;by_cases h:i<(cu N k).length
  ·have e1:=j2o (cu N k) i h (by omega);have hl2:((cu N k).take i++(cu N k).drop (i+1)).length≤1000000:=by
    rw[List.length_append,List.length_take,List.length_drop];omega
   obtain⟨G,e2,hG⟩:=jae (n:=n) hs.T ((cu N k).take i++(cu N k).drop (i+1)) hl2;have e2' :qc7 (n.1,n.2.1,n.2.2.1,n.2.2.2.1,()) ((cu N k).take i++(cu N k).drop (i+1))=some G:=e2;by_cases hne:G=[]
   ·refine⟨.next (((i+1:Nat):Int)),?_,⟨i+1,h,rfl,fun j hj=> ?_⟩,by show(((cu N k).length:Int)-((i+1:Nat):Int)).toNat<(((cu N k).length:Int)-(i:Int)).toNat;omega⟩
    ·rw[hne]at e2';simp only[vg,e1,ag,e2'];simp(disch:=omega)only[ba,aj,ai,ar,ax,bc,a8,am,a7,al,az,ak,a9,ao,aq,af,ae,ag,au,ay,Int.toNat_natCast,decide_true];rw[bq];rfl
    ·by_cases hji:j=i
     ·rw[hji];exact fun hc=>(jn1 hG).2 hc hne
     ·exact hno j (by omega)
   ·refine⟨.ret false,?_,rfl,i,h,(jn1 hG).1 hne⟩;have hpos:0<G.length:=List.length_pos_iff.2 hne;simp only[vg,e1,ag,e2'];simp(disch:=omega)only[ba,aj,ai,ar,ax,bc,a8,am,a7,al,az,ak,a9,ao,aq,af,ae,ag,au,ay,Int.toNat_natCast,decide_true]
  ·refine⟨.done (),?_,fun j hj=>hno j (by omega)⟩;simp(disch:=omega)only[vg,ba,aj,ai,ar,ax,bc,a8,am,a7,al,az,ak,a9,ao,aq,af,ae,ag,au,ay,Int.toNat_natCast,decide_true]
 obtain⟨o,ho,hp⟩:=hloop;rw[ho];have hiff:=j1u (n:=n) hN hk;cases o with
 |inl u=>
  have:tj n N N k=false:=Bool.eq_false_iff.2 fun hc=>by
   obtain⟨i,hi,hI⟩:=hiff.2 hc;exact hp i hi hI
  rw[this];rfl
 |inr r=>
  rw[hp.1,hiff.1 hp.2];rfl
theorem jx4(k:Nat)(h1:1≤k)(hk:k<2 ^ N)(hc:clo n N k=true):qet n (cu N k)=some (!tj n N N k):=by
 have hlen:=qof N k;have hne:¬((cu N k).length:Int)=0:=fun h=>jvm h1 hk (List.length_eq_zero_iff.1 (by omega))
 have e1:=q3t (n:=n) hs.T (cu N k) (by omega);have e2:=jh1 n N hN hs k hk 0 0;have hc:qax n.2.1 false (cu N k)=true:=hc;unfold qet;rw[decide_eq_false hne,cond_false,e1,hc,ag,e2];cases tj n N N k<;>rfl
end
def LeL(a b:List Int):Prop:=d5 b a=false
theorem jxt{a b c:List Int}(h1:LeL a b)(h2:LeL b c):LeL a c:=qiw.ntrans _ _ _ h2 h1
theorem j87(m:Int)(out:Rw)(k:Int)(x:List Int)(a b c:Int)(ts:List ab)(hl:out.length≤1000000)(hsh:Sh out)(hx:x.length≤1000000):
  ∃e:Nat,qps m out k x a ts b c 0=some (.inl (e:Int))∧e≤out.length∧(∀j,j<e→d5 (out.getD j []) x=true)∧(e=out.length∨d5 (out.getD e []) x=false):=by
 have hloop:∃o,qps m out k x a ts b c 0=some o∧∃e:Nat,o= .inl (e:Int)∧e≤out.length∧(∀j,j<e→d5 (out.getD j []) x=true)∧(e=out.length∨d5 (out.getD e []) x=false):=by
  refine ju (fun(st:Int)=>∃i:Nat,i≤out.length∧st=(i:Int)∧∀j,j<i→d5 (out.getD j []) x=true) (fun st=>((out.length:Int)-st).toNat) (fun(o:Int⊕(Rw×Int))=>∃e:Nat,o= .inl (e:Int)∧e≤out.length∧(∀j,j<e→d5 (out.getD j []) x=true)∧(e=out.length∨d5 (out.getD e []) x=false)) _ ⟨0,Nat.zero_le _,rfl,fun j h=>by omega⟩ (by show((out.length:Int)-0).toNat<many;unfold many;omega) ?_;rintro _ ⟨i,hi,rfl,hj⟩;by_cases h:i<out.length
  ·have e1:=j1w (out.getD i []) x (hsh i) hx;cases hq:d5 (out.getD i []) x with
   |true=>
    rw[hq]at e1;refine⟨.next (((i+1:Nat):Int)),?_,⟨i+1,h,rfl,fun j hj' => ?_⟩,by show((out.length:Int)-((i+1:Nat):Int)).toNat<((out.length:Int)-(i:Int)).toNat;omega⟩
    ·simp only[vf,Int.toNat_natCast,e1,ag];simp(disch:=omega)only[ba,aj,ai,ar,ax,bc,a8,am,a7,al,az,ak,a9,ao,aq,af,ae,ag,au,ay,Int.toNat_natCast,decide_true];rw[bq]
    ·by_cases hji:j=i
     ·rw[hji];exact hq
     ·exact hj j (by omega)
   |false=>
    rw[hq]at e1;refine⟨.done (i:Int),?_,i,rfl,hi,hj,Or.inr hq⟩;simp only[vf,Int.toNat_natCast,e1,ag];simp(disch:=omega)only[ba,aj,ai,ar,ax,bc,a8,am,a7,al,az,ak,a9,ao,aq,af,ae,ag,au,ay,Int.toNat_natCast,decide_true]
  ·refine⟨.done (i:Int),?_,i,rfl,hi,hj,Or.inl (by omega)⟩;simp(disch:=omega)only[vf,ba,aj,ai,ar,ax,bc,a8,am,a7,al,az,ak,a9,ao,aq,af,ae,ag,au,ay,Int.toNat_natCast,decide_true]
 obtain⟨_,ho,e,rfl,h1,h2,h3⟩:=hloop;exact⟨e,ho,h1,h2,h3⟩
theorem jt7{out:Rw}{x:List Int}{e:Nat}(hs:out.Pairwise LeL)(h1:e≤out.length)(h2:∀j,j<e→d5 (out.getD j []) x=true)(h3:e=out.length∨d5 (out.getD e []) x=false):((out.take e++[x])++out.drop e).Pairwise LeL:=by
 have ht:∀y∈out.take e,LeL y x:=by
  intro y hy;obtain⟨j,hj,rfl⟩:=qvu [] hy;rw[List.length_take]at hj;have e1:(out.take e).getD j []=out.getD j []:=by
   rw[List.getD_eq_getElem?_getD,List.getElem?_take,if_pos (by omega),←List.getD_eq_getElem?_getD]
  rw[e1];have:=h2 j (by omega);cases hc:d5 x (out.getD j [])with
  |false=>exact hc
  |true=>
   have:=qvh _ _ _ hc this;rw[jih]at this;cases this
 have hd:∀y∈out.drop e,LeL x y:=by
  intro y hy;obtain⟨j,hj,rfl⟩:=qvu [] hy;rw[List.length_drop]at hj;have e1:(out.drop e).getD j []=out.getD (e+j) []:=by
   rw[List.getD_eq_getElem?_getD,List.getElem?_drop,←List.getD_eq_getElem?_getD]
  rw[e1];rcases h3 with h3|h3
  ·omega
  ·rcases Nat.eq_zero_or_pos j with h0|h0
   ·rw[h0];exact h3
   ·have:=(List.pairwise_iff_getElem.1 hs) e (e+j) (by omega) (by omega) (by omega);rw[←qa3 out e [] (by omega),←qa3 out (e+j) [] (by omega)]at this;exact jxt (b:=out.getD e []) h3 this
 have hall:=hs;rw[←List.take_append_drop e out,List.pairwise_append]at hall;rw[List.append_assoc,List.pairwise_append,List.singleton_append,List.pairwise_cons];refine⟨hall.1,⟨hd,hall.2.1⟩,fun y hy z hz=> ?_⟩;rcases List.mem_cons.1 hz with rfl|hz
 ·exact ht y hy
 ·exact hall.2.2 y hy z hz
theorem jzl(out:Rw)(x:List Int)(e:Nat):((out.take e++[x])++out.drop e).Perm (out++[x]):=by
 rw[List.append_assoc,List.singleton_append];refine List.perm_middle.trans ?_;rw[List.take_append_drop];exact(List.perm_append_singleton x out).symm
theorem j9f{out d:Rw}(hp:out.Perm d)(hs:out.Pairwise LeL):out=srt d:=by
 refine List.Perm.eq_of_pairwise (le:=fun x y=>(!d5 y x)=true) ?_ ?_ ?_ (hp.trans (List.mergeSort_perm _ _).symm)
 ·intro a b _ _ h1 h2;simp only[Bool.not_eq_true']at h1 h2;exact jii a b h2 h1
 ·exact hs.imp fun h=>by rw[Bool.not_eq_true'];exact h
 ·refine List.pairwise_mergeSort ?_ ?_ d
  ·intro a b c h1 h2;rw[Bool.not_eq_true']at h1 h2⊢;exact qiw.ntrans _ _ _ h2 h1
  ·intro a b;cases h1:d5 b a with
   |false=>rfl
   |true=>
    cases h2:d5 a b with
    |false=>rfl
    |true=>
     have:=qvh _ _ _ h1 h2;rw[jih]at this;cases this
section
variable (n : ff) (N : Nat) (hn : n.1 = (N : Int)) (hN : N ≤ 16) (hs : Small n) (hv : zw n = true)
include hN hs
theorem jsv(ts:List ab)(b c:Int):qz4 (N:Int) ts b c (1,0)=some (.inl ((2 ^ N:Nat):Int)):=by
 refine qa4 (fun i:Nat=>(((2 ^ i:Nat):Int),(i:Int))) N (ic (by omega)) _ (fun i hi=> ?_) ?_ _ rfl
 ·have hp:2 ^ i≤2 ^ 16:=Nat.pow_le_pow_right (by omega) (by omega);have e:(2:Int)*((2 ^ i:Nat):Int)=((2 ^ (i+1):Nat):Int):=by rw[Nat.pow_succ];omega
  have hp2:2 ^ (i+1)≤2 ^ 16:=Nat.pow_le_pow_right (by omega) (by omega);simp only[qc6,e];generalize 2 ^ (i+1)=q at hp2;simp(disch:=omega)only[ba,aj,ai,ar,ax,bc,a8,am,a7,al,az,ak,a9,ao,aq,af,ae,ag,au,ay,Int.toNat_natCast,decide_true];rw[bq]
 ·simp(disch:=omega)only[qc6,ba,aj,ai,ar,ax,bc,a8,am,a7,al,az,ak,a9,ao,aq,af,ae,ag,au,ay,Int.toNat_natCast,decide_true]
theorem jsw(h12:N≤12):qpt ((2 ^ N:Nat):Int) n.1 n.2.1 n.2.2.1 n.2.2.2.1 ([],1)=some (.inl (srt (fh n N))):=by
 have h16:2 ^ N≤2 ^ 12:=Nat.pow_le_pow_right (by omega) h12;have h0:1≤2 ^ N:=Nat.one_le_two_pow;have hloop:∃o,qpt ((2 ^ N:Nat):Int) n.1 n.2.1 n.2.2.1 n.2.2.2.1 ([],1)=some o∧o= .inl (srt (fh n N)):=by
  refine ju (fun(st:Rw×Int)=>∃k:Nat,1≤k∧k≤2 ^ N∧st.2=(k:Int)∧st.1.Perm ((ud n N k).map (cu N))∧st.1.Pairwise LeL) (fun st=>(((2 ^ N:Nat):Int)-st.2).toNat) (fun(o:Rw⊕(Rw×Int))=>o= .inl (srt (fh n N))) _ ⟨1,Nat.le_refl 1,h0,rfl,by rw[qrd];exact List.Perm.refl _,List.Pairwise.nil⟩ (by show(((2 ^ N:Nat):Int)-1).toNat<many;unfold many;omega) ?_;rintro⟨out,_⟩ ⟨k,h1,hk,rfl,hp,hpw⟩;have hp:out.Perm ((ud n N k).map (cu N)):=hp;have hpw:out.Pairwise LeL:=hpw;have hol:out.length≤k:=by
   rw[hp.length_eq,List.length_map];exact jpc n N k
  have hosh:Sh out:=by
   intro i;by_cases h:i<out.length
   ·have hm:=hp.mem_iff.1 (cr [] h);obtain⟨j,_,hj⟩:=List.mem_map.1 hm;rw[←hj];have:=qof N j;omega
   ·rw[List.getD_eq_getElem?_getD,List.getElem?_eq_none (by omega)];show(0:Nat)≤_;omega
  by_cases hlt:k<2 ^ N
  ·have hbl:=qof N k;have e1:=jur N k hN hlt;have e2:ve (n.1,n.2.1,n.2.2.1,n.2.2.2.1,()) (cu N k)=some (clo n N k):=q3t (n:=n) hs.T (cu N k) (by omega);have hms:q9c n N k=(!tj n N N k&&clo n N k):=by
    unfold q9c;rw[decide_eq_true h1,Bool.true_and]
   have hfs:=qrd n N k;have hlt' :(k:Int)<((2 ^ N:Nat):Int):=Int.ofNat_lt.2 hlt;have skip:q9c n N k=false→(∃k' :Nat,1≤k' ∧k' ≤2 ^ N∧((k+1:Nat):Int)=(k' :Int)∧out.Perm ((ud n N k').map (cu N))∧out.Pairwise LeL)∧(((2 ^ N:Nat):Int)-((k+1:Nat):Int)).toNat<(((2 ^ N:Nat):Int)-(k:Int)).toNat:=by
    intro hm;refine⟨⟨k+1,by omega,hlt,rfl,?_,hpw⟩,by omega⟩;rw[hfs,hm];exact hp
   cases hc:clo n N k with
   |false=>
    refine⟨.next (out,((k+1:Nat):Int)),?_,skip (by rw[hms,hc,Bool.and_false])⟩;rw[hc]at e2;simp only[p0,e1,ag,e2];simp(disch:=omega)only[ba,aj,ai,ar,ax,bc,a8,am,a7,al,az,ak,a9,ao,aq,af,ae,ag,au,ay,Int.toNat_natCast,decide_true];rw[bq]
   |true=>
    rw[hc]at e2;have e3:qet (n.1,n.2.1,n.2.2.1,n.2.2.2.1,()) (cu N k)=some (!tj n N N k):=jx4 n N hN hs k h1 hlt hc;cases hq:tj n N N k with
    |true=>
     refine⟨.next (out,((k+1:Nat):Int)),?_,skip (by rw[hms,hq];rfl)⟩;rw[hq]at e3;simp only[p0,e1,ag,e2,e3];simp(disch:=omega)only[ba,aj,ai,ar,ax,bc,a8,am,a7,al,az,ak,a9,ao,aq,af,ae,ag,au,ay,Int.toNat_natCast,decide_true];rw[bq]
    |false=>
     rw[hq]at e3;obtain⟨e,e4,g1,g2,g3⟩:=j87 ((2 ^ N:Nat):Int) out (k:Int) (cu N k) n.1 n.2.2.1 n.2.2.2.1 n.2.1 (by omega) hosh (by omega);have hml:q9c n N k=true:=by rw[hms,hq,hc];rfl
     refine⟨.next ((out.take e++[cu N k])++out.drop e,((k+1:Nat):Int)),?_,⟨k+1,by omega,hlt,rfl,?_,jt7 hpw g1 g2 g3⟩,?_⟩
     ·have hl1:(out.take e).length≤k:=by rw[List.length_take];omega
      have hl2:(out.drop e).length≤k:=by rw[List.length_drop];omega
      simp only[p0,e1,ag,e2,e3,e4,au,Int.toNat_natCast,List.nil_append,List.length_append,List.length_singleton];simp(disch:=omega)only[ba,aj,ai,ar,ax,bc,a8,am,a7,al,az,ak,a9,ao,aq,af,ae,ag,au,ay,Int.toNat_natCast,decide_true];rw[bq]
     ·rw[hfs,hml,cond_true,List.map_append];exact(jzl out (cu N k) e).trans (hp.append_right _)
     ·show(((2 ^ N:Nat):Int)-((k+1:Nat):Int)).toNat<(((2 ^ N:Nat):Int)-(k:Int)).toNat;omega
  ·obtain rfl:k=2 ^ N:=by omega
   refine⟨.done out,?_,?_⟩
   ·simp only[p0];rw[decide_eq_false (Int.lt_irrefl _)];rfl
   ·exact congrArg Sum.inl (j9f hp hpw)
 obtain⟨_,ho,rfl⟩:=hloop;exact ho
include hn hv
theorem jnc(h12:N≤12):qn6 n=some (srt (fh n N),0):=by
 have hlt:¬(16:Int)<n.1:=by omega
 have e1:=jsv n N hN hs n.2.1 n.2.2.1 n.2.2.2.1;have e2:=jsw n N hN hs h12;unfold qn6;rw[decide_eq_false hlt,cond_false];rw[hn]at e2⊢;rw[e1,ag,au,e2];rfl
end
end Go.Proofs.YtclbndfjhjladaaGreat
