/-
  Coverability: keys of markings, the table of states, a node that is added, Omega that is put.
-/
import Derived.Test.YtemahcdcacmgdaaGreatDoorZ3C1
set_option linter.all false
namespace Go.Proofs.YtemahcdcacmgdaaGreatDoor
open Go.K Go.M
def jzx:List UInt8→Int
 |[a]=>(a.toNat:Int)-48
 |[a,b]=>if a=45 then-1 else(a.toNat:Int)*10-480+((b.toNat:Int)-48)
 |_=>100
theorem jrb:∀i:Fin 102,jzx (tok ((i.1:Int)-1))=(i.1:Int)-1∧(tok ((i.1:Int)-1)).all (fun b=>b !=32)=true:=by decide
theorem jj5{k:Int}(h: -1≤k∧k≤100):jzx (tok k)=k∧∀b∈tok k,b≠32:=by
 obtain⟨h1,h2⟩:=jrb ⟨(k+1).toNat,by omega⟩;have e:(((k+1).toNat:Nat):Int)-1=k:=by omega
 simp only[e]at h1 h2;refine⟨h1,fun b hb=> ?_⟩;have:=List.all_eq_true.1 h2 b hb;simpa using this
theorem jm2:∀{a b r s:List UInt8},(∀x∈a,x≠32)→(∀x∈b,x≠32)→a++32::r=b++32::s→a=b∧r=s
 |[],[],_,_,_,_,h=>⟨rfl,(List.cons.inj h).2⟩
 |[],y::b,_,_,_,hb,h=>absurd (List.cons.inj h).1.symm (hb y List.mem_cons_self)
 |x::a,[],_,_,ha,_,h=>absurd (List.cons.inj h).1 (ha x List.mem_cons_self)
 |x::a,y::b,r,s,ha,hb,h=>by
  obtain⟨h1,h2⟩:=List.cons.inj h;obtain⟨h3,h4⟩:=jm2 (fun z hz=>ha z (List.mem_cons_of_mem _ hz)) (fun z hz=>hb z (List.mem_cons_of_mem _ hz)) h2;exact⟨by rw[h1,h3],h4⟩
theorem jj2:∀{a b:List Int},(∀k∈a,-1≤k∧k≤100)→(∀k∈b,-1≤k∧k≤100)→qio a=qio b→a=b
 |[],[],_,_,_=>rfl
 |[],k::b,_,_,h=>by simp[qio]at h
 |k::a,[],_,_,h=>by simp[qio]at h
 |k::a,j::b,ha,hb,h=>by
  have ka:=jj5 (ha k List.mem_cons_self);have jb:=jj5 (hb j List.mem_cons_self);have h:tok k++32::qio a=tok j++32::qio b:=by simpa[qio]using h
  obtain⟨h1,h2⟩:=jm2 ka.2 jb.2 h;rw[jj2 (fun x hx=>ha x (List.mem_cons_of_mem _ hx)) (fun x hx=>hb x (List.mem_cons_of_mem _ hx)) h2,←ka.1,h1,jb.1]
def qrq(m:List Int):ByteArray:=⟨(qio m).toArray⟩
theorem ExB.mem{N:Int}{m:List Int}(h:ExB N m){k:Int}(hk:k∈m): -1≤k∧k≤100:=by
 obtain⟨i,hi,rfl⟩:=rf 0 hk;exact h.2 i hi
theorem jtb{N:Int}{a b:List Int}(ha:ExB N a)(hb:ExB N b)(h:qrq a=qrq b):a=b:=by
 have h:(qio a).toArray=(qio b).toArray:=congrArg ByteArray.data h;exact jj2 (fun k hk=>ha.mem hk) (fun k hk=>hb.mem hk) (by simpa using h)
theorem jj4:∀{l:List Int},(∀k∈l,-1≤k∧k≤100)→jao l=true
 |[],_=>rfl
 |k::l,h=>by
  have:=h k List.mem_cons_self;simp only[jao,Bool.and_eq_true,decide_eq_true_eq];exact⟨this,jj4 fun x hx=>h x (List.mem_cons_of_mem _ hx)⟩
theorem qyv{N:Int}(hN:N≤1000){m:List Int}(h:ExB N m):rx m=some (qrq m):=by
 have h1:=h.1;unfold rx js9;rw[jj4 fun k hk=>h.mem hk,Nat.ble_eq_true_of_le (show m.length≤1000000 by omega)];rfl
def atG(st:List (List Int)):List (ByteArray×Int):=(List.range st.length).foldl (fun a i=>jji (qrq (st.getD i [])) (i:Int) a) []
theorem jhi(st:List (List Int))(x:List Int):atG (st++[x])=jji (qrq x) (st.length:Int) (atG st):=by
 unfold atG;rw[List.length_append,List.length_singleton,List.range_succ,List.foldl_append];simp only[List.foldl_cons,List.foldl_nil];rw[qk1,qni _ _ fun b a ha=>by rw[zg _ _ _ _ (List.mem_range.1 ha)]]
theorem jrs{N:Int}(x:List Int)(hx:ExB N x):∀st:List (List Int),(∀y∈st,ExB N y)→st.Nodup→dx .str (qrq x) (atG st)=Option.map (fun i:Nat=>(i:Int)) (me (fun y:List Int=>decide (y=x)) st):=by
 intro st;refine q94 (P:=fun st:List (List Int)=>(∀y∈st,ExB N y)→st.Nodup→dx .str (qrq x) (atG st)=Option.map (fun i:Nat=>(i:Int)) (me (fun y:List Int=>decide (y=x)) st)) (fun _ _=>rfl) (fun st y ih=> ?_) st;intro hm hn;rw[jhi,q05];unfold jji;rw[qth];have hn' :=List.nodup_append.1 hn;have ih:=ih (fun z hz=>hm z (List.mem_append_left _ hz)) hn'.1;by_cases e:y=x
 ·subst e;have h0:me (fun z:List Int=>decide (z=y)) st=none:=by
   cases hf:me (fun z:List Int=>decide (z=y)) st with
   |none=>rfl
   |some i=>
    obtain⟨h1,h2,_⟩:=qgc [] hf;exact absurd (of_decide_eq_true h2) (hn'.2.2 _ (ba [] h1) _ (List.mem_singleton.2 rfl))
  rw[h0,qoe];simp
 ·have h1:ym (qrq x) (qrq y)=false:=by
   cases hs:ym (qrq x) (qrq y)with
   |false=>rfl
   |true=>exact absurd (jtb hx (hm y (List.mem_append_right _ (List.mem_singleton.2 rfl))) (jaj hs)).symm e
  rw[h1,ih];simp only[cond_false,decide_eq_false e];cases me (fun z:List Int=>decide (z=x)) st<;>rfl
theorem jvg{N:Int}(hN:N≤1000){p mk:List Int}{a t g:Int}{o:Bool}{ns:List ae}{st:List (List Int)}(hx:ExB N mk)(hs:∀y∈st,ExB N y)(hn:st.Nodup)(hsl:st.length≤300)(hnl:ns.length≤20001):
  ∃r,qdl (p,mk,a,t,0,g,false,o,()) 300 (atG st) ns st=some r∧
   ((mk∈st∧ns.length≤20000∧∃k,r=(0,atG st,ns++[(p,mk,a,t,k,g,false,o,())],st))∨
    (mk∉st∧st.length<300∧ns.length≤20000∧∃k,r=(0,atG (st++[mk]),ns++[(p,mk,a,t,k,g,true,o,())],st++[mk]))∨
    (r.1=13∧(20000<ns.length∨st.length=300))):=by
 have hk:=qyv hN hx;have hf:=jrs mk hx st hs hn;unfold qdl;simp only[hk,bi,hf];cases hq:me (fun y:List Int=>decide (y=mk)) st with
 |some q=>
  obtain⟨h1,h2,_⟩:=qgc [] hq;have hmem:mk∈st:=of_decide_eq_true h2▸ba [] h1;simp only[Option.map_some,Option.isSome_some,Bool.not_true,cond_false];by_cases hl:20000<ns.length
  ·rw[q7a (by omega)];exact⟨_,rfl, .inr (.inr ⟨rfl, .inl hl⟩)⟩
  ·rw[qta (by omega),qw7 (by omega) (by omega)];exact⟨_,rfl, .inl ⟨hmem,by omega,_,rfl⟩⟩
 |none=>
  have hmem:mk∉st:=fun hm=>by
   have:=qtd hq _ hm;simp at this
  simp only[Option.map_none,Option.isSome_none,Bool.not_false,cond_true];rw[jew (by omega) (by omega)];by_cases h3:st.length=300
  ·rw[jko (by omega)];exact⟨_,rfl, .inr (.inr ⟨rfl, .inr h3⟩)⟩
  ·rw[jeq (by omega),qw7 (by omega) (by omega)];by_cases hl:20000<ns.length
   ·rw[q7a (by omega)];exact⟨_,rfl, .inr (.inr ⟨rfl, .inl hl⟩)⟩
   ·rw[qta (by omega),qw7 (by omega) (by omega)];refine⟨_,rfl, .inr (.inl ⟨hmem,by omega,by omega,(st.length:Int),?_⟩)⟩;rw[jhi];rfl
theorem jz0{i a:Int}{z:List Int}{v:List ah}{v1 v2 n1:Int}{n2:List ah}{n3 n4 c:Int}{y0:List Int}{y2 y3 y4 y5:Int}{y6 y7:Bool}{at0:List (ByteArray×Int)}{ns:List ae}{st:List (List Int)}{y:List Int}(h:z.length=y.length)(hl:z.length≤1000):
  qxn i a z v v1 v2 (z.length:Int) n1 n2 n3 n4 c y0 y2 y3 y4 y5 y6 y7 at0 ns st (0,y)=some (.inl (q4w z y)):=by
 have e0:y=bg y.length fun p=>if p<0 then(if z.getD p 0=y.getD p 0 then y.getD p 0 else-1)else y.getD p 0:=by
  conv=>lhs;rw[qs1 y 0]
  exact f5 fun v hv=>by simp
 have e1:q4w z y=bg y.length fun p=>if p<z.length then(if z.getD p 0=y.getD p 0 then y.getD p 0 else-1)else y.getD p 0:=by
  unfold q4w;exact f5 fun v hv=>by rw[if_pos (show v<z.length by omega)]
 rw[e1];refine ct (fun k:Nat=>((k:Int),bg y.length fun p=>if p<k then(if z.getD p 0=y.getD p 0 then y.getD p 0 else-1)else y.getD p 0)) z.length (bw (by omega)) _ (fun k hk=> ?_) ?_ _ (by rw[←e0];rfl)
 ·have hlen:(bg y.length fun p=>if p<k then(if z.getD p 0=y.getD p 0 then y.getD p 0 else-1)else y.getD p 0).length=y.length:=om _ _;have hat:(bg y.length fun p=>if p<k then(if z.getD p 0=y.getD p 0 then y.getD p 0 else-1)else y.getD p 0).getD k 0=y.getD k 0:=by
   rw[wa (by omega),if_neg (Nat.lt_irrefl k)]
  by_cases hz:z.getD k 0=y.getD k 0
  ·simp(disch:=omega)only[va,hlen,hat,rs];rw[al];congr 2;refine Prod.ext rfl (f5 fun v hv=> ?_);by_cases h1:v<k
   ·rw[if_pos h1,if_pos (show v<k+1 by omega)]
   ·by_cases h2:v=k
    ·subst h2;rw[if_neg h1,if_pos (by omega),if_pos hz]
    ·rw[if_neg h1,if_neg (by omega)]
  ·simp(disch:=omega)only[va,hlen,hat,rs];rw[al,qto];congr 2;refine Prod.ext rfl (f5 fun v hv=> ?_);by_cases h2:v=k
   ·subst h2;rw[if_pos rfl,if_pos (by omega),if_neg hz]
   ·rw[if_neg h2];by_cases h1:v<k
    ·rw[if_pos h1,if_pos (show v<k+1 by omega)]
    ·rw[if_neg h1,if_neg (by omega)]
 ·simp(disch:=omega)only[va,rs]
end Go.Proofs.YtemahcdcacmgdaaGreatDoor
