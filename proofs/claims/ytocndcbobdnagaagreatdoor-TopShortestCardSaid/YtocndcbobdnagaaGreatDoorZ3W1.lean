/-
  The reference's Workflow answers, and a workflow net is valid.
-/
import Derived.Test.YtocndcbobdnagaaGreatDoorZ3E1
set_option linter.all false
namespace Go.Proofs.YtocndcbobdnagaaGreatDoor
open Go.K Go.M
def qrk(l:List Int)(x:Int):Bool:= !l.all fun y=> !decide (y=x)
theorem j2h{l:List Int}{x:Int}(h:qrk l x=false):x∉l:=fun hx=>by
 unfold qrk at h;rw[Bool.not_eq_false',Kt]at h;simpa using h x hx
theorem qu7(l:List Int)(h:l.length<=1000000)(x:Int):vn l x=some (qrk l x):=by
 have hL:q96 l x 0=some (bif l.all (fun y=> !decide (y=x))then .inl ()else .inr true):=by
  rw[<-jw7 l 0];refine qdb (fun i:Nat=>(i:Int)) l.length (bm (by omega)) _ () true (fun i hi hp=> ?_) (fun i hi hp=> ?_) ?_
  ·have hp:decide (l.getD i 0=x)=false:=by simpa using hp
   simp(disch:=omega)only[qdw,hp,am,rs]
  ·have hp:decide (l.getD i 0=x)=true:=by simpa using hp
   simp(disch:=omega)only[qdw,hp,rs]
  ·simp(disch:=omega)only[qdw,rs]
 unfold vn qrk;rw[hL];cases l.all fun y=> !decide (y=x)<;>rfl
def ji3(a b:List Int):Bool:= !(List.range a.length).all fun i=> !qrk b (a.getD i 0)
theorem jtz(a b:List Int)(ha:a.length<=1000000)(hb:b.length<=1000000):qk7 a b=some (ji3 a b):=by
 have hL:q5u a b 0=some (bif (List.range a.length).all (fun i=> !qrk b (a.getD i 0))then .inl ()else .inr true):=by
  refine qdb (fun i:Nat=>(i:Int)) a.length (bm (by omega)) _ () true (fun i hi hp=> ?_) (fun i hi hp=> ?_) ?_
  ·have hH:=qu7 b hb (a.getD i 0);rw[show qrk b (a.getD i 0)=false by simpa using hp]at hH;simp(disch:=omega)only[qat,hH,am,rs]
  ·have hH:=qu7 b hb (a.getD i 0);rw[show qrk b (a.getD i 0)=true by simpa using hp]at hH;simp(disch:=omega)only[qat,hH,rs]
  ·simp(disch:=omega)only[qat,rs]
 unfold qk7 ji3;rw[hL];cases(List.range a.length).all fun i=> !qrk b (a.getD i 0)<;>rfl
structure Pl (N : Int) (L : Nat) (o : List Int) : Prop where
 nd : o.Nodup
 b : ∀ x ∈ o, 0 <= x /\ x < N
 l : L <= o.length
theorem Pl.len{N:Int}{L:Nat}{o:List Int}(h:Pl N L o):o.length<=N.toNat:=by
 have h1:(o.map Int.toNat).Nodup:=by
  rw[List.nodup_iff_pairwise_ne,List.pairwise_map];refine h.nd.imp_of_mem fun{a b} ha hb hne he=>hne ?_
  have:=h.b a ha;have:=h.b b hb;omega
 have:=qym (o.map Int.toNat) (List.range N.toNat) h1 fun x hx=>by
  obtain⟨y,hy,rfl⟩:=WG.1 hx;have:=h.b y hy;exact Kk.2 (by omega)
 rwa[Ww,Hi]at this
def InP(N:Int)(ts:List af):Prop:=∀t∈ts,t.2.1.length<=60/\t.2.2.1.length<=60/\(∀x∈t.2.1,0<=x/\x<N)/\∀x∈t.2.2.1,0<=x/\x<N
section
variable {N : Int} {ts : List af} (hN : N <= 40) (hT : ts.length <= 60) (hP : InP N ts)
include hN hT hP
theorem rc0{L k:Nat}(hk:k<ts.length){o:List Int}(ho:Pl N L o)(i a b c:Int):∃o',q0o i (k:Int) a ts b c (0,o)=some (.inl o')/\Pl N L o' :=by
 obtain⟨_,hl,_,hb⟩:=hP _ (ay af.z hk);obtain⟨r,h1,h2⟩:=qdc (step:=fun s:Int×List Int=>rj i (k:Int) a ts b c s.1 s.2 (fun a' =>some (.next a')) (fun e=>some (.done e)) (fun r=>some (.ret r))) (fun s=>∃j:Nat,s.1=(j:Int)/\j<=(ts.getD k af.z).2.2.1.length/\Pl N L s.2) (fun s=>(ts.getD k af.z).2.2.1.length-s.1.toNat)
  (fun r=>match r with| .inl e=>Pl N L e| .inr _=>False) (0,o) ⟨0,rfl,W7 _,ho⟩ (bm (by show _-0<=_;omega)) fun s ⟨j,e,hj,hs⟩=>by
   obtain⟨s1,s2⟩:=s;obtain rfl:s1=(j:Int):=e;have hsl:=Pl.len hs;by_cases hlt:j<(ts.getD k af.z).2.2.1.length
   ·have hH:=qu7 s2 (by simp only[]at hsl;omega) ((ts.getD k af.z).2.2.1.getD j 0);cases hh:qrk s2 ((ts.getD k af.z).2.2.1.getD j 0)with
    |true=>
     rw[hh]at hH;refine⟨.next (((j+1:Nat):Int),s2),?_,⟨j+1,rfl,hlt,hs⟩,by show _-(j+1)<_-j;omega⟩;simp(disch:=omega)only[rj,hH,am,Wv,rs]
    |false=>
     rw[hh]at hH;have hx:=hb _ (ay 0 hlt);refine⟨.next (((j+1:Nat):Int),s2++[(ts.getD k af.z).2.2.1.getD j 0]),?_,⟨j+1,rfl,hlt,?_,fun y hy=> ?_,?_⟩,by show _-(j+1)<_-j;omega⟩
     ·simp only[]at hsl;simp(disch:=omega)only[rj,hH,am,WP,rs]
     ·refine Hj.2 ⟨hs.nd,KR _ _,fun y hy z hz e=> ?_⟩;rw[Wm.1 hz]at e;exact j2h hh (e▸hy)
     ·rcases WS.1 hy with hy|hy
      ·exact hs.b y hy
      ·rw[Wm.1 hy];exact hx
     ·have:=hs.l;simp only[Wx]at this⊢;omega
   ·refine⟨.done s2,?_,hs⟩;simp(disch:=omega)only[rj,rs]
 cases r with
 |inl e=>exact⟨e,h1,h2⟩
 |inr _=>cases h2
theorem rc1{L i:Nat}(hi:i<L){o:List Int}(ho:Pl N L o)(a b c:Int):∃o',q0p (i:Int) a ts b c (0,o)=some (.inl o')/\Pl N L o' :=by
 obtain⟨r,h1,h2⟩:=qdc (step:=fun s:Int×List Int=>rk (i:Int) a ts b c s.1 s.2 (fun a' =>some (.next a')) (fun e=>some (.done e)) (fun r=>some (.ret r))) (fun s=>∃j:Nat,s.1=(j:Int)/\j<=ts.length/\Pl N L s.2) (fun s=>ts.length-s.1.toNat)
  (fun r=>match r with| .inl e=>Pl N L e| .inr _=>False) (0,o) ⟨0,rfl,W7 _,ho⟩ (bm (by show _-0<=_;omega)) fun s ⟨j,e,hj,hs⟩=>by
   obtain⟨s1,s2⟩:=s;obtain rfl:s1=(j:Int):=e;have hs:Pl N L s2:=hs;have hsl:=hs.l;by_cases hlt:j<ts.length
   ·have hH:=qu7 (ts.getD j af.z).2.1 (by have:=(hP _ (ay af.z hlt)).1;omega) (s2.getD i 0);cases hh:qrk (ts.getD j af.z).2.1 (s2.getD i 0)with
    |false=>
     rw[hh]at hH;refine⟨.next (((j+1:Nat):Int),s2),?_,⟨j+1,rfl,hlt,hs⟩,by show _-(j+1)<_-j;omega⟩;simp(disch:=omega)only[rk,hH,am,WP,rs]
    |true=>
     rw[hh]at hH;obtain⟨o',g1,g2⟩:=rc0 hN hT hP hlt hs (i:Int) a b c;refine⟨.next (((j+1:Nat):Int),o'),?_,⟨j+1,rfl,hlt,g2⟩,by show _-(j+1)<_-j;omega⟩;simp(disch:=omega)only[rk,hH,g1,am,Wv,rs]
   ·refine⟨.done s2,?_,hs⟩;simp(disch:=omega)only[rk,rs]
 cases r with
 |inl e=>exact⟨e,h1,h2⟩
 |inr _=>cases h2
theorem jix(a b c:Int){x:Int}(hx:0<=x/\x<N):∃o,qco (a,ts,b,c,()) x=some o/\o.length<=40:=by
 obtain⟨r,h1,h2⟩:=qdc (step:=fun s:Int×List Int=>x0 a ts b c s.1 s.2 (fun a' =>some (.next a')) (fun e=>some (.done e)) (fun r=>some (.ret r))) (fun s=>∃j:Nat,s.1=(j:Int)/\Pl N j s.2) (fun s=>N.toNat-s.1.toNat)
  (fun r=>match r with| .inl e=>Pl N 0 e| .inr _=>False) (0,[x]) ⟨0,rfl,KR _ _,fun y hy=>by rw[Wm.1 hy];exact hx,W7 _⟩ (bm (by show _-0<=_;omega)) fun s ⟨j,e,hs⟩=>by
   obtain⟨s1,s2⟩:=s;obtain rfl:s1=(j:Int):=e;have hs:Pl N j s2:=hs;have hsl:=hs.len;by_cases hlt:j<s2.length
   ·obtain⟨o',g1,g2⟩:=rc1 hN hT hP (i:=j) (L:=j+1) (Hl _) ⟨hs.nd,hs.b,hlt⟩ a b c;refine⟨.next (((j+1:Nat):Int),o'),?_,⟨j+1,rfl,g2⟩,by show _-(j+1)<_-j;omega⟩;simp(disch:=omega)only[x0,g1,am,rs]
   ·refine⟨.done s2,?_,⟨hs.nd,hs.b,W7 _⟩⟩;simp(disch:=omega)only[x0,rs]
 cases r with
 |inr _=>cases h2
 |inl e=>
  refine⟨e,?_,by have:=h2.len;omega⟩;have h1:q0q a ts b c (0,[x])=some (.inl e):=h1;unfold qco;simp(disch:=omega)only[h1,rs]
end
def jzz(t:af):af:=(t.1,t.2.2.1,t.2.1,())
theorem jos{N:Int}{n:bk}(hT:n.2.1.length<=60)(hP:InP N n.2.1):qgv n=some (n.1,n.2.1.map jzz,n.2.2.2.1,n.2.2.1,()):=by
 have hL:qtn n.1 n.2.1 n.2.2.1 n.2.2.2.1 0 [] 0 0 n.1 n.2.2.2.1 n.2.2.1 (0,[])=some (.inl (n.2.1.map jzz)):=by
  refine jp (fun k=>((k:Int),(n.2.1.take k).map jzz)) n.2.1.length (bm (by omega)) _ (fun k hk=> ?_) ?_ _ rfl
  ·obtain⟨l1,l2,_⟩:=hP _ (ay af.z hk);have hl:((n.2.1.take k).map jzz).length<=100:=by rw[Ww,Kg];omega
   rw[cw n.2.1 k af.z hk,Kq];simp(disch:=omega)only[yj,List.nil_append,WR,am,rs];rfl
  ·rw[WW];simp(disch:=omega)only[yj,rs]
 unfold qgv;rw[hL];rfl
theorem jx8{n:bk}(h:Small n):∃b,xz n=some b/\(b=true->dp n=true):=by
 have hV:=jov h;cases hv:dp n with
 |false=>
  rw[hv]at hV;refine⟨false,?_,fun h=>by cases h⟩;unfold xz;simp(disch:=omega)only[hV,WP,rs]
 |true=>
  rw[hv]at hV;have hN:=js hv;have hs:0<=n.2.2.1/\n.2.2.1<n.1:=by
   unfold dp at hv;simp only[Wc,WH]at hv;exact hv.1.2
  have hP:InP n.1 n.2.1:=fun t ht=>⟨h.ins t ht,h.outs t ht,(qxd.1 (qsj hv ht).1).1,(qxd.1 (qsj hv ht).2).1⟩
  have hP' :InP n.1 (n.2.1.map jzz):=fun t ht=>by
   obtain⟨u,hu,rfl⟩:=WG.1 ht;obtain⟨a,b,c,d⟩:=hP u hu;exact⟨b,a,d,c⟩
  obtain⟨f,f1,f2⟩:=jix hN.2.1 hN.2.2.2.2 hP n.1 n.2.2.1 n.2.2.2.1 hs;have f1:qco n n.2.2.1=some f:=f1;obtain⟨k,k1,k2⟩:=jix hN.2.1 (by rw[Ww];exact hN.2.2.2.2) hP' n.1 n.2.2.2.1 n.2.2.1 ⟨hN.2.2.1,hN.2.2.2.1⟩;have hR:=jos hN.2.2.2.2 hP;have hHf:=fun x=>qu7 f (by omega) x
  have hHk:=fun x=>qu7 k (by omega) x
  have hL0:∃o,qp6 f k n.1 n.2.1 n.2.2.1 n.2.2.2.1 0=some o:=by
   refine⟨_,qdb (fun i:Nat=>(i:Int)) n.1.toNat (bm (by omega)) (fun i=>qrk f i&&qrk k i) () false (fun i hi hp=> ?_) (fun i hi hp=> ?_) ?_⟩
   ·obtain⟨p1,p2⟩:=Wc _ _▸hp;simp(disch:=omega)only[ls,hHf,hHk,p1,p2,Wv,am,rs]
   ·cases p1:qrk f (i:Int)with
    |false=>simp(disch:=omega)only[ls,hHf,p1,WP,rs]
    |true=>
     rw[p1]at hp;have hp:qrk k (i:Int)=false:=hp;simp(disch:=omega)only[ls,hHf,hHk,p1,hp,WP,Wv,rs]
   ·simp(disch:=omega)only[ls,rs]
  have hL1:∃o,qf7 f k n.1 n.2.1 n.2.2.1 n.2.2.2.1 0=some o:=by
   refine⟨_,qdb (fun i:Nat=>(i:Int)) n.2.1.length (bm (by omega)) (fun i=> !qrk (n.2.1.getD i af.z).2.2.1 n.2.2.1&&(!qrk (n.2.1.getD i af.z).2.1 n.2.2.2.1&&(ji3 (n.2.1.getD i af.z).2.1 f&&ji3 (n.2.1.getD i af.z).2.2.1 k))) () false (fun i hi hp=> ?_) (fun i hi hp=> ?_) ?_⟩
   all_goals (try (
    obtain⟨g1,g2,_⟩:=hP _ (ay af.z hi);have a1:=qu7 (n.2.1.getD i af.z).2.2.1 (by omega) n.2.2.1;have a2:=qu7 (n.2.1.getD i af.z).2.1 (by omega) n.2.2.2.1;have a3:=jtz (n.2.1.getD i af.z).2.1 f (by omega) (by omega);have a4:=jtz (n.2.1.getD i af.z).2.2.1 k (by omega) (by omega);generalize qrk (n.2.1.getD i af.z).2.2.1 n.2.2.1=b1 at hp a1;generalize qrk (n.2.1.getD i af.z).2.1 n.2.2.2.1=b2 at hp a2;generalize ji3 (n.2.1.getD i af.z).2.1 f=b3 at hp a3;generalize ji3 (n.2.1.getD i af.z).2.2.1 k=b4 at hp a4;revert hp;cases b1<;>cases b2<;>cases b3<;>cases b4<;>intro hp<;>first|cases hp|skip
    all_goals simp(disch:=omega)only[wn,a1,a2,a3,a4,Wv,WP,am,rs]))
   simp(disch:=omega)only[wn,rs]
  obtain⟨o0,h0⟩:=hL0;obtain⟨o1,h1⟩:=hL1;unfold xz;rw[hV,df,Wv,jc2];by_cases he:n.2.2.1=n.2.2.2.1
  ·exact⟨false,by rw[jxc he],fun _=>rfl⟩
  ·rw[jj5 he,f1,df,hR,df,k1,df,h0,df];cases o0 with
   |inr r=>exact⟨r,rfl,fun _=>rfl⟩
   |inl e=>
    show∃b,(bnd (qf7 _ _ _ _ _ _ _) _=some b)/\_;rw[h1,df];cases o1 with
    |inr r=>exact⟨r,rfl,fun _=>rfl⟩
    |inl e=>exact⟨true,rfl,fun _=>rfl⟩
end Go.Proofs.YtocndcbobdnagaaGreatDoor
