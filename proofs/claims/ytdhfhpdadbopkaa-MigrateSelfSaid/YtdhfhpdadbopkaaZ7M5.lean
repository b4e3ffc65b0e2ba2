/-
  Migrate: runs, words, histories; what Check answers.
-/
import Derived.Test.YtdhfhpdadbopkaaZ7M4
set_option linter.all false
namespace Go.Proofs.Ytdhfhpdadbopkaa
open Go.K Go.M
def jo(n:az)(m:List Int)(t:Int):Int×List Int:=bif decide (0≤t)&&decide (t<(n.2.1.length:Int))then bj n m t.toNat else(2,[])
theorem qpp{n:az}{m:List Int}{t:Int}(h0:0≤t)(h1:t<(n.2.1.length:Int)):jo n m t=bj n m t.toNat:=by
 unfold jo;rw[decide_eq_true h0,decide_eq_true h1];rfl
theorem qr6{n:az}{m:List Int}{t:Int}(h:¬(0≤t∧t<(n.2.1.length:Int))):jo n m t=(2,[]):=by
 unfold jo;have:(decide (0≤t)&&decide (t<(n.2.1.length:Int)))=false:=by
  rw[Bool.and_eq_false_iff,decide_eq_false_iff_not,decide_eq_false_iff_not];omega
 rw[this];rfl
theorem qpq{n:az}{m:List Int}{t:Int}(h:(jo n m t).1=0):0≤t∧t<(n.2.1.length:Int):=by
 refine Classical.byContradiction fun hc=> ?_
 rw[qr6 hc]at h;cases h
theorem jga{n:az}(h:Small n)(hv:bv n=true){m:List Int}(hm:bu n.1 m=true)(t:Int):oh n m t=some (jo n m t):=by
 obtain⟨p1,p2,_⟩:=bi hv h;have hlen:=c0 hm;by_cases hc:0≤t∧t<(n.2.1.length:Int)
 ·obtain⟨k,rfl⟩:=Int.eq_ofNat_of_zero_le hc.1;rw[qpp hc.1 hc.2];have h1:=q9g h hv hm (t:=k) (by omega);have e:qab n m (k:Int)=bnd (ma n m) fun r1=>bif (!r1)then some (1,[])else bnd (oh n m (k:Int)) fun r2=>some (r2.1,r2.2):=rfl
  rw[e,vy h m (by omega),hv,hm,ah,Bool.and_self,Bool.not_true,cond_false]at h1;show oh n m (k:Int)=some (bj n m k);cases hq:oh n m (k:Int)with
  |none=>rw[hq]at h1;cases h1
  |some r=>rw[hq,ah]at h1;exact h1
 ·rw[qr6 hc];unfold oh;by_cases h0:t<0
  ·simp(disch:=omega)only[rs]
  ·have:(n.2.1.length:Int)≤t:=by omega
   simp(disch:=omega)only[rs]
theorem qn6{n:az}(h:Small n)(hv:bv n=true){m:List Int}(hm:bu n.1 m=true){t:Int}(h0:(jo n m t).1=0):bu n.1 (jo n m t).2=true:=by
 have hc:=qpq h0;rw[qpp hc.1 hc.2]at h0⊢;exact qw9 h hv hm (by omega) h0
def xl(n:az):List Int→List Int→Option (List Int)
 |[],m=>some m
 |t::l,m=>if(jo n m t).1=0 then xl n l (jo n m t).2 else none
def q1h(n:az)(N:Int):List Int→List Int→List Int⊕(List Int×Int×Int)
 |[],m=> .inl m
 |t::l,m=>if(jo n m t).1=0 then q1h n N l (jo n m t).2 else .inr ([],N-((l.length+1:Nat):Int),(jo n m t).1)
theorem q2k(n:az)(N:Int)(t:Int)(l m:List Int):q1h n N (t::l) m=if(jo n m t).1=0 then q1h n N l (jo n m t).2 else .inr ([],N-((l.length+1:Nat):Int),(jo n m t).1):=rfl
theorem q4w(n:az)(N:Int):∀(l m:List Int),(∃x,xl n l m=some x∧q1h n N l m= .inl x)∨(xl n l m=none∧∃r,q1h n N l m= .inr r∧¬r.2.2=0)
 |[],m=> .inl ⟨m,rfl,rfl⟩
 |t::l,m=>by
  unfold xl q1h;by_cases h:(jo n m t).1=0
  ·rw[if_pos h,if_pos h];exact q4w n N l _
  ·rw[if_neg h,if_neg h];exact .inr ⟨rfl,_,rfl,h⟩
theorem q4v{n:az}:∀{l m x:List Int},xl n l m=some x→∀t∈l,0≤t∧t<(n.2.1.length:Int)
 |[],_,_,_,t,ht=>by cases ht
 |t' ::l,m,x,h,t,ht=>by
  unfold xl at h;by_cases h0:(jo n m t').1=0
  ·rw[if_pos h0]at h;rcases List.mem_cons.1 ht with rfl|ht
   ·exact qpq h0
   ·exact q4v h t ht
  ·rw[if_neg h0]at h;cases h
theorem ql7{n:az}(h:Small n)(hv:bv n=true):∀{l m x:List Int},bu n.1 m=true→xl n l m=some x→bu n.1 x=true
 |[],m,x,hm,he=>by cases he;exact hm
 |t::l,m,x,hm,he=>by
  unfold xl at he;by_cases h0:(jo n m t).1=0
  ·rw[if_pos h0]at he;exact ql7 h hv (qn6 h hv hm h0) he
  ·rw[if_neg h0]at he;cases he
theorem jjn{n:az}(h:Small n)(hv:bv n=true){m:List Int}(hm:bu n.1 m=true)(l:List Int)(hl:l.length≤100000):
  ∃r,ql3 n m l=some r∧(r.2.2=0→l.length≤1000∧xl n l m=some r.1)∧(l.length≤1000→∀x,xl n l m=some x→r=(x,(l.length:Int),0)):=by
 obtain⟨p1,p2,_⟩:=bi hv h;have hlen:=c0 hm;unfold ql3;rw[vy h m (by omega),hv,hm,ah,Bool.and_self,Bool.not_true,cond_false];by_cases hc:(1000:Int)<(l.length:Int)
 ·rw[cj hc];exact⟨_,rfl,fun h=>(by cases h),fun h=>(by omega)⟩
 ·have hL:qui l l (l.length:Int) n.1 n.2.1 n.2.2.1 n.2.2.2.1 (m,0)=some (q1h n l.length l m):=by
   refine q17 l (0:Int) (dl (by omega)) (fun i a=>(a,(i:Int))) (fun _ a=>bu n.1 a=true) (q1h n l.length) (fun a _=> ?_) (fun i a hi ha=> ?_) m hm _ rfl
   ·simp(disch:=omega)only[ye,rs];rfl
   ·have hF:oh (n.1,n.2.1,n.2.2.1,n.2.2.2.1,()) a (l.getD i 0)=some (jo n a (l.getD i 0)):=jga h hv ha _;rw[q2k];by_cases h0:(jo n a (l.getD i 0)).1=0
    ·refine .inl ⟨(jo n a (l.getD i 0)).2,?_,qn6 h hv ha h0,?_⟩
     ·simp(disch:=omega)only[ye,hF,h0,aj,rs]
     ·rw[if_pos h0]
    ·refine .inr ?_;have el:(l.drop (i+1)).length+1=l.length-i:=by rw[List.length_drop];omega
     have el' :((l.length:Nat):Int)-((l.length-i:Nat):Int)=(i:Int):=by omega
     rw[if_neg h0,el,el'];simp(disch:=omega)only[ye,hF,h0,rs];rfl
  rw[df (by omega),qde m (by omega),ah,hL,ah];rcases q4w n l.length l m with⟨x,e1,e2⟩|⟨e1,r,e2,e3⟩
  ·rw[e2];exact⟨_,rfl,fun _=>⟨by omega,e1⟩,fun _ y hy=>by rw[e1]at hy;cases hy;rfl⟩
  ·rw[e2];exact⟨r,rfl,fun h=>absurd h e3,fun _ y hy=>by rw[e1]at hy;cases hy⟩
def qhv(n:az)(t:Nat):Bool:=eqS (ns n t) ⟨#[]⟩
def o9(n:az)(l:List Int):List ByteArray:=(l.filter fun t=> !qhv n t.toNat).map fun t=>ns n t.toNat
theorem qib(n:az)(l:List Int)(t:Int):o9 n (l++[t])=if qhv n t.toNat=true then o9 n l else o9 n l++[ns n t.toNat]:=by
 unfold o9;rw[List.filter_append];split
 ·rename_i h;rw[qw8 (by rw[h];rfl),List.append_nil]
 ·rename_i h;rw[q3d (by simpa using h),List.map_append];rfl
theorem qma(n:az)(l:List Int):(o9 n l).length≤l.length:=by
 unfold o9;rw[List.length_map];exact List.length_filter_le _ _
theorem jfl{n:az}(h:Small n)(hv:bv n=true)(l:List Int)(hl:l.length≤1000)(hi:∀t∈l,0≤t∧t<(n.2.1.length:Int)):qhx n l=some (0,o9 n l):=by
 have hL:qqn l (l.length:Int) n.1 n.2.1 n.2.2.1 n.2.2.2.1 (0,[])=some (.inl (o9 n l)):=by
  refine nt (fun i=>((i:Int),o9 n (l.take i))) l.length (dl (by omega)) _ (fun i hlt=> ?_) ?_ _ rfl
  ·have hm:=hi _ (aw 0 hlt);have hw:=qma n (l.take i);have ht:(l.take i).length=i:=by rw[List.length_take];omega
   have e1:ns n (l.getD i 0).toNat=(n.2.1.getD (l.getD i 0).toNat af.z).1:=rfl;have e2:eqS (n.2.1.getD (l.getD i 0).toNat af.z).1 ⟨#[]⟩=qhv n (l.getD i 0).toNat:=rfl;rw[bn l i 0 hlt,qib,e1];unfold qax;simp only[nr];rw[cj (by omega),ao (by omega) (by omega),ao (by omega) (by omega)];simp only[Int.toNat_natCast];rw[df (by omega),qhb (by omega),ao (by omega) (by omega),ao (by omega) (by omega),e2];cases qhv n (l.getD i 0).toNat with
   |true=>
    simp(disch:=omega)only[aj,Bool.not_true,if_true,rs]
   |false=>
    simp(disch:=omega)only[aj,Bool.not_false,Bool.false_eq_true,if_false,rs]
  ·rw[List.take_length];simp(disch:=omega)only[qax,rs]
 unfold qhx;rw[qpb h,hv,ah,Bool.not_true,cond_false,df (by omega),hL];rfl
def qdj(n:az)(l:List Int):Option (List Int×List ByteArray):=if l.length≤1000 then(xl n l (uv n)).map fun x=>(x,o9 n l)else none
theorem qhl{n:az}{l:List Int}{x:List Int}{w:List ByteArray}(h:qdj n l=some (x,w)):l.length≤1000∧xl n l (uv n)=some x∧w=o9 n l:=by
 unfold qdj at h;by_cases hc:l.length≤1000
 ·rw[if_pos hc]at h;cases hr:xl n l (uv n)with
  |none=>rw[hr]at h;cases h
  |some y=>rw[hr]at h;cases h;exact⟨hc,rfl,rfl⟩
 ·rw[if_neg hc]at h;cases h
theorem qoa{n:az}(h:Small n)(hv:bv n=true)(l:List Int)(hl:l.length≤100000):
  nm n l=some (match qdj n l with|some (x,w)=>(x,true,w)|none=>([],false,[])):=by
 obtain⟨r,h1,h2,h3⟩:=jjn h hv (qd9 h hv n.2.2.1) l hl;unfold nm qdj;rw[qws h hv,ah];dsimp only;rw[h1,ah];by_cases hz:r.2.2=0
 ·obtain⟨g1,g2⟩:=h2 hz;have hr:xl n l (uv n)=some r.1:=g2;rw[if_pos g1,hr,decide_eq_true hz,jfl h hv l g1 (q4v g2)];rfl
 ·rw[decide_eq_false hz];by_cases hc:l.length≤1000
  ·rw[if_pos hc];cases hr:xl n l (uv n)with
   |none=>rfl
   |some x=>exact absurd (by rw[h3 hc x hr]) hz
  ·rw[if_neg hc];rfl
theorem jgl(l:List Int):∃b,qhp l=some b∧(b=false→l.length≤40∨1000<l.length∧l.length≤2000):=by
 unfold qhp;by_cases c1:(40:Int)<(l.length:Int)
 ·by_cases c2:(l.length:Int)≤1000
  ·exact⟨true,by simp(disch:=omega)only[rs],fun h=>by cases h⟩
  ·refine⟨decide ((2000:Int)<(l.length:Int)),by simp(disch:=omega)only[rs],fun h=> ?_⟩;have:=of_decide_eq_false h;omega
 ·exact⟨decide ((2000:Int)<(l.length:Int)),by simp(disch:=omega)only[rs],fun h=> .inl (by omega)⟩
def qu3(v w:List ByteArray):Prop:=v.map ByteArray.toList=w.map ByteArray.toList
theorem jaz(v w:List ByteArray)(hv:v.length≤1000000):∃b,im v w=some b∧(b=true↔qu3 v w):=by
 unfold im;by_cases hl:v.length=w.length
 ·have hL:qm v w (v.length:Int) 0=some (bif (List.range v.length).all (fun i=>eqS (v.getD i ⟨#[]⟩) (w.getD i ⟨#[]⟩))then .inl ()else .inr false):=by
   have hst:∀i:Nat,i<v.length→dk v w (v.length:Int) (R:=LR Int Unit Bool) (i:Int) (fun a' =>some (.next a')) (fun e=>some (.done e)) (fun r=>some (.ret r))=some (bif eqS (v.getD i ⟨#[]⟩) (w.getD i ⟨#[]⟩)then .next ((i+1:Nat):Int)else .ret false):=fun i hi=>by
    unfold dk;simp only[nr];simp(disch:=omega)only[aj,rs];cases eqS (v.getD i ⟨#[]⟩) (w.getD i ⟨#[]⟩)<;>rfl
   exact r0 (fun i:Nat=>(i:Int)) v.length (dl (by omega)) (fun i=>eqS (v.getD i ⟨#[]⟩) (w.getD i ⟨#[]⟩)) () false (fun i hi hq=>(hst i hi).trans (by rw[hq];rfl)) (fun i hi hq=>(hst i hi).trans (by rw[hq];rfl)) (by simp(disch:=omega)only[dk,rs])
  have hd:decide ((v.length:Int)=(w.length:Int))=true:=decide_eq_true (by omega);rw[hd,hL];refine⟨(List.range v.length).all (fun i=>eqS (v.getD i ⟨#[]⟩) (w.getD i ⟨#[]⟩)),?_,?_⟩
  ·cases(List.range v.length).all (fun i=>eqS (v.getD i ⟨#[]⟩) (w.getD i ⟨#[]⟩))<;>rfl
  ·rw[List.all_eq_true];unfold qu3;constructor
   ·intro hq;refine List.ext_getElem (by rw[List.length_map,List.length_map,hl]) fun i h1 h2=> ?_
    rw[List.length_map]at h1 h2;have:=hq i (List.mem_range.2 h1);rw[mz v i _ h1,mz w i _ h2]at this;rw[List.getElem_map,List.getElem_map];exact beq_iff_eq.1 this
   ·intro hq i hi;have h1:=List.mem_range.1 hi;rw[mz v i _ h1,mz w i _ (by omega)];have:=congrArg (fun l:List (List UInt8)=>l.getD i []) hq;simp only[List.getD_eq_getElem?_getD,List.getElem?_map,List.getElem?_eq_getElem h1,List.getElem?_eq_getElem (show i<w.length by omega),Option.map_some,Option.getD_some]at this;exact beq_iff_eq.2 this
 ·refine⟨false,?_,⟨fun h=>(by cases h),fun h=> ?_⟩⟩
  ·have hd:decide ((v.length:Int)=(w.length:Int))=false:=decide_eq_false (by omega);rw[hd];rfl
  ·exact absurd (by have:=congrArg List.length h;rwa[List.length_map,List.length_map]at this) hl
theorem jfe(l:List Pr)(x y:List Int)(hl:l.length≤1000000)(hp:∀p∈l,p.1.length≤1000000∧p.2.1.length≤1000000):dp l x y=some (inB l x y):=by
 have hL:nc l x y (l.length:Int) 0=some (qmc (fun i=>(i:Int)) (kz (fun p:Pr=>decide (p.1=x)&&decide (p.2.1=y)) l)):=by
  refine jl l ab.z (fun p:Pr=>decide (p.1=x)&&decide (p.2.1=y)) (fun i=>(i:Int)) (by omega) (fun i hi=> ?_) ?_
  ·obtain⟨h1,h2⟩:=hp _ (aw ab.z hi);simp(disch:=omega)only[dr,qb2,qv (l.getD i ab.z).1 x (by omega),qv (l.getD i ab.z).2.1 y (by omega),rs];rw[aj];cases decide ((l.getD i ab.z).1=x)<;>cases decide ((l.getD i ab.z).2.1=y)<;>rfl
  ·simp(disch:=omega)only[dr,rs]
 unfold dp i5;rw[hL,ah,vm,ah,qar];rfl
structure Cert (old new : az) (run : List Int) (x : fv) : Prop where
 w1 : eb old = some true
 w2 : eb new = some true
 v1 : bv old = true
 v2 : bv new = true
 pm : PM old new x.2.2.1
 hist : ∃ a v w, qdj old run = some (a, v) ∧ qdj new x.2.1 = some (x.1, w) ∧ qu3 v w ∧ inB x.2.2.1 a x.1 = true
 all : ∀ p ∈ x.2.2.1, m6 old new (inB x.2.2.1) p.1 p.2.1 = true
theorem jcs{old new:az}(ho:Small old)(hn:Small new){run:List Int}{x:fv}(hr:run.length≤100000)(hx:x.2.1.length≤100000)(hl:x.2.2.1.length≤20000)(hp:∀p∈x.2.2.1,p.1.length≤1000000∧p.2.1.length≤1000000):
  ∃b,qy old new run x=some b∧(b=true↔Cert old new run x):=by
 obtain⟨w1,a1,a2,a3⟩:=qet ho;obtain⟨w2,c1,c2,c3⟩:=qet hn;unfold qy x9;rw[a1,c1];simp only[ah];cases w1 with
 |false=>exact⟨false,rfl,⟨fun h=>(by cases h),fun h=>by have:=h.w1;rw[a1]at this;cases this⟩⟩
 |true=>
  cases w2 with
  |false=>exact⟨false,rfl,⟨fun h=>(by cases h),fun h=>by have:=h.w2;rw[c1]at this;cases this⟩⟩
  |true=>
   have vo:=(a3.1 rfl).1;have vn:=(c3.1 rfl).1;obtain⟨p1,p2,_⟩:=bi vo ho;obtain⟨q1,q2,_⟩:=bi vn hn;simp only[Bool.not_true,cond_false,ah,decide_true];rw[df (by omega),je7 ho hn vo vn (by omega) hp,qoa ho vo run hr,qoa hn vn x.2.1 hx];simp only[ah,Bool.not_not];cases ha:x.2.2.1.any fun p=> !pmB old new p with
   |true=>
    refine⟨false,rfl,⟨fun h=>(by cases h),fun h=> ?_⟩⟩;obtain⟨p,hp,hq⟩:=List.any_eq_true.1 ha;obtain⟨g1,g2⟩:=h.pm p hp;unfold pmB at hq;rw[g1,g2]at hq;cases hq
   |false=>
    have hpm:PM old new x.2.2.1:=fun p h=>by
     have:=List.any_eq_false.1 ha p h;unfold pmB at this;simpa using this
    simp only[cond_false];cases h1:qdj old run with
    |none=>exact⟨false,rfl,⟨fun h=>(by cases h),fun h=>by obtain⟨a,v,w,e,_⟩:=h.hist;rw[h1]at e;cases e⟩⟩
    |some av=>
     obtain⟨a,v⟩:=av;cases h2:qdj new x.2.1 with
     |none=>exact⟨false,rfl,⟨fun h=>(by cases h),fun h=>by obtain⟨a,v,w,_,e,_⟩:=h.hist;rw[h2]at e;cases e⟩⟩
     |some bw=>
      obtain⟨b,w⟩:=bw;obtain⟨r1,r2,r3⟩:=qhl h1;obtain⟨s1,s2,s3⟩:=qhl h2;have hv:v.length≤1000000:=by have:=qma old run;rw[r3];omega
      have hb:=c0 (ql7 hn vn (qd9 hn vn _) s2);obtain⟨e,e1,e2⟩:=jaz v w hv;have key:Cert old new run x↔e=true∧b=x.1∧inB x.2.2.1 a b=true∧qpt (q5r old new x.2.2.1) x.2.2.1<0:=by
       have hi:qpt (q5r old new x.2.2.1) x.2.2.1<0↔∀p∈x.2.2.1,m6 old new (inB x.2.2.1) p.1 p.2.1=true:=by
        have:=jdv (q5r old new x.2.2.1) x.2.2.1;rw[Bool.eq_iff_iff,decide_eq_true_iff,Bool.not_eq_true',List.any_eq_false]at this;rw[this];unfold q5r;simp
       rw[hi];constructor
       ·rintro⟨_,_,_,_,_,⟨a',v',w',g1,g2,g3,g4⟩,g5⟩;rw[h1]at g1;rw[h2]at g2;cases g1;injection g2 with g2
        injection g2 with g2 g6
        subst g2 g6;exact⟨e2.2 g3,rfl,g4,g5⟩
       ·rintro⟨g1,g2,g3,g4⟩;exact⟨a1,c1,vo,vn,hpm,⟨a,v,w,h1,by rw[h2,g2],e2.1 g1,by rw[←g2];exact g3⟩,g4⟩
      rw[key];simp only[Bool.not_true,cond_false,e1,ah];cases e with
      |false=>exact⟨false,rfl,by simp⟩
      |true=>
       rw[qv b x.1 (by omega)];simp only[Bool.not_true,cond_false,ah];by_cases hbx:b=x.1
       ·rw[decide_eq_true hbx,jfe _ _ _ (by omega) hp];simp only[Bool.not_true,cond_false,ah];cases hin:inB x.2.2.1 a b with
        |false=>exact⟨false,rfl,by simp⟩
        |true=>
         simp only[Bool.not_true,cond_false];rw[q40 ho hn vo vn (by omega) hpm,ah];exact⟨_,rfl,by rw[decide_eq_true_iff];simp[hbx]⟩
       ·rw[decide_eq_false hbx];exact⟨false,rfl,by simp[hbx]⟩
end Go.Proofs.Ytdhfhpdadbopkaa
