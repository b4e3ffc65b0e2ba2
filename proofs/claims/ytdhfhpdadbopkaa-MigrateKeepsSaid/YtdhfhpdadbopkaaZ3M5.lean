/-
  Migrate: runs, words, histories; what Check answers.
-/
import Derived.Test.YtdhfhpdadbopkaaZ3M4
set_option linter.all false
namespace Go.Proofs.Ytdhfhpdadbopkaa
open Go.K Go.M
def nt(n:a8)(m:List Int)(t:Int):Int×List Int:=bif decide (0≤t)&&decide (t<(n.2.1.length:Int))then cp n m t.toNat else(2,[])
theorem qvh{n:a8}{m:List Int}{t:Int}(h0:0≤t)(h1:t<(n.2.1.length:Int)):nt n m t=cp n m t.toNat:=by
 unfold nt;rw[decide_eq_true h0,decide_eq_true h1];rfl
theorem qzq{n:a8}{m:List Int}{t:Int}(h:¬(0≤t∧t<(n.2.1.length:Int))):nt n m t=(2,[]):=by
 unfold nt;have:(decide (0≤t)&&decide (t<(n.2.1.length:Int)))=false:=by
  rw[Bool.and_eq_false_iff,decide_eq_false_iff_not,decide_eq_false_iff_not];omega
 rw[this];rfl
theorem qvi{n:a8}{m:List Int}{t:Int}(h:(nt n m t).1=0):0≤t∧t<(n.2.1.length:Int):=by
 refine Classical.byContradiction fun hc=> ?_
 rw[qzq hc]at h;cases h
theorem q62{n:a8}(h:Small n)(hv:bv n=true){m:List Int}(hm:c7 n.1 m=true)(t:Int):m3 n m t=some (nt n m t):=by
 obtain⟨p1,p2,_⟩:=cf hv h;have hlen:=jh hm;by_cases hc:0≤t∧t<(n.2.1.length:Int)
 ·obtain⟨k,rfl⟩:=Int.eq_ofNat_of_zero_le hc.1;rw[qvh hc.1 hc.2];have h1:=q0m h hv hm (t:=k) (by omega);have e:jd n m (k:Int)=bnd (kg n m) fun r1=>bif (!r1)then some (1,[])else bnd (m3 n m (k:Int)) fun r2=>some (r2.1,r2.2):=rfl
  rw[e,o7 h m (by omega),hv,hm,al,Bool.and_self,Bool.not_true,cond_false]at h1;show m3 n m (k:Int)=some (cp n m k);cases hq:m3 n m (k:Int)with
  |none=>rw[hq]at h1;cases h1
  |some r=>rw[hq,al]at h1;exact h1
 ·rw[qzq hc];unfold m3;by_cases h0:t<0
  ·simp(disch:=omega)only[rs]
  ·have:(n.2.1.length:Int)≤t:=by omega
   simp(disch:=omega)only[rs]
theorem q9s{n:a8}(h:Small n)(hv:bv n=true){m:List Int}(hm:c7 n.1 m=true)(t:Int):jd n m t=some (nt n m t):=by
 obtain⟨p1,p2,_⟩:=cf hv h;have hlen:=jh hm;unfold jd;rw[o7 h m (by omega),hv,hm,al,Bool.and_self,Bool.not_true,cond_false,q62 h hv hm,al]
theorem qmq{n:a8}(h:Small n)(hv:bv n=true){m:List Int}(hm:c7 n.1 m=true){t:Int}(h0:(nt n m t).1=0):c7 n.1 (nt n m t).2=true:=by
 have hc:=qvi h0;rw[qvh hc.1 hc.2]at h0⊢;exact qvg h hv hm (by omega) h0
def qnl(n:a8):List Int→List Int→Option (List Int)
 |[],m=>some m
 |t::l,m=>if(nt n m t).1=0 then qnl n l (nt n m t).2 else none
def q4d(n:a8)(N:Int):List Int→List Int→List Int⊕(List Int×Int×Int)
 |[],m=> .inl m
 |t::l,m=>if(nt n m t).1=0 then q4d n N l (nt n m t).2 else .inr ([],N-((l.length+1:Nat):Int),(nt n m t).1)
theorem q87(n:a8)(N:Int)(t:Int)(l m:List Int):q4d n N (t::l) m=if(nt n m t).1=0 then q4d n N l (nt n m t).2 else .inr ([],N-((l.length+1:Nat):Int),(nt n m t).1):=rfl
theorem q7n(n:a8)(N:Int):∀(l m:List Int),(∃x,qnl n l m=some x∧q4d n N l m= .inl x)∨(qnl n l m=none∧∃r,q4d n N l m= .inr r∧¬r.2.2=0)
 |[],m=> .inl ⟨m,rfl,rfl⟩
 |t::l,m=>by
  unfold qnl q4d;by_cases h:(nt n m t).1=0
  ·rw[if_pos h,if_pos h];exact q7n n N l _
  ·rw[if_neg h,if_neg h];exact .inr ⟨rfl,_,rfl,h⟩
theorem q7m{n:a8}:∀{l m x:List Int},qnl n l m=some x→∀t∈l,0≤t∧t<(n.2.1.length:Int)
 |[],_,_,_,t,ht=>by cases ht
 |t' ::l,m,x,h,t,ht=>by
  unfold qnl at h;by_cases h0:(nt n m t').1=0
  ·rw[if_pos h0]at h;rcases List.mem_cons.1 ht with rfl|ht
   ·exact qvi h0
   ·exact q7m h t ht
  ·rw[if_neg h0]at h;cases h
theorem qz8{n:a8}(h:Small n)(hv:bv n=true):∀{l m x:List Int},c7 n.1 m=true→qnl n l m=some x→c7 n.1 x=true
 |[],m,x,hm,he=>by cases he;exact hm
 |t::l,m,x,hm,he=>by
  unfold qnl at he;by_cases h0:(nt n m t).1=0
  ·rw[if_pos h0]at he;exact qz8 h hv (qmq h hv hm h0) he
  ·rw[if_neg h0]at he;cases he
theorem q9u{n:a8}(h:Small n)(hv:bv n=true){m:List Int}(hm:c7 n.1 m=true)(l:List Int)(hl:l.length≤100000):
  ∃r,qfl n m l=some r∧(r.2.2=0→l.length≤1000∧qnl n l m=some r.1)∧(l.length≤1000→∀x,qnl n l m=some x→r=(x,(l.length:Int),0)):=by
 obtain⟨p1,p2,_⟩:=cf hv h;have hlen:=jh hm;unfold qfl;rw[o7 h m (by omega),hv,hm,al,Bool.and_self,Bool.not_true,cond_false];by_cases hc:(1000:Int)<(l.length:Int)
 ·rw[oe hc];exact⟨_,rfl,fun h=>(by cases h),fun h=>(by omega)⟩
 ·have hL:qsu l l (l.length:Int) n.1 n.2.1 n.2.2.1 n.2.2.2.1 (m,0)=some (q4d n l.length l m):=by
   refine q81 l (0:Int) (h8 (by omega)) (fun i a=>(a,(i:Int))) (fun _ a=>c7 n.1 a=true) (q4d n l.length) (fun a _=> ?_) (fun i a hi ha=> ?_) m hm _ rfl
   ·simp(disch:=omega)only[wm,rs];rfl
   ·have hF:m3 (n.1,n.2.1,n.2.2.1,n.2.2.2.1,()) a (l.getD i 0)=some (nt n a (l.getD i 0)):=q62 h hv ha _;rw[q87];by_cases h0:(nt n a (l.getD i 0)).1=0
    ·refine .inl ⟨(nt n a (l.getD i 0)).2,?_,qmq h hv ha h0,?_⟩
     ·simp(disch:=omega)only[wm,hF,h0,am,rs]
     ·rw[if_pos h0]
    ·refine .inr ?_;have el:(l.drop (i+1)).length+1=l.length-i:=by rw[List.length_drop];omega
     have el' :((l.length:Nat):Int)-((l.length-i:Nat):Int)=(i:Int):=by omega
     rw[if_neg h0,el,el'];simp(disch:=omega)only[wm,hF,h0,rs];rfl
  rw[tx (by omega),q2s m (by omega),al,hL,al];rcases q7n n l.length l m with⟨x,e1,e2⟩|⟨e1,r,e2,e3⟩
  ·rw[e2];exact⟨_,rfl,fun _=>⟨by omega,e1⟩,fun _ y hy=>by rw[e1]at hy;cases hy;rfl⟩
  ·rw[e2];exact⟨r,rfl,fun h=>absurd h e3,fun _ y hy=>by rw[e1]at hy;cases hy⟩
def q3z(n:a8)(t:Nat):Bool:=eqS (yj n t) ⟨#[]⟩
def qki(n:a8)(l:List Int):List ByteArray:=(l.filter fun t=> !q3z n t.toNat).map fun t=>yj n t.toNat
theorem q6j(n:a8)(l:List Int)(t:Int):qki n (l++[t])=if q3z n t.toNat=true then qki n l else qki n l++[yj n t.toNat]:=by
 unfold qki;rw[List.filter_append];split
 ·rename_i h;rw[q5e (by rw[h];rfl),List.append_nil]
 ·rename_i h;rw[q5f (by simpa using h),List.map_append];rfl
theorem q0k(n:a8)(l:List Int):(qki n l).length≤l.length:=by
 unfold qki;rw[List.length_map];exact List.length_filter_le _ _
theorem jck{n:a8}(h:Small n)(hv:bv n=true)(l:List Int)(hl:l.length≤1000)(hi:∀t∈l,0≤t∧t<(n.2.1.length:Int)):qgw n l=some (0,qki n l):=by
 have hL:qo5 l (l.length:Int) n.1 n.2.1 n.2.2.1 n.2.2.2.1 (0,[])=some (.inl (qki n l)):=by
  refine wa (fun i=>((i:Int),qki n (l.take i))) l.length (h8 (by omega)) _ (fun i hlt=> ?_) ?_ _ rfl
  ·have hm:=hi _ (ba 0 hlt);have hw:=q0k n (l.take i);have ht:(l.take i).length=i:=by rw[List.length_take];omega
   have e1:yj n (l.getD i 0).toNat=(n.2.1.getD (l.getD i 0).toNat ae.z).1:=rfl;have e2:eqS (n.2.1.getD (l.getD i 0).toNat ae.z).1 ⟨#[]⟩=q3z n (l.getD i 0).toNat:=rfl;rw[iv l i 0 hlt,q6j,e1];unfold zj;simp only[vy];rw[oe (by omega),fa (by omega) (by omega),fa (by omega) (by omega)];simp only[Int.toNat_natCast];rw[tx (by omega),q0t (by omega),fa (by omega) (by omega),fa (by omega) (by omega),e2];cases q3z n (l.getD i 0).toNat with
   |true=>
    simp(disch:=omega)only[am,Bool.not_true,if_true,rs]
   |false=>
    simp(disch:=omega)only[am,Bool.not_false,Bool.false_eq_true,if_false,rs]
  ·rw[List.take_length];simp(disch:=omega)only[zj,rs]
 unfold qgw;rw[qnt h,hv,al,Bool.not_true,cond_false,tx (by omega),hL];rfl
def qsj(n:a8)(l:List Int):Option (List Int×List ByteArray):=if l.length≤1000 then(qnl n l (q8t n)).map fun x=>(x,qki n l)else none
theorem qmt{n:a8}{l:List Int}{x:List Int}{w:List ByteArray}(h:qsj n l=some (x,w)):l.length≤1000∧qnl n l (q8t n)=some x∧w=qki n l:=by
 unfold qsj at h;by_cases hc:l.length≤1000
 ·rw[if_pos hc]at h;cases hr:qnl n l (q8t n)with
  |none=>rw[hr]at h;cases h
  |some y=>rw[hr]at h;cases h;exact⟨hc,rfl,rfl⟩
 ·rw[if_neg hc]at h;cases h
theorem qvo{n:a8}(h:Small n)(hv:bv n=true)(l:List Int)(hl:l.length≤100000):
  l0 n l=some (match qsj n l with|some (x,w)=>(x,true,w)|none=>([],false,[])):=by
 obtain⟨r,h1,h2,h3⟩:=q9u h hv (qwu h hv n.2.2.1) l hl;unfold l0 qsj;rw[q4r h hv,al];dsimp only;rw[h1,al];by_cases hz:r.2.2=0
 ·obtain⟨g1,g2⟩:=h2 hz;have hr:qnl n l (q8t n)=some r.1:=g2;rw[if_pos g1,hr,decide_eq_true hz,jck h hv l g1 (q7m g2)];rfl
 ·rw[decide_eq_false hz];by_cases hc:l.length≤1000
  ·rw[if_pos hc];cases hr:qnl n l (q8t n)with
   |none=>rfl
   |some x=>exact absurd (by rw[h3 hc x hr]) hz
  ·rw[if_neg hc];rfl
theorem q69(l:List Int):∃b,qci l=some b∧(b=false→l.length≤40∨1000<l.length∧l.length≤2000):=by
 unfold qci;by_cases c1:(40:Int)<(l.length:Int)
 ·by_cases c2:(l.length:Int)≤1000
  ·exact⟨true,by simp(disch:=omega)only[rs],fun h=>by cases h⟩
  ·refine⟨decide ((2000:Int)<(l.length:Int)),by simp(disch:=omega)only[rs],fun h=> ?_⟩;have:=of_decide_eq_false h;omega
 ·exact⟨decide ((2000:Int)<(l.length:Int)),by simp(disch:=omega)only[rs],fun h=> .inl (by omega)⟩
def jbq(v w:List ByteArray):Prop:=v.map ByteArray.toList=w.map ByteArray.toList
theorem q75(v w:List ByteArray)(hv:v.length≤1000000):∃b,f5 v w=some b∧(b=true↔jbq v w):=by
 unfold f5;by_cases hl:v.length=w.length
 ·have hL:o9 v w (v.length:Int) 0=some (bif (List.range v.length).all (fun i=>eqS (v.getD i ⟨#[]⟩) (w.getD i ⟨#[]⟩))then .inl ()else .inr false):=by
   have hst:∀i:Nat,i<v.length→ct v w (v.length:Int) (R:=LR Int Unit Bool) (i:Int) (fun a' =>some (.next a')) (fun e=>some (.done e)) (fun r=>some (.ret r))=some (bif eqS (v.getD i ⟨#[]⟩) (w.getD i ⟨#[]⟩)then .next ((i+1:Nat):Int)else .ret false):=fun i hi=>by
    unfold ct;simp only[vy];simp(disch:=omega)only[am,rs];cases eqS (v.getD i ⟨#[]⟩) (w.getD i ⟨#[]⟩)<;>rfl
   exact v8 (fun i:Nat=>(i:Int)) v.length (h8 (by omega)) (fun i=>eqS (v.getD i ⟨#[]⟩) (w.getD i ⟨#[]⟩)) () false (fun i hi hq=>(hst i hi).trans (by rw[hq];rfl)) (fun i hi hq=>(hst i hi).trans (by rw[hq];rfl)) (by simp(disch:=omega)only[ct,rs])
  have hd:decide ((v.length:Int)=(w.length:Int))=true:=decide_eq_true (by omega);rw[hd,hL];refine⟨(List.range v.length).all (fun i=>eqS (v.getD i ⟨#[]⟩) (w.getD i ⟨#[]⟩)),?_,?_⟩
  ·cases(List.range v.length).all (fun i=>eqS (v.getD i ⟨#[]⟩) (w.getD i ⟨#[]⟩))<;>rfl
  ·rw[List.all_eq_true];unfold jbq;constructor
   ·intro hq;refine List.ext_getElem (by rw[List.length_map,List.length_map,hl]) fun i h1 h2=> ?_
    rw[List.length_map]at h1 h2;have:=hq i (List.mem_range.2 h1);rw[oh v i _ h1,oh w i _ h2]at this;rw[List.getElem_map,List.getElem_map];exact beq_iff_eq.1 this
   ·intro hq i hi;have h1:=List.mem_range.1 hi;rw[oh v i _ h1,oh w i _ (by omega)];have:=congrArg (fun l:List (List UInt8)=>l.getD i []) hq;simp only[List.getD_eq_getElem?_getD,List.getElem?_map,List.getElem?_eq_getElem h1,List.getElem?_eq_getElem (show i<w.length by omega),Option.map_some,Option.getD_some]at this;exact beq_iff_eq.2 this
 ·refine⟨false,?_,⟨fun h=>(by cases h),fun h=> ?_⟩⟩
  ·have hd:decide ((v.length:Int)=(w.length:Int))=false:=decide_eq_false (by omega);rw[hd];rfl
  ·exact absurd (by have:=congrArg List.length h;rwa[List.length_map,List.length_map]at this) hl
theorem jcf(l:List Pr)(x y:List Int)(hl:l.length≤1000000)(hp:∀p∈l,p.1.length≤1000000∧p.2.1.length≤1000000):cw l x y=some (inB l x y):=by
 have hL:lq l x y (l.length:Int) 0=some (qn6 (fun i=>(i:Int)) (og (fun p:Pr=>decide (p.1=x)&&decide (p.2.1=y)) l)):=by
  refine k7 l ab.z (fun p:Pr=>decide (p.1=x)&&decide (p.2.1=y)) (fun i=>(i:Int)) (by omega) (fun i hi=> ?_) ?_
  ·obtain⟨h1,h2⟩:=hp _ (ba ab.z hi);simp(disch:=omega)only[cz,qax,qx (l.getD i ab.z).1 x (by omega),qx (l.getD i ab.z).2.1 y (by omega),rs];rw[am];cases decide ((l.getD i ab.z).1=x)<;>cases decide ((l.getD i ab.z).2.1=y)<;>rfl
  ·simp(disch:=omega)only[cz,rs]
 unfold cw gg;rw[hL,al,t6,al,tz];rfl
structure Cert (old new : a8) (run : List Int) (x : du) : Prop where
 w1 : ij old = some true
 w2 : ij new = some true
 v1 : bv old = true
 v2 : bv new = true
 pm : PM old new x.2.2.1
 hist : ∃ a v w, qsj old run = some (a, v) ∧ qsj new x.2.1 = some (x.1, w) ∧ jbq v w ∧ inB x.2.2.1 a x.1 = true
 all : ∀ p ∈ x.2.2.1, qey old new (inB x.2.2.1) p.1 p.2.1 = true
theorem q9q{old new:a8}(ho:Small old)(hn:Small new){run:List Int}{x:du}(hr:run.length≤100000)(hx:x.2.1.length≤100000)(hl:x.2.2.1.length≤20000)(hp:∀p∈x.2.2.1,p.1.length≤1000000∧p.2.1.length≤1000000):
  ∃b,pr old new run x=some b∧(b=true↔Cert old new run x):=by
 obtain⟨w1,a1,a2,a3⟩:=qdj ho;obtain⟨w2,c1,c2,c3⟩:=qdj hn;unfold pr qby;rw[a1,c1];simp only[al];cases w1 with
 |false=>exact⟨false,rfl,⟨fun h=>(by cases h),fun h=>by have:=h.w1;rw[a1]at this;cases this⟩⟩
 |true=>
  cases w2 with
  |false=>exact⟨false,rfl,⟨fun h=>(by cases h),fun h=>by have:=h.w2;rw[c1]at this;cases this⟩⟩
  |true=>
   have vo:=(a3.1 rfl).1;have vn:=(c3.1 rfl).1;obtain⟨p1,p2,_⟩:=cf vo ho;obtain⟨q1,q2,_⟩:=cf vn hn;simp only[Bool.not_true,cond_false,al,decide_true];rw[tx (by omega),jb4 ho hn vo vn (by omega) hp,qvo ho vo run hr,qvo hn vn x.2.1 hx];simp only[al,Bool.not_not];cases ha:x.2.2.1.any fun p=> !pmB old new p with
   |true=>
    refine⟨false,rfl,⟨fun h=>(by cases h),fun h=> ?_⟩⟩;obtain⟨p,hp,hq⟩:=List.any_eq_true.1 ha;obtain⟨g1,g2⟩:=h.pm p hp;unfold pmB at hq;rw[g1,g2]at hq;cases hq
   |false=>
    have hpm:PM old new x.2.2.1:=fun p h=>by
     have:=List.any_eq_false.1 ha p h;unfold pmB at this;simpa using this
    simp only[cond_false];cases h1:qsj old run with
    |none=>exact⟨false,rfl,⟨fun h=>(by cases h),fun h=>by obtain⟨a,v,w,e,_⟩:=h.hist;rw[h1]at e;cases e⟩⟩
    |some av=>
     obtain⟨a,v⟩:=av;cases h2:qsj new x.2.1 with
     |none=>exact⟨false,rfl,⟨fun h=>(by cases h),fun h=>by obtain⟨a,v,w,_,e,_⟩:=h.hist;rw[h2]at e;cases e⟩⟩
     |some bw=>
      obtain⟨b,w⟩:=bw;obtain⟨r1,r2,r3⟩:=qmt h1;obtain⟨s1,s2,s3⟩:=qmt h2;have hv:v.length≤1000000:=by have:=q0k old run;rw[r3];omega
      have hb:=jh (qz8 hn vn (qwu hn vn _) s2);obtain⟨e,e1,e2⟩:=q75 v w hv;have key:Cert old new run x↔e=true∧b=x.1∧inB x.2.2.1 a b=true∧qx6 (q21 old new x.2.2.1) x.2.2.1<0:=by
       have hi:qx6 (q21 old new x.2.2.1) x.2.2.1<0↔∀p∈x.2.2.1,qey old new (inB x.2.2.1) p.1 p.2.1=true:=by
        have:=jau (q21 old new x.2.2.1) x.2.2.1;rw[Bool.eq_iff_iff,decide_eq_true_iff,Bool.not_eq_true',List.any_eq_false]at this;rw[this];unfold q21;simp
       rw[hi];constructor
       ·rintro⟨_,_,_,_,_,⟨a',v',w',g1,g2,g3,g4⟩,g5⟩;rw[h1]at g1;rw[h2]at g2;cases g1;injection g2 with g2
        injection g2 with g2 g6
        subst g2 g6;exact⟨e2.2 g3,rfl,g4,g5⟩
       ·rintro⟨g1,g2,g3,g4⟩;exact⟨a1,c1,vo,vn,hpm,⟨a,v,w,h1,by rw[h2,g2],e2.1 g1,by rw[←g2];exact g3⟩,g4⟩
      rw[key];simp only[Bool.not_true,cond_false,e1,al];cases e with
      |false=>exact⟨false,rfl,by simp⟩
      |true=>
       rw[qx b x.1 (by omega)];simp only[Bool.not_true,cond_false,al];by_cases hbx:b=x.1
       ·rw[decide_eq_true hbx,jcf _ _ _ (by omega) hp];simp only[Bool.not_true,cond_false,al];cases hin:inB x.2.2.1 a b with
        |false=>exact⟨false,rfl,by simp⟩
        |true=>
         simp only[Bool.not_true,cond_false];rw[q2h ho hn vo vn (by omega) hpm,al];exact⟨_,rfl,by rw[decide_eq_true_iff];simp[hbx]⟩
       ·rw[decide_eq_false hbx];exact⟨false,rfl,by simp[hbx]⟩
end Go.Proofs.Ytdhfhpdadbopkaa
