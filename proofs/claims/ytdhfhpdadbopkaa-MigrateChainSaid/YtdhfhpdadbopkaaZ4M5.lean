/-
  Migrate: runs, words, histories; what Check answers.
-/
import Derived.Test.YtdhfhpdadbopkaaZ4M4
set_option linter.all false
namespace Go.Proofs.Ytdhfhpdadbopkaa
open Go.K Go.M
def qe(n:a8)(m:List Int)(t:Int):Int×List Int:=bif decide (0≤t)&&decide (t<(n.2.1.length:Int))then mo n m t.toNat else(2,[])
theorem qx7{n:a8}{m:List Int}{t:Int}(h0:0≤t)(h1:t<(n.2.1.length:Int)):qe n m t=mo n m t.toNat:=by
 unfold qe;rw[decide_eq_true h0,decide_eq_true h1];rfl
theorem quk{n:a8}{m:List Int}{t:Int}(h:¬(0≤t∧t<(n.2.1.length:Int))):qe n m t=(2,[]):=by
 unfold qe;have:(decide (0≤t)&&decide (t<(n.2.1.length:Int)))=false:=by
  rw[Bool.and_eq_false_iff,decide_eq_false_iff_not,decide_eq_false_iff_not];omega
 rw[this];rfl
theorem qx8{n:a8}{m:List Int}{t:Int}(h:(qe n m t).1=0):0≤t∧t<(n.2.1.length:Int):=by
 refine Classical.byContradiction fun hc=> ?_
 rw[quk hc]at h;cases h
theorem q7q{n:a8}(h:Small n)(hv:cj n=true){m:List Int}(hm:dx n.1 m=true)(t:Int):me n m t=some (qe n m t):=by
 obtain⟨p1,p2,_⟩:=em hv h;have hlen:=ox hm;by_cases hc:0≤t∧t<(n.2.1.length:Int)
 ·obtain⟨k,rfl⟩:=Int.eq_ofNat_of_zero_le hc.1;rw[qx7 hc.1 hc.2];have h1:=q1d h hv hm (t:=k) (by omega);have e:wh n m (k:Int)=bnd (ju n m) fun r1=>bif (!r1)then some (1,[])else bnd (me n m (k:Int)) fun r2=>some (r2.1,r2.2):=rfl
  rw[e,rv h m (by omega),hv,hm,au,Bool.and_self,Bool.not_true,cond_false]at h1;show me n m (k:Int)=some (mo n m k);cases hq:me n m (k:Int)with
  |none=>rw[hq]at h1;cases h1
  |some r=>rw[hq,au]at h1;exact h1
 ·rw[quk hc];unfold me;by_cases h0:t<0
  ·simp(disch:=omega)only[rs]
  ·have:(n.2.1.length:Int)≤t:=by omega
   simp(disch:=omega)only[rs]
theorem qq5{n:a8}(h:Small n)(hv:cj n=true){m:List Int}(hm:dx n.1 m=true){t:Int}(h0:(qe n m t).1=0):dx n.1 (qe n m t).2=true:=by
 have hc:=qx8 h0;rw[qx7 hc.1 hc.2]at h0⊢;exact qq4 h hv hm (by omega) h0
def qkd(n:a8):List Int→List Int→Option (List Int)
 |[],m=>some m
 |t::l,m=>if(qe n m t).1=0 then qkd n l (qe n m t).2 else none
def qy7(n:a8)(N:Int):List Int→List Int→List Int⊕(List Int×Int×Int)
 |[],m=> .inl m
 |t::l,m=>if(qe n m t).1=0 then qy7 n N l (qe n m t).2 else .inr ([],N-((l.length+1:Nat):Int),(qe n m t).1)
theorem q3y(n:a8)(N:Int)(t:Int)(l m:List Int):qy7 n N (t::l) m=if(qe n m t).1=0 then qy7 n N l (qe n m t).2 else .inr ([],N-((l.length+1:Nat):Int),(qe n m t).1):=rfl
theorem q2h(n:a8)(N:Int):∀(l m:List Int),(∃x,qkd n l m=some x∧qy7 n N l m= .inl x)∨(qkd n l m=none∧∃r,qy7 n N l m= .inr r∧¬r.2.2=0)
 |[],m=> .inl ⟨m,rfl,rfl⟩
 |t::l,m=>by
  unfold qkd qy7;by_cases h:(qe n m t).1=0
  ·rw[if_pos h,if_pos h];exact q2h n N l _
  ·rw[if_neg h,if_neg h];exact .inr ⟨rfl,_,rfl,h⟩
theorem q2g{n:a8}:∀{l m x:List Int},qkd n l m=some x→∀t∈l,0≤t∧t<(n.2.1.length:Int)
 |[],_,_,_,t,ht=>by cases ht
 |t' ::l,m,x,h,t,ht=>by
  unfold qkd at h;by_cases h0:(qe n m t').1=0
  ·rw[if_pos h0]at h;rcases List.mem_cons.1 ht with rfl|ht
   ·exact qx8 h0
   ·exact q2g h t ht
  ·rw[if_neg h0]at h;cases h
theorem qu7{n:a8}(h:Small n)(hv:cj n=true):∀{l m x:List Int},dx n.1 m=true→qkd n l m=some x→dx n.1 x=true
 |[],m,x,hm,he=>by cases he;exact hm
 |t::l,m,x,hm,he=>by
  unfold qkd at he;by_cases h0:(qe n m t).1=0
  ·rw[if_pos h0]at he;exact qu7 h hv (qq5 h hv hm h0) he
  ·rw[if_neg h0]at he;cases he
theorem ja2{n:a8}(h:Small n)(hv:cj n=true){m:List Int}(hm:dx n.1 m=true)(l:List Int)(hl:l.length≤100000):
  ∃r,qhy n m l=some r∧(r.2.2=0→l.length≤1000∧qkd n l m=some r.1)∧(l.length≤1000→∀x,qkd n l m=some x→r=(x,(l.length:Int),0)):=by
 obtain⟨p1,p2,_⟩:=em hv h;have hlen:=ox hm;unfold qhy;rw[rv h m (by omega),hv,hm,au,Bool.and_self,Bool.not_true,cond_false];by_cases hc:(1000:Int)<(l.length:Int)
 ·rw[qdw hc];exact⟨_,rfl,fun h=>(by cases h),fun h=>(by omega)⟩
 ·have hL:qov l l (l.length:Int) n.1 n.2.1 n.2.2.1 n.2.2.2.1 (m,0)=some (qy7 n l.length l m):=by
   refine q3q l (0:Int) (gg (by omega)) (fun i a=>(a,(i:Int))) (fun _ a=>dx n.1 a=true) (qy7 n l.length) (fun a _=> ?_) (fun i a hi ha=> ?_) m hm _ rfl
   ·simp(disch:=omega)only[uh,rs];rfl
   ·have hF:me (n.1,n.2.1,n.2.2.1,n.2.2.2.1,()) a (l.getD i 0)=some (qe n a (l.getD i 0)):=q7q h hv ha _;rw[q3y];by_cases h0:(qe n a (l.getD i 0)).1=0
    ·refine .inl ⟨(qe n a (l.getD i 0)).2,?_,qq5 h hv ha h0,?_⟩
     ·simp(disch:=omega)only[uh,hF,h0,am,rs]
     ·rw[if_pos h0]
    ·refine .inr ?_;have el:(l.drop (i+1)).length+1=l.length-i:=by rw[List.length_drop];omega
     have el' :((l.length:Nat):Int)-((l.length-i:Nat):Int)=(i:Int):=by omega
     rw[if_neg h0,el,el'];simp(disch:=omega)only[uh,hF,h0,rs];rfl
  rw[qbb (by omega),qxm m (by omega),au,hL,au];rcases q2h n l.length l m with⟨x,e1,e2⟩|⟨e1,r,e2,e3⟩
  ·rw[e2];exact⟨_,rfl,fun _=>⟨by omega,e1⟩,fun _ y hy=>by rw[e1]at hy;cases hy;rfl⟩
  ·rw[e2];exact⟨r,rfl,fun h=>absurd h e3,fun _ y hy=>by rw[e1]at hy;cases hy⟩
def q3t(n:a8)(t:Nat):Bool:=eqS (qb4 n t) ⟨#[]⟩
def qho(n:a8)(l:List Int):List ByteArray:=(l.filter fun t=> !q3t n t.toNat).map fun t=>qb4 n t.toNat
theorem q1c(n:a8)(l:List Int)(t:Int):qho n (l++[t])=if q3t n t.toNat=true then qho n l else qho n l++[qb4 n t.toNat]:=by
 unfold qho;rw[List.filter_append];split
 ·rename_i h;rw[qv0 (by rw[h];rfl),List.append_nil]
 ·rename_i h;rw[qv1 (by simpa using h),List.map_append];rfl
theorem qvj(n:a8)(l:List Int):(qho n l).length≤l.length:=by
 unfold qho;rw[List.length_map];exact List.length_filter_le _ _
theorem q60{n:a8}(h:Small n)(hv:cj n=true)(l:List Int)(hl:l.length≤1000)(hi:∀t∈l,0≤t∧t<(n.2.1.length:Int)):qec n l=some (0,qho n l):=by
 have hL:qlq l (l.length:Int) n.1 n.2.1 n.2.2.1 n.2.2.2.1 (0,[])=some (.inl (qho n l)):=by
  refine xa (fun i=>((i:Int),qho n (l.take i))) l.length (gg (by omega)) _ (fun i hlt=> ?_) ?_ _ rfl
  ·have hm:=hi _ (a7 0 hlt);have hw:=qvj n (l.take i);have ht:(l.take i).length=i:=by rw[List.length_take];omega
   have e1:qb4 n (l.getD i 0).toNat=(n.2.1.getD (l.getD i 0).toNat ae.z).1:=rfl;have e2:eqS (n.2.1.getD (l.getD i 0).toNat ae.z).1 ⟨#[]⟩=q3t n (l.getD i 0).toNat:=rfl;rw[ia l i 0 hlt,q1c,e1];unfold xf;simp only[qhu];rw[qdw (by omega),vz (by omega) (by omega),vz (by omega) (by omega)];simp only[Int.toNat_natCast];rw[qbb (by omega),q1m (by omega),vz (by omega) (by omega),vz (by omega) (by omega),e2];cases q3t n (l.getD i 0).toNat with
   |true=>
    simp(disch:=omega)only[am,Bool.not_true,if_true,rs]
   |false=>
    simp(disch:=omega)only[am,Bool.not_false,Bool.false_eq_true,if_false,rs]
  ·rw[List.take_length];simp(disch:=omega)only[xf,rs]
 unfold qec;rw[qkl h,hv,au,Bool.not_true,cond_false,qbb (by omega),hL];rfl
def qoj(n:a8)(l:List Int):Option (List Int×List ByteArray):=if l.length≤1000 then(qkd n l (q3i n)).map fun x=>(x,qho n l)else none
theorem qrb{n:a8}{l:List Int}{x:List Int}{w:List ByteArray}(h:qoj n l=some (x,w)):l.length≤1000∧qkd n l (q3i n)=some x∧w=qho n l:=by
 unfold qoj at h;by_cases hc:l.length≤1000
 ·rw[if_pos hc]at h;cases hr:qkd n l (q3i n)with
  |none=>rw[hr]at h;cases h
  |some y=>rw[hr]at h;cases h;exact⟨hc,rfl,rfl⟩
 ·rw[if_neg hc]at h;cases h
theorem qrc{n:a8}(h:Small n)(hv:cj n=true)(l:List Int)(hl:l.length≤100000):
  lg n l=some (match qoj n l with|some (x,w)=>(x,true,w)|none=>([],false,[])):=by
 obtain⟨r,h1,h2,h3⟩:=ja2 h hv (qyy h hv n.2.2.1) l hl;unfold lg qoj;rw[qzn h hv,au];dsimp only;rw[h1,au];by_cases hz:r.2.2=0
 ·obtain⟨g1,g2⟩:=h2 hz;have hr:qkd n l (q3i n)=some r.1:=g2;rw[if_pos g1,hr,decide_eq_true hz,q60 h hv l g1 (q2g g2)];rfl
 ·rw[decide_eq_false hz];by_cases hc:l.length≤1000
  ·rw[if_pos hc];cases hr:qkd n l (q3i n)with
   |none=>rfl
   |some x=>exact absurd (by rw[h3 hc x hr]) hz
  ·rw[if_neg hc];rfl
theorem qwi(l:List Int):∃b,wb l=some b∧(b=false→l.length≤40∨1000<l.length∧l.length≤2000):=by
 unfold wb;by_cases c1:(40:Int)<(l.length:Int)
 ·by_cases c2:(l.length:Int)≤1000
  ·exact⟨true,by simp(disch:=omega)only[rs],fun h=>by cases h⟩
  ·refine⟨decide ((2000:Int)<(l.length:Int)),by simp(disch:=omega)only[rs],fun h=> ?_⟩;have:=of_decide_eq_false h;omega
 ·exact⟨decide ((2000:Int)<(l.length:Int)),by simp(disch:=omega)only[rs],fun h=> .inl (by omega)⟩
def q59(v w:List ByteArray):Prop:=v.map ByteArray.toList=w.map ByteArray.toList
theorem q2w(v w:List ByteArray)(hv:v.length≤1000000):∃b,fl v w=some b∧(b=true↔q59 v w):=by
 unfold fl;by_cases hl:v.length=w.length
 ·have hL:nz v w (v.length:Int) 0=some (bif (List.range v.length).all (fun i=>eqS (v.getD i ⟨#[]⟩) (w.getD i ⟨#[]⟩))then .inl ()else .inr false):=by
   have hst:∀i:Nat,i<v.length→cq v w (v.length:Int) (R:=LR Int Unit Bool) (i:Int) (fun a' =>some (.next a')) (fun e=>some (.done e)) (fun r=>some (.ret r))=some (bif eqS (v.getD i ⟨#[]⟩) (w.getD i ⟨#[]⟩)then .next ((i+1:Nat):Int)else .ret false):=fun i hi=>by
    unfold cq;simp only[qhu];simp(disch:=omega)only[am,rs];cases eqS (v.getD i ⟨#[]⟩) (w.getD i ⟨#[]⟩)<;>rfl
   exact qv (fun i:Nat=>(i:Int)) v.length (gg (by omega)) (fun i=>eqS (v.getD i ⟨#[]⟩) (w.getD i ⟨#[]⟩)) () false (fun i hi hq=>(hst i hi).trans (by rw[hq];rfl)) (fun i hi hq=>(hst i hi).trans (by rw[hq];rfl)) (by simp(disch:=omega)only[cq,rs])
  have hd:decide ((v.length:Int)=(w.length:Int))=true:=decide_eq_true (by omega);rw[hd,hL];refine⟨(List.range v.length).all (fun i=>eqS (v.getD i ⟨#[]⟩) (w.getD i ⟨#[]⟩)),?_,?_⟩
  ·cases(List.range v.length).all (fun i=>eqS (v.getD i ⟨#[]⟩) (w.getD i ⟨#[]⟩))<;>rfl
  ·rw[List.all_eq_true];unfold q59;constructor
   ·intro hq;refine List.ext_getElem (by rw[List.length_map,List.length_map,hl]) fun i h1 h2=> ?_
    rw[List.length_map]at h1 h2;have:=hq i (List.mem_range.2 h1);rw[mn v i _ h1,mn w i _ h2]at this;rw[List.getElem_map,List.getElem_map];exact beq_iff_eq.1 this
   ·intro hq i hi;have h1:=List.mem_range.1 hi;rw[mn v i _ h1,mn w i _ (by omega)];have:=congrArg (fun l:List (List UInt8)=>l.getD i []) hq;simp only[List.getD_eq_getElem?_getD,List.getElem?_map,List.getElem?_eq_getElem h1,List.getElem?_eq_getElem (show i<w.length by omega),Option.map_some,Option.getD_some]at this;exact beq_iff_eq.2 this
 ·refine⟨false,?_,⟨fun h=>(by cases h),fun h=> ?_⟩⟩
  ·have hd:decide ((v.length:Int)=(w.length:Int))=false:=decide_eq_false (by omega);rw[hd];rfl
  ·exact absurd (by have:=congrArg List.length h;rwa[List.length_map,List.length_map]at this) hl
theorem q6v(l:List Pr)(x y:List Int)(hl:l.length≤1000000)(hp:∀p∈l,p.1.length≤1000000∧p.2.1.length≤1000000):ct l x y=some (inB l x y):=by
 have hL:k7 l x y (l.length:Int) 0=some (qq2 (fun i=>(i:Int)) (ov (fun p:Pr=>decide (p.1=x)&&decide (p.2.1=y)) l)):=by
  refine n9 l ab.z (fun p:Pr=>decide (p.1=x)&&decide (p.2.1=y)) (fun i=>(i:Int)) (by omega) (fun i hi=> ?_) ?_
  ·obtain⟨h1,h2⟩:=hp _ (a7 ab.z hi);simp(disch:=omega)only[cw,yi,qcf (l.getD i ab.z).1 x (by omega),qcf (l.getD i ab.z).2.1 y (by omega),rs];rw[am];cases decide ((l.getD i ab.z).1=x)<;>cases decide ((l.getD i ab.z).2.1=y)<;>rfl
  ·simp(disch:=omega)only[cw,rs]
 unfold ct fy;rw[hL,au,zi,au,zh];rfl
structure Cert (old new : a8) (run : List Int) (x : ck) : Prop where
 w1 : gp old = some true
 w2 : gp new = some true
 v1 : cj old = true
 v2 : cj new = true
 pm : PM old new x.2.2.1
 hist : ∃ a v w, qoj old run = some (a, v) ∧ qoj new x.2.1 = some (x.1, w) ∧ q59 v w ∧ inB x.2.2.1 a x.1 = true
 all : ∀ p ∈ x.2.2.1, qbd old new (inB x.2.2.1) p.1 p.2.1 = true
theorem qqj{old new:a8}(ho:Small old)(hn:Small new){run:List Int}{x:ck}(hr:run.length≤100000)(hx:x.2.1.length≤100000)(hl:x.2.2.1.length≤20000)(hp:∀p∈x.2.2.1,p.1.length≤1000000∧p.2.1.length≤1000000):
  ∃b,jt old new run x=some b∧(b=true↔Cert old new run x):=by
 obtain⟨w1,a1,a2,a3⟩:=qod ho;obtain⟨w2,c1,c2,c3⟩:=qod hn;unfold jt zl;rw[a1,c1];simp only[au];cases w1 with
 |false=>exact⟨false,rfl,⟨fun h=>(by cases h),fun h=>by have:=h.w1;rw[a1]at this;cases this⟩⟩
 |true=>
  cases w2 with
  |false=>exact⟨false,rfl,⟨fun h=>(by cases h),fun h=>by have:=h.w2;rw[c1]at this;cases this⟩⟩
  |true=>
   have vo:=(a3.1 rfl).1;have vn:=(c3.1 rfl).1;obtain⟨p1,p2,_⟩:=em vo ho;obtain⟨q1,q2,_⟩:=em vn hn;simp only[Bool.not_true,cond_false,au,decide_true];rw[qbb (by omega),q6n ho hn vo vn (by omega) hp,qrc ho vo run hr,qrc hn vn x.2.1 hx];simp only[au,Bool.not_not];cases ha:x.2.2.1.any fun p=> !pmB old new p with
   |true=>
    refine⟨false,rfl,⟨fun h=>(by cases h),fun h=> ?_⟩⟩;obtain⟨p,hp,hq⟩:=List.any_eq_true.1 ha;obtain⟨g1,g2⟩:=h.pm p hp;unfold pmB at hq;rw[g1,g2]at hq;cases hq
   |false=>
    have hpm:PM old new x.2.2.1:=fun p h=>by
     have:=List.any_eq_false.1 ha p h;unfold pmB at this;simpa using this
    simp only[cond_false];cases h1:qoj old run with
    |none=>exact⟨false,rfl,⟨fun h=>(by cases h),fun h=>by obtain⟨a,v,w,e,_⟩:=h.hist;rw[h1]at e;cases e⟩⟩
    |some av=>
     obtain⟨a,v⟩:=av;cases h2:qoj new x.2.1 with
     |none=>exact⟨false,rfl,⟨fun h=>(by cases h),fun h=>by obtain⟨a,v,w,_,e,_⟩:=h.hist;rw[h2]at e;cases e⟩⟩
     |some bw=>
      obtain⟨b,w⟩:=bw;obtain⟨r1,r2,r3⟩:=qrb h1;obtain⟨s1,s2,s3⟩:=qrb h2;have hv:v.length≤1000000:=by have:=qvj old run;rw[r3];omega
      have hb:=ox (qu7 hn vn (qyy hn vn _) s2);obtain⟨e,e1,e2⟩:=q2w v w hv;have key:Cert old new run x↔e=true∧b=x.1∧inB x.2.2.1 a b=true∧qte (qxv old new x.2.2.1) x.2.2.1<0:=by
       have hi:qte (qxv old new x.2.2.1) x.2.2.1<0↔∀p∈x.2.2.1,qbd old new (inB x.2.2.1) p.1 p.2.1=true:=by
        have:=q5b (qxv old new x.2.2.1) x.2.2.1;rw[Bool.eq_iff_iff,decide_eq_true_iff,Bool.not_eq_true',List.any_eq_false]at this;rw[this];unfold qxv;simp
       rw[hi];constructor
       ·rintro⟨_,_,_,_,_,⟨a',v',w',g1,g2,g3,g4⟩,g5⟩;rw[h1]at g1;rw[h2]at g2;cases g1;injection g2 with g2
        injection g2 with g2 g6
        subst g2 g6;exact⟨e2.2 g3,rfl,g4,g5⟩
       ·rintro⟨g1,g2,g3,g4⟩;exact⟨a1,c1,vo,vn,hpm,⟨a,v,w,h1,by rw[h2,g2],e2.1 g1,by rw[←g2];exact g3⟩,g4⟩
      rw[key];simp only[Bool.not_true,cond_false,e1,au];cases e with
      |false=>exact⟨false,rfl,by simp⟩
      |true=>
       rw[qcf b x.1 (by omega)];simp only[Bool.not_true,cond_false,au];by_cases hbx:b=x.1
       ·rw[decide_eq_true hbx,q6v _ _ _ (by omega) hp];simp only[Bool.not_true,cond_false,au];cases hin:inB x.2.2.1 a b with
        |false=>exact⟨false,rfl,by simp⟩
        |true=>
         simp only[Bool.not_true,cond_false];rw[qxa ho hn vo vn (by omega) hpm,au];exact⟨_,rfl,by rw[decide_eq_true_iff];simp[hbx]⟩
       ·rw[decide_eq_false hbx];exact⟨false,rfl,by simp[hbx]⟩
end Go.Proofs.Ytdhfhpdadbopkaa
