/-
  Migrate: runs, words, histories; what Check answers.
-/
import Derived.Test.YtdhfhpdadbopkaaGreatZ3M4
set_option linter.all false
namespace Go.Proofs.YtdhfhpdadbopkaaGreat
open Go.K Go.M
def j4(n:a7)(m:List Int)(t:Int):Int×List Int:=bif decide (0≤t)&&decide (t<(n.2.1.length:Int))then bm n m t.toNat else(2,[])
theorem qra{n:a7}{m:List Int}{t:Int}(h0:0≤t)(h1:t<(n.2.1.length:Int)):j4 n m t=bm n m t.toNat:=by
 unfold j4;rw[decide_eq_true h0,decide_eq_true h1];rfl
theorem qua{n:a7}{m:List Int}{t:Int}(h:¬(0≤t∧t<(n.2.1.length:Int))):j4 n m t=(2,[]):=by
 unfold j4;have:(decide (0≤t)&&decide (t<(n.2.1.length:Int)))=false:=by
  rw[Bool.and_eq_false_iff,decide_eq_false_iff_not,decide_eq_false_iff_not];omega
 rw[this];rfl
theorem q91{n:a7}{m:List Int}{t:Int}(h:(j4 n m t).1=0):0≤t∧t<(n.2.1.length:Int):=by
 refine Classical.byContradiction fun hc=> ?_
 rw[qua hc]at h;cases h
theorem jkf{n:a7}(h:Small n)(hv:bu n=true){m:List Int}(hm:bq n.1 m=true)(t:Int):oa n m t=some (j4 n m t):=by
 obtain⟨p1,p2,_⟩:=ba hv h;have hlen:=b7 hm;by_cases hc:0≤t∧t<(n.2.1.length:Int)
 ·obtain⟨k,rfl⟩:=Int.eq_ofNat_of_zero_le hc.1;rw[qra hc.1 hc.2];have h1:=jdm h hv hm (t:=k) (by omega);have e:qav n m (k:Int)=bnd (lw n m) fun r1=>bif (!r1)then some (1,[])else bnd (oa n m (k:Int)) fun r2=>some (r2.1,r2.2):=rfl
  rw[e,wb h m (by omega),hv,hm,ah,Bool.and_self,Bool.not_true,cond_false]at h1;show oa n m (k:Int)=some (bm n m k);cases hq:oa n m (k:Int)with
  |none=>rw[hq]at h1;cases h1
  |some r=>rw[hq,ah]at h1;exact h1
 ·rw[qua hc];unfold oa;by_cases h0:t<0
  ·simp(disch:=omega)only[rs]
  ·have:(n.2.1.length:Int)≤t:=by omega
   simp(disch:=omega)only[rs]
theorem qpq{n:a7}(h:Small n)(hv:bu n=true){m:List Int}(hm:bq n.1 m=true){t:Int}(h0:(j4 n m t).1=0):bq n.1 (j4 n m t).2=true:=by
 have hc:=q91 h0;rw[qra hc.1 hc.2]at h0⊢;exact q0c h hv hm (by omega) h0
def qb5(n:a7):List Int→List Int→Option (List Int)
 |[],m=>some m
 |t::l,m=>if(j4 n m t).1=0 then qb5 n l (j4 n m t).2 else none
def q41(n:a7)(N:Int):List Int→List Int→List Int⊕(List Int×Int×Int)
 |[],m=> .inl m
 |t::l,m=>if(j4 n m t).1=0 then q41 n N l (j4 n m t).2 else .inr ([],N-((l.length+1:Nat):Int),(j4 n m t).1)
theorem q58(n:a7)(N:Int)(t:Int)(l m:List Int):q41 n N (t::l) m=if(j4 n m t).1=0 then q41 n N l (j4 n m t).2 else .inr ([],N-((l.length+1:Nat):Int),(j4 n m t).1):=rfl
theorem q8r(n:a7)(N:Int):∀(l m:List Int),(∃x,qb5 n l m=some x∧q41 n N l m= .inl x)∨(qb5 n l m=none∧∃r,q41 n N l m= .inr r∧¬r.2.2=0)
 |[],m=> .inl ⟨m,rfl,rfl⟩
 |t::l,m=>by
  unfold qb5 q41;by_cases h:(j4 n m t).1=0
  ·rw[if_pos h,if_pos h];exact q8r n N l _
  ·rw[if_neg h,if_neg h];exact .inr ⟨rfl,_,rfl,h⟩
theorem q8q{n:a7}:∀{l m x:List Int},qb5 n l m=some x→∀t∈l,0≤t∧t<(n.2.1.length:Int)
 |[],_,_,_,t,ht=>by cases ht
 |t' ::l,m,x,h,t,ht=>by
  unfold qb5 at h;by_cases h0:(j4 n m t').1=0
  ·rw[if_pos h0]at h;rcases List.mem_cons.1 ht with rfl|ht
   ·exact q91 h0
   ·exact q8q h t ht
  ·rw[if_neg h0]at h;cases h
theorem qhh{n:a7}(h:Small n)(hv:bu n=true):∀{l m x:List Int},bq n.1 m=true→qb5 n l m=some x→bq n.1 x=true
 |[],m,x,hm,he=>by cases he;exact hm
 |t::l,m,x,hm,he=>by
  unfold qb5 at he;by_cases h0:(j4 n m t).1=0
  ·rw[if_pos h0]at he;exact qhh h hv (qpq h hv hm h0) he
  ·rw[if_neg h0]at he;cases he
theorem jnh{n:a7}(h:Small n)(hv:bu n=true){m:List Int}(hm:bq n.1 m=true)(l:List Int)(hl:l.length≤100000):
  ∃r,qnh n m l=some r∧(r.2.2=0→l.length≤1000∧qb5 n l m=some r.1)∧(l.length≤1000→∀x,qb5 n l m=some x→r=(x,(l.length:Int),0)):=by
 obtain⟨p1,p2,_⟩:=ba hv h;have hlen:=b7 hm;unfold qnh;rw[wb h m (by omega),hv,hm,ah,Bool.and_self,Bool.not_true,cond_false];by_cases hc:(1000:Int)<(l.length:Int)
 ·rw[cg hc];exact⟨_,rfl,fun h=>(by cases h),fun h=>(by omega)⟩
 ·have hL:qw3 l l (l.length:Int) n.1 n.2.1 n.2.2.1 n.2.2.2.1 (m,0)=some (q41 n l.length l m):=by
   refine q5q l (0:Int) (cr (by omega)) (fun i a=>(a,(i:Int))) (fun _ a=>bq n.1 a=true) (q41 n l.length) (fun a _=> ?_) (fun i a hi ha=> ?_) m hm _ rfl
   ·simp(disch:=omega)only[yp,rs];rfl
   ·have hF:oa (n.1,n.2.1,n.2.2.1,n.2.2.2.1,()) a (l.getD i 0)=some (j4 n a (l.getD i 0)):=jkf h hv ha _;rw[q58];by_cases h0:(j4 n a (l.getD i 0)).1=0
    ·refine .inl ⟨(j4 n a (l.getD i 0)).2,?_,qpq h hv ha h0,?_⟩
     ·simp(disch:=omega)only[yp,hF,h0,ai,rs]
     ·rw[if_pos h0]
    ·refine .inr ?_;have el:(l.drop (i+1)).length+1=l.length-i:=by rw[List.length_drop];omega
     have el' :((l.length:Nat):Int)-((l.length-i:Nat):Int)=(i:Int):=by omega
     rw[if_neg h0,el,el'];simp(disch:=omega)only[yp,hF,h0,rs];rfl
  rw[cp (by omega),qdv m (by omega),ah,hL,ah];rcases q8r n l.length l m with⟨x,e1,e2⟩|⟨e1,r,e2,e3⟩
  ·rw[e2];exact⟨_,rfl,fun _=>⟨by omega,e1⟩,fun _ y hy=>by rw[e1]at hy;cases hy;rfl⟩
  ·rw[e2];exact⟨r,rfl,fun h=>absurd h e3,fun _ y hy=>by rw[e1]at hy;cases hy⟩
def qly(n:a7)(t:Nat):Bool:=eqS (mu n t) ⟨#[]⟩
def qam(n:a7)(l:List Int):List ByteArray:=(l.filter fun t=> !qly n t.toNat).map fun t=>mu n t.toNat
theorem qi3(n:a7)(l:List Int)(t:Int):qam n (l++[t])=if qly n t.toNat=true then qam n l else qam n l++[mu n t.toNat]:=by
 unfold qam;rw[List.filter_append];split
 ·rename_i h;rw[qpp (by rw[h];rfl),List.append_nil]
 ·rename_i h;rw[qt9 (by simpa using h),List.map_append];rfl
theorem qhy(n:a7)(l:List Int):(qam n l).length≤l.length:=by
 unfold qam;rw[List.length_map];exact List.length_filter_le _ _
theorem jjn{n:a7}(h:Small n)(hv:bu n=true)(l:List Int)(hl:l.length≤1000)(hi:∀t∈l,0≤t∧t<(n.2.1.length:Int)):qik n l=some (0,qam n l):=by
 have hL:qr6 l (l.length:Int) n.1 n.2.1 n.2.2.1 n.2.2.2.1 (0,[])=some (.inl (qam n l)):=by
  refine f9 (fun i=>((i:Int),qam n (l.take i))) l.length (cr (by omega)) _ (fun i hlt=> ?_) ?_ _ rfl
  ·have hm:=hi _ (au 0 hlt);have hw:=qhy n (l.take i);have ht:(l.take i).length=i:=by rw[List.length_take];omega
   have e1:mu n (l.getD i 0).toNat=(n.2.1.getD (l.getD i 0).toNat af.z).1:=rfl;have e2:eqS (n.2.1.getD (l.getD i 0).toNat af.z).1 ⟨#[]⟩=qly n (l.getD i 0).toNat:=rfl;rw[a8 l i 0 hlt,qi3,e1];unfold qbd;simp only[lb];rw[cg (by omega),ao (by omega) (by omega),ao (by omega) (by omega)];simp only[Int.toNat_natCast];rw[cp (by omega),qc9 (by omega),ao (by omega) (by omega),ao (by omega) (by omega),e2];cases qly n (l.getD i 0).toNat with
   |true=>
    simp(disch:=omega)only[ai,Bool.not_true,if_true,rs]
   |false=>
    simp(disch:=omega)only[ai,Bool.not_false,Bool.false_eq_true,if_false,rs]
  ·rw[List.take_length];simp(disch:=omega)only[qbd,rs]
 unfold qik;rw[qqx h,hv,ah,Bool.not_true,cond_false,cp (by omega),hL];rfl
def qdz(n:a7)(l:List Int):Option (List Int×List ByteArray):=if l.length≤1000 then(qb5 n l (qd1 n)).map fun x=>(x,qam n l)else none
theorem qd0{n:a7}{l:List Int}{x:List Int}{w:List ByteArray}(h:qdz n l=some (x,w)):l.length≤1000∧qb5 n l (qd1 n)=some x∧w=qam n l:=by
 unfold qdz at h;by_cases hc:l.length≤1000
 ·rw[if_pos hc]at h;cases hr:qb5 n l (qd1 n)with
  |none=>rw[hr]at h;cases h
  |some y=>rw[hr]at h;cases h;exact⟨hc,rfl,rfl⟩
 ·rw[if_neg hc]at h;cases h
theorem qpu{n:a7}(h:Small n)(hv:bu n=true)(l:List Int)(hl:l.length≤100000):
  ne n l=some (match qdz n l with|some (x,w)=>(x,true,w)|none=>([],false,[])):=by
 obtain⟨r,h1,h2,h3⟩:=jnh h hv (qep h hv n.2.2.1) l hl;unfold ne qdz;rw[qzw h hv,ah];dsimp only;rw[h1,ah];by_cases hz:r.2.2=0
 ·obtain⟨g1,g2⟩:=h2 hz;have hr:qb5 n l (qd1 n)=some r.1:=g2;rw[if_pos g1,hr,decide_eq_true hz,jjn h hv l g1 (q8q g2)];rfl
 ·rw[decide_eq_false hz];by_cases hc:l.length≤1000
  ·rw[if_pos hc];cases hr:qb5 n l (qd1 n)with
   |none=>rfl
   |some x=>exact absurd (by rw[h3 hc x hr]) hz
  ·rw[if_neg hc];rfl
theorem jkp(l:List Int):∃b,qie l=some b∧(b=false→l.length≤40∨1000<l.length∧l.length≤2000):=by
 unfold qie;by_cases c1:(40:Int)<(l.length:Int)
 ·by_cases c2:(l.length:Int)≤1000
  ·exact⟨true,by simp(disch:=omega)only[rs],fun h=>by cases h⟩
  ·refine⟨decide ((2000:Int)<(l.length:Int)),by simp(disch:=omega)only[rs],fun h=> ?_⟩;have:=of_decide_eq_false h;omega
 ·exact⟨decide ((2000:Int)<(l.length:Int)),by simp(disch:=omega)only[rs],fun h=> .inl (by omega)⟩
def qxq(v w:List ByteArray):Prop:=v.map ByteArray.toList=w.map ByteArray.toList
theorem je3(v w:List ByteArray)(hv:v.length≤1000000):∃b,ii v w=some b∧(b=true↔qxq v w):=by
 unfold ii;by_cases hl:v.length=w.length
 ·have hL:qo v w (v.length:Int) 0=some (bif (List.range v.length).all (fun i=>eqS (v.getD i ⟨#[]⟩) (w.getD i ⟨#[]⟩))then .inl ()else .inr false):=by
   have hst:∀i:Nat,i<v.length→dp v w (v.length:Int) (R:=LR Int Unit Bool) (i:Int) (fun a' =>some (.next a')) (fun e=>some (.done e)) (fun r=>some (.ret r))=some (bif eqS (v.getD i ⟨#[]⟩) (w.getD i ⟨#[]⟩)then .next ((i+1:Nat):Int)else .ret false):=fun i hi=>by
    unfold dp;simp only[lb];simp(disch:=omega)only[ai,rs];cases eqS (v.getD i ⟨#[]⟩) (w.getD i ⟨#[]⟩)<;>rfl
   exact ou (fun i:Nat=>(i:Int)) v.length (cr (by omega)) (fun i=>eqS (v.getD i ⟨#[]⟩) (w.getD i ⟨#[]⟩)) () false (fun i hi hq=>(hst i hi).trans (by rw[hq];rfl)) (fun i hi hq=>(hst i hi).trans (by rw[hq];rfl)) (by simp(disch:=omega)only[dp,rs])
  have hd:decide ((v.length:Int)=(w.length:Int))=true:=decide_eq_true (by omega);rw[hd,hL];refine⟨(List.range v.length).all (fun i=>eqS (v.getD i ⟨#[]⟩) (w.getD i ⟨#[]⟩)),?_,?_⟩
  ·cases(List.range v.length).all (fun i=>eqS (v.getD i ⟨#[]⟩) (w.getD i ⟨#[]⟩))<;>rfl
  ·rw[List.all_eq_true];unfold qxq;constructor
   ·intro hq;refine List.ext_getElem (by rw[List.length_map,List.length_map,hl]) fun i h1 h2=> ?_
    rw[List.length_map]at h1 h2;have:=hq i (List.mem_range.2 h1);rw[ld v i _ h1,ld w i _ h2]at this;rw[List.getElem_map,List.getElem_map];exact beq_iff_eq.1 this
   ·intro hq i hi;have h1:=List.mem_range.1 hi;rw[ld v i _ h1,ld w i _ (by omega)];have:=congrArg (fun l:List (List UInt8)=>l.getD i []) hq;simp only[List.getD_eq_getElem?_getD,List.getElem?_map,List.getElem?_eq_getElem h1,List.getElem?_eq_getElem (show i<w.length by omega),Option.map_some,Option.getD_some]at this;exact beq_iff_eq.2 this
 ·refine⟨false,?_,⟨fun h=>(by cases h),fun h=> ?_⟩⟩
  ·have hd:decide ((v.length:Int)=(w.length:Int))=false:=decide_eq_false (by omega);rw[hd];rfl
  ·exact absurd (by have:=congrArg List.length h;rwa[List.length_map,List.length_map]at this) hl
theorem jjf(l:List Pr)(x y:List Int)(hl:l.length≤1000000)(hp:∀p∈l,p.1.length≤1000000∧p.2.1.length≤1000000):dr l x y=some (n8 l x y):=by
 have hL:m7 l x y (l.length:Int) 0=some (qq8 (fun i=>(i:Int)) (nj (fun p:Pr=>decide (p.1=x)&&decide (p.2.1=y)) l)):=by
  refine l9 l ab.z (fun p:Pr=>decide (p.1=x)&&decide (p.2.1=y)) (fun i=>(i:Int)) (by omega) (fun i hi=> ?_) ?_
  ·obtain⟨h1,h2⟩:=hp _ (au ab.z hi);simp(disch:=omega)only[dv,qcf,sx (l.getD i ab.z).1 x (by omega),sx (l.getD i ab.z).2.1 y (by omega),rs];rw[ai];cases decide ((l.getD i ab.z).1=x)<;>cases decide ((l.getD i ab.z).2.1=y)<;>rfl
  ·simp(disch:=omega)only[dv,rs]
 unfold dr i5;rw[hL,ah,yc,ah,qdb];rfl
structure Cert (old new : a7) (run : List Int) (x : dg) : Prop where
 w1 : ea old = some true
 w2 : ea new = some true
 v1 : bu old = true
 v2 : bu new = true
 pm : PM old new x.2.2.1
 hist : ∃ a v w, qdz old run = some (a, v) ∧ qdz new x.2.1 = some (x.1, w) ∧ qxq v w ∧ n8 x.2.2.1 a x.1 = true
 all : ∀ p ∈ x.2.2.1, gb old new (n8 x.2.2.1) p.1 p.2.1 = true
theorem jgv{old new:a7}(ho:Small old)(hn:Small new){run:List Int}{x:dg}(hr:run.length≤100000)(hx:x.2.1.length≤100000)(hl:x.2.2.1.length≤20000)(hp:∀p∈x.2.2.1,p.1.length≤1000000∧p.2.1.length≤1000000):
  ∃b,qr old new run x=some b∧(b=true↔Cert old new run x):=by
 obtain⟨w1,a1,a2,a3⟩:=xn ho;obtain⟨w2,c1,c2,c3⟩:=xn hn;unfold qr yk;rw[a1,c1];simp only[ah];cases w1 with
 |false=>exact⟨false,rfl,⟨fun h=>(by cases h),fun h=>by have:=h.w1;rw[a1]at this;cases this⟩⟩
 |true=>
  cases w2 with
  |false=>exact⟨false,rfl,⟨fun h=>(by cases h),fun h=>by have:=h.w2;rw[c1]at this;cases this⟩⟩
  |true=>
   have vo:=(a3.1 rfl).1;have vn:=(c3.1 rfl).1;obtain⟨p1,p2,_⟩:=ba vo ho;obtain⟨q1,q2,_⟩:=ba vn hn;simp only[Bool.not_true,cond_false,ah,decide_true];rw[cp (by omega),ji9 ho hn vo vn (by omega) hp,qpu ho vo run hr,qpu hn vn x.2.1 hx];simp only[ah,Bool.not_not];cases ha:x.2.2.1.any fun p=> !pmB old new p with
   |true=>
    refine⟨false,rfl,⟨fun h=>(by cases h),fun h=> ?_⟩⟩;obtain⟨p,hp,hq⟩:=List.any_eq_true.1 ha;obtain⟨g1,g2⟩:=h.pm p hp;unfold pmB at hq;rw[g1,g2]at hq;cases hq
   |false=>
    have hpm:PM old new x.2.2.1:=fun p h=>by
     have:=List.any_eq_false.1 ha p h;unfold pmB at this;simpa using this
    simp only[cond_false];cases h1:qdz old run with
    |none=>exact⟨false,rfl,⟨fun h=>(by cases h),fun h=>by obtain⟨a,v,w,e,_⟩:=h.hist;rw[h1]at e;cases e⟩⟩
    |some av=>
     obtain⟨a,v⟩:=av;cases h2:qdz new x.2.1 with
     |none=>exact⟨false,rfl,⟨fun h=>(by cases h),fun h=>by obtain⟨a,v,w,_,e,_⟩:=h.hist;rw[h2]at e;cases e⟩⟩
     |some bw=>
      obtain⟨b,w⟩:=bw;obtain⟨r1,r2,r3⟩:=qd0 h1;obtain⟨s1,s2,s3⟩:=qd0 h2;have hv:v.length≤1000000:=by have:=qhy old run;rw[r3];omega
      have hb:=b7 (qhh hn vn (qep hn vn _) s2);obtain⟨e,e1,e2⟩:=je3 v w hv;have key:Cert old new run x↔e=true∧b=x.1∧n8 x.2.2.1 a b=true∧qre (qpn old new x.2.2.1) x.2.2.1<0:=by
       have hi:qre (qpn old new x.2.2.1) x.2.2.1<0↔∀p∈x.2.2.1,gb old new (n8 x.2.2.1) p.1 p.2.1=true:=by
        have:=q99 (qpn old new x.2.2.1) x.2.2.1;rw[Bool.eq_iff_iff,decide_eq_true_iff,Bool.not_eq_true',List.any_eq_false]at this;rw[this];unfold qpn;simp
       rw[hi];constructor
       ·rintro⟨_,_,_,_,_,⟨a',v',w',g1,g2,g3,g4⟩,g5⟩;rw[h1]at g1;rw[h2]at g2;cases g1;injection g2 with g2
        injection g2 with g2 g6
        subst g2 g6;exact⟨e2.2 g3,rfl,g4,g5⟩
       ·rintro⟨g1,g2,g3,g4⟩;exact⟨a1,c1,vo,vn,hpm,⟨a,v,w,h1,by rw[h2,g2],e2.1 g1,by rw[←g2];exact g3⟩,g4⟩
      rw[key];simp only[Bool.not_true,cond_false,e1,ah];cases e with
      |false=>exact⟨false,rfl,by simp⟩
      |true=>
       rw[sx b x.1 (by omega)];simp only[Bool.not_true,cond_false,ah];by_cases hbx:b=x.1
       ·rw[decide_eq_true hbx,jjf _ _ _ (by omega) hp];simp only[Bool.not_true,cond_false,ah];cases hin:n8 x.2.2.1 a b with
        |false=>exact⟨false,rfl,by simp⟩
        |true=>
         simp only[Bool.not_true,cond_false];rw[q8v ho hn vo vn (by omega) hpm,ah];exact⟨_,rfl,by rw[decide_eq_true_iff];simp[hbx]⟩
       ·rw[decide_eq_false hbx];exact⟨false,rfl,by simp[hbx]⟩
end Go.Proofs.YtdhfhpdadbopkaaGreat
