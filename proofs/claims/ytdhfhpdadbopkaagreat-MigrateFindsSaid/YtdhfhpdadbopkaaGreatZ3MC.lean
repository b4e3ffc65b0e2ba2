/-
  Migrate: histories of the reference; the law MigrateCompliant.
-/
import Derived.Test.YtdhfhpdadbopkaaGreatZ3MB
set_option linter.all false
namespace Go.Proofs.YtdhfhpdadbopkaaGreat
open Go.K Go.M
theorem jbd{n:a7}(h:Small n)(hv:bu n=true){m:List Int}(hm:bq n.1 m=true)(t:Int):gg n m t=some (j4 n m t):=by
 obtain⟨p1,p2,_⟩:=ba hv h;have hlen:=b7 hm;by_cases hc:0≤t∧t<(n.2.1.length:Int)
 ·obtain⟨k,rfl⟩:=Int.eq_ofNat_of_zero_le hc.1;rw[qra hc.1 hc.2];exact qey h hv hm (by omega)
 ·rw[qua hc];unfold gg;rw[qb4 h,hv,ah,qu n m (by omega),hm,ah,Bool.not_true,cond_false,cond_false];by_cases h0:t<0
  ·rw[cg h0]
  ·rw[cp (by omega),qpo (by omega)]
theorem jgb{n:a7}(h:Small n)(hv:bu n=true){m:List Int}(hm:bq n.1 m=true)(l:List Int)(hl:l.length≤100000):
  ∃r,qni n m l=some r∧(r.2.2=0→l.length≤1000∧qb5 n l m=some r.1)∧(l.length≤1000→∀x,qb5 n l m=some x→r=(x,(l.length:Int),0)):=by
 obtain⟨p1,p2,_⟩:=ba hv h;have hlen:=b7 hm;unfold qni;rw[qb4 h,hv,ah,qu n m (by omega),hm,ah,Bool.not_true,cond_false,cond_false];by_cases hc:(1000:Int)<(l.length:Int)
 ·rw[cg hc];exact⟨_,rfl,fun h=>(by cases h),fun h=>(by omega)⟩
 ·have hL:qxf l n.1 n.2.1 n.2.2.1 n.2.2.2.1 (m,0)=some (q41 n l.length l m):=by
   refine q5q l (0:Int) (cr (by omega)) (fun i a=>(a,(i:Int))) (fun _ a=>bq n.1 a=true) (q41 n l.length) (fun a _=> ?_) (fun i a hi ha=> ?_) m hm _ rfl
   ·simp(disch:=omega)only[y5,rs];rfl
   ·have hF:gg (n.1,n.2.1,n.2.2.1,n.2.2.2.1,()) a (l.getD i 0)=some (j4 n a (l.getD i 0)):=jbd h hv ha _;rw[q58];by_cases h0:(j4 n a (l.getD i 0)).1=0
    ·refine .inl ⟨(j4 n a (l.getD i 0)).2,?_,qpq h hv ha h0,?_⟩
     ·simp(disch:=omega)only[y5,hF,h0,ai,rs]
     ·rw[if_pos h0]
    ·refine .inr ?_;have el:(l.drop (i+1)).length+1=l.length-i:=by rw[List.length_drop];omega
     have el' :((l.length:Nat):Int)-((l.length-i:Nat):Int)=(i:Int):=by omega
     rw[if_neg h0,el,el'];simp(disch:=omega)only[y5,hF,h0,rs];rfl
  rw[cp (by omega),d9 (by omega) (by omega),List.nil_append,hL,ah];rcases q8r n l.length l m with⟨x,e1,e2⟩|⟨e1,r,e2,e3⟩
  ·rw[e2];exact⟨_,rfl,fun _=>⟨by omega,e1⟩,fun _ y hy=>by rw[e1]at hy;cases hy;rfl⟩
  ·rw[e2];exact⟨r,rfl,fun h=>absurd h e3,fun _ y hy=>by rw[e1]at hy;cases hy⟩
theorem jc4{n:a7}(h:Small n)(hv:bu n=true)(l:List Int)(hl:l.length≤1000)(hi:∀t∈l,0≤t∧t<(n.2.1.length:Int)):qir n l=some (0,qam n l):=by
 have hL:qst l n.1 n.2.1 n.2.2.1 n.2.2.2.1 (0,[])=some (.inl (qam n l)):=by
  refine f9 (fun i=>((i:Int),qam n (l.take i))) l.length (cr (by omega)) _ (fun i hlt=> ?_) ?_ _ rfl
  ·have hm:=hi _ (au 0 hlt);have hw:=qhy n (l.take i);have ht:(l.take i).length=i:=by rw[List.length_take];omega
   have e1:mu n (l.getD i 0).toNat=(n.2.1.getD (l.getD i 0).toNat af.z).1:=rfl;have e2:eqS (n.2.1.getD (l.getD i 0).toNat af.z).1 ⟨#[]⟩=qly n (l.getD i 0).toNat:=rfl;rw[a8 l i 0 hlt,qi3,e1];unfold qbj;simp only[lb];rw[cg (by omega),ao (by omega) (by omega),ao (by omega) (by omega)];simp only[Int.toNat_natCast];rw[cp (by omega),ao (by omega) (by omega),ao (by omega) (by omega),qc9 (by omega),ao (by omega) (by omega),ao (by omega) (by omega),ao (by omega) (by omega),ao (by omega) (by omega),e2];cases qly n (l.getD i 0).toNat with
   |true=>
    simp(disch:=omega)only[ai,Bool.not_true,if_true,rs]
   |false=>
    simp(disch:=omega)only[ai,Bool.not_false,Bool.false_eq_true,if_false,rs]
  ·rw[List.take_length];simp(disch:=omega)only[qbj,rs]
 unfold qir;rw[qb4 h,hv,ah,Bool.not_true,cond_false,cp (by omega),hL];rfl
theorem vf{n:a7}(h:Small n)(hv:bu n=true)(l:List Int)(hl:l.length≤100000):
  og n l=some (match qdz n l with|some (x,w)=>(x,true,w)|none=>([],false,[])):=by
 obtain⟨p1,p2,p3,p4,p5,_⟩:=ba hv h;obtain⟨r,h1,h2,h3⟩:=jgb h hv (qep h hv n.2.2.1) l hl;unfold og qdz;rw[(qu8 h hv p4).2,ah,h1,ah];by_cases hz:r.2.2=0
 ·obtain⟨g1,g2⟩:=h2 hz;have hr:qb5 n l (qd1 n)=some r.1:=g2;rw[if_pos g1,hr,decide_eq_true hz,jc4 h hv l g1 (q8q g2)];rfl
 ·rw[decide_eq_false hz];by_cases hc:l.length≤1000
  ·rw[if_pos hc];cases hr:qb5 n l (qd1 n)with
   |none=>rfl
   |some x=>exact absurd (by rw[h3 hc x hr]) hz
  ·rw[if_neg hc];rfl
theorem jhq{old new:a7}(ho:Small old)(hn:Small new)(run:List Int)(hr:run.length≤100000)(most:Int):
  (∃f,f≠0∧n9 old new run most=some ([],f,[])∧yd old new run most=some f)∨
  (∃x w,ea old=some true∧ea new=some true∧bu old=true∧bu new=true∧qdz old run=some (x,w)∧1≤most∧most≤2000∧n9 old new run most=some (x,0,w)∧yd old new run most=some 0):=by
 obtain⟨w1,a1,a2,a3⟩:=xn ho;obtain⟨w2,c1,c2,c3⟩:=xn hn;unfold n9 yd yk;rw[a1,a2,c1,c2];simp only[ah];cases w1 with
 |false=>exact .inl ⟨1,by decide,rfl,rfl⟩
 |true=>
  cases w2 with
  |false=>exact .inl ⟨1,by decide,rfl,rfl⟩
  |true=>
   have vo:=(a3.1 rfl).1;have vn:=(c3.1 rfl).1;rw[qpu ho vo run hr,vf ho vo run hr];simp only[Bool.not_true,cond_false,ah,decide_true];cases hh:qdz old run with
   |none=>exact .inl ⟨12,by decide,rfl,rfl⟩
   |some xw=>
    obtain⟨x,w⟩:=xw;simp only[Bool.not_true,cond_false];by_cases m1:most<1
    ·rw[decide_eq_true m1,cond_true,cond_true];exact .inl ⟨2,by decide,rfl,rfl⟩
    ·rw[decide_eq_false m1,cond_false,cond_false];by_cases m2:2000<most
     ·rw[decide_eq_true m2,cond_true,cond_true];exact .inl ⟨2,by decide,rfl,rfl⟩
     ·rw[decide_eq_false m2,cond_false,cond_false];exact .inr ⟨x,w,trivial,trivial,vo,vn,rfl,by omega,by omega,rfl,rfl⟩
theorem q46{n:a7}{w:List ByteArray}{M:Nat}:∀(f i:Nat) (out:List jk),out.length≤M→(∀p∈out,p.2.2.1.length≤i)→∀o,(pf n w M f i out= .inl o∨pf n w M f i out= .inr o)→∀p∈o,p.2.2.1.length≤i+f
 |0,i,out,h,hq,o,hb,p,hp=>by
  rcases hb with hb|hb
  ·obtain rfl:out=o:=by injection hb
   exact hq p hp
  ·cases hb
 |f+1,i,out,h,hq,o,hb,p,hp=>by
  unfold pf at hb;by_cases hi:i<out.length
  ·rw[if_pos hi]at hb;obtain⟨o1,h1,h2,h3,h4,h5,h6,h7⟩:=qaq (cs:=uy n w (out.getD i ae.z)) h;have hx:=hq _ (au ae.z hi);have ho1:∀p∈o1,p.2.2.1.length≤i+1:=fun p hp=>by
    rcases h5 p hp with hp|hp
    ·have:=hq p hp;omega
    ·obtain⟨t,_,_,k,_,rfl⟩:=qz3.1 hp;show((out.getD i ae.z).2.2.1++[(t:Int)]).length≤i+1;rw[List.length_append,List.length_singleton];omega
   rcases h1 with h1|⟨h1,_⟩
   ·rw[h1]at hb;have:=q46 f (i+1) o1 h2 ho1 o hb p hp;omega
   ·rw[h1]at hb;rcases hb with hb|hb
    ·cases hb
    ·obtain rfl:o1=o:=by injection hb
     have:=ho1 p hp;omega
  ·rw[if_neg hi]at hb;rcases hb with hb|hb
   ·obtain rfl:out=o:=by injection hb
    have:=hq p hp;omega
   ·cases hb
end Go.Proofs.YtdhfhpdadbopkaaGreat
