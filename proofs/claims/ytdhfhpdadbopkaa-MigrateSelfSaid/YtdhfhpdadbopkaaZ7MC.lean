/-
  Migrate: histories of the reference; the law MigrateCompliant.
-/
import Derived.Test.YtdhfhpdadbopkaaZ7MB
set_option linter.all false
namespace Go.Proofs.Ytdhfhpdadbopkaa
open Go.K Go.M
theorem q68{n:az}(h:Small n)(hv:bv n=true){m:List Int}(hm:bu n.1 m=true)(t:Int):mw n m t=some (jo n m t):=by
 obtain⟨p1,p2,_⟩:=bi hv h;have hlen:=c0 hm;by_cases hc:0≤t∧t<(n.2.1.length:Int)
 ·obtain⟨k,rfl⟩:=Int.eq_ofNat_of_zero_le hc.1;rw[qpp hc.1 hc.2];exact qo3 h hv hm (by omega)
 ·rw[qr6 hc];unfold mw;rw[qbq h,hv,ah,qa6 n m (by omega),hm,ah,Bool.not_true,cond_false,cond_false];by_cases h0:t<0
  ·rw[cj h0]
  ·rw[df (by omega),qr0 (by omega)]
theorem jb8{n:az}(h:Small n)(hv:bv n=true){m:List Int}(hm:bu n.1 m=true)(l:List Int)(hl:l.length≤100000):
  ∃r,ql6 n m l=some r∧(r.2.2=0→l.length≤1000∧xl n l m=some r.1)∧(l.length≤1000→∀x,xl n l m=some x→r=(x,(l.length:Int),0)):=by
 obtain⟨p1,p2,_⟩:=bi hv h;have hlen:=c0 hm;unfold ql6;rw[qbq h,hv,ah,qa6 n m (by omega),hm,ah,Bool.not_true,cond_false,cond_false];by_cases hc:(1000:Int)<(l.length:Int)
 ·rw[cj hc];exact⟨_,rfl,fun h=>(by cases h),fun h=>(by omega)⟩
 ·have hL:quu l n.1 n.2.1 n.2.2.1 n.2.2.2.1 (m,0)=some (q1h n l.length l m):=by
   refine q17 l (0:Int) (dl (by omega)) (fun i a=>(a,(i:Int))) (fun _ a=>bu n.1 a=true) (q1h n l.length) (fun a _=> ?_) (fun i a hi ha=> ?_) m hm _ rfl
   ·simp(disch:=omega)only[yo,rs];rfl
   ·have hF:mw (n.1,n.2.1,n.2.2.1,n.2.2.2.1,()) a (l.getD i 0)=some (jo n a (l.getD i 0)):=q68 h hv ha _;rw[q2k];by_cases h0:(jo n a (l.getD i 0)).1=0
    ·refine .inl ⟨(jo n a (l.getD i 0)).2,?_,qn6 h hv ha h0,?_⟩
     ·simp(disch:=omega)only[yo,hF,h0,aj,rs]
     ·rw[if_pos h0]
    ·refine .inr ?_;have el:(l.drop (i+1)).length+1=l.length-i:=by rw[List.length_drop];omega
     have el' :((l.length:Nat):Int)-((l.length-i:Nat):Int)=(i:Int):=by omega
     rw[if_neg h0,el,el'];simp(disch:=omega)only[yo,hF,h0,rs];rfl
  rw[df (by omega),gl (by omega) (by omega),List.nil_append,hL,ah];rcases q4w n l.length l m with⟨x,e1,e2⟩|⟨e1,r,e2,e3⟩
  ·rw[e2];exact⟨_,rfl,fun _=>⟨by omega,e1⟩,fun _ y hy=>by rw[e1]at hy;cases hy;rfl⟩
  ·rw[e2];exact⟨r,rfl,fun h=>absurd h e3,fun _ y hy=>by rw[e1]at hy;cases hy⟩
theorem q8x{n:az}(h:Small n)(hv:bv n=true)(l:List Int)(hl:l.length≤1000)(hi:∀t∈l,0≤t∧t<(n.2.1.length:Int)):qh2 n l=some (0,o9 n l):=by
 have hL:qq6 l n.1 n.2.1 n.2.2.1 n.2.2.2.1 (0,[])=some (.inl (o9 n l)):=by
  refine nt (fun i=>((i:Int),o9 n (l.take i))) l.length (dl (by omega)) _ (fun i hlt=> ?_) ?_ _ rfl
  ·have hm:=hi _ (aw 0 hlt);have hw:=qma n (l.take i);have ht:(l.take i).length=i:=by rw[List.length_take];omega
   have e1:ns n (l.getD i 0).toNat=(n.2.1.getD (l.getD i 0).toNat af.z).1:=rfl;have e2:eqS (n.2.1.getD (l.getD i 0).toNat af.z).1 ⟨#[]⟩=qhv n (l.getD i 0).toNat:=rfl;rw[bn l i 0 hlt,qib,e1];unfold qa3;simp only[nr];rw[cj (by omega),ao (by omega) (by omega),ao (by omega) (by omega)];simp only[Int.toNat_natCast];rw[df (by omega),ao (by omega) (by omega),ao (by omega) (by omega),qhb (by omega),ao (by omega) (by omega),ao (by omega) (by omega),ao (by omega) (by omega),ao (by omega) (by omega),e2];cases qhv n (l.getD i 0).toNat with
   |true=>
    simp(disch:=omega)only[aj,Bool.not_true,if_true,rs]
   |false=>
    simp(disch:=omega)only[aj,Bool.not_false,Bool.false_eq_true,if_false,rs]
  ·rw[List.take_length];simp(disch:=omega)only[qa3,rs]
 unfold qh2;rw[qbq h,hv,ah,Bool.not_true,cond_false,df (by omega),hL];rfl
theorem q1f{n:az}(h:Small n)(hv:bv n=true)(l:List Int)(hl:l.length≤100000):
  qa5 n l=some (match qdj n l with|some (x,w)=>(x,true,w)|none=>([],false,[])):=by
 obtain⟨p1,p2,p3,p4,p5,_⟩:=bi hv h;obtain⟨r,h1,h2,h3⟩:=jb8 h hv (qd9 h hv n.2.2.1) l hl;unfold qa5 qdj;rw[(qyh h hv p4).2,ah,h1,ah];by_cases hz:r.2.2=0
 ·obtain⟨g1,g2⟩:=h2 hz;have hr:xl n l (uv n)=some r.1:=g2;rw[if_pos g1,hr,decide_eq_true hz,q8x h hv l g1 (q4v g2)];rfl
 ·rw[decide_eq_false hz];by_cases hc:l.length≤1000
  ·rw[if_pos hc];cases hr:xl n l (uv n)with
   |none=>rfl
   |some x=>exact absurd (by rw[h3 hc x hr]) hz
  ·rw[if_neg hc];rfl
theorem jdl{old new:az}(ho:Small old)(hn:Small new)(run:List Int)(hr:run.length≤100000)(most:Int):
  (∃f,f≠0∧jq old new run most=some ([],f,[])∧xz old new run most=some f)∨
  (∃x w,eb old=some true∧eb new=some true∧bv old=true∧bv new=true∧qdj old run=some (x,w)∧1≤most∧most≤2000∧jq old new run most=some (x,0,w)∧xz old new run most=some 0):=by
 obtain⟨w1,a1,a2,a3⟩:=qet ho;obtain⟨w2,c1,c2,c3⟩:=qet hn;unfold jq xz x9;rw[a1,a2,c1,c2];simp only[ah];cases w1 with
 |false=>exact .inl ⟨1,by decide,rfl,rfl⟩
 |true=>
  cases w2 with
  |false=>exact .inl ⟨1,by decide,rfl,rfl⟩
  |true=>
   have vo:=(a3.1 rfl).1;have vn:=(c3.1 rfl).1;rw[qoa ho vo run hr,q1f ho vo run hr];simp only[Bool.not_true,cond_false,ah,decide_true];cases hh:qdj old run with
   |none=>exact .inl ⟨12,by decide,rfl,rfl⟩
   |some xw=>
    obtain⟨x,w⟩:=xw;simp only[Bool.not_true,cond_false];by_cases m1:most<1
    ·rw[decide_eq_true m1,cond_true,cond_true];exact .inl ⟨2,by decide,rfl,rfl⟩
    ·rw[decide_eq_false m1,cond_false,cond_false];by_cases m2:2000<most
     ·rw[decide_eq_true m2,cond_true,cond_true];exact .inl ⟨2,by decide,rfl,rfl⟩
     ·rw[decide_eq_false m2,cond_false,cond_false];exact .inr ⟨x,w,trivial,trivial,vo,vn,rfl,by omega,by omega,rfl,rfl⟩
theorem qrz{n:az}{w:List ByteArray}{M:Nat}:∀(f i:Nat) (out:List iu),out.length≤M→(∀p∈out,p.2.2.1.length≤i)→∀o,(m4 n w M f i out= .inl o∨m4 n w M f i out= .inr o)→∀p∈o,p.2.2.1.length≤i+f
 |0,i,out,h,hq,o,hb,p,hp=>by
  rcases hb with hb|hb
  ·obtain rfl:out=o:=by injection hb
   exact hq p hp
  ·cases hb
 |f+1,i,out,h,hq,o,hb,p,hp=>by
  unfold m4 at hb;by_cases hi:i<out.length
  ·rw[if_pos hi]at hb;obtain⟨o1,h1,h2,h3,h4,h5,h6,h7⟩:=v7 (cs:=rx n w (out.getD i ae.z)) h;have hx:=hq _ (aw ae.z hi);have ho1:∀p∈o1,p.2.2.1.length≤i+1:=fun p hp=>by
    rcases h5 p hp with hp|hp
    ·have:=hq p hp;omega
    ·obtain⟨t,_,_,k,_,rfl⟩:=qjt.1 hp;show((out.getD i ae.z).2.2.1++[(t:Int)]).length≤i+1;rw[List.length_append,List.length_singleton];omega
   rcases h1 with h1|⟨h1,_⟩
   ·rw[h1]at hb;have:=qrz f (i+1) o1 h2 ho1 o hb p hp;omega
   ·rw[h1]at hb;rcases hb with hb|hb
    ·cases hb
    ·obtain rfl:o1=o:=by injection hb
     have:=ho1 p hp;omega
  ·rw[if_neg hi]at hb;rcases hb with hb|hb
   ·obtain rfl:out=o:=by injection hb
    have:=hq p hp;omega
   ·cases hb
theorem jcu(l:List iu)(w:List ByteArray)(hl:l.length≤1000000):bz l w=some (qpt (fun p:iu=>decide (p.1=(w.length:Int))) l):=by
 have hL:d7 l w (l.length:Int) 0=some (qmc (fun i=>(i:Int)) (kz (fun p:iu=>decide (p.1=(w.length:Int))) l)):=by
  refine jl l ae.z (fun p:iu=>decide (p.1=(w.length:Int))) (fun i=>(i:Int)) (by omega) (fun i hi=> ?_) ?_
  ·simp(disch:=omega)only[bq,ui,rs];rw[aj];exact y8
  ·simp(disch:=omega)only[bq,rs]
 unfold bz;rw[hL,ah,vm]
def qg7(w:List ByteArray)(o:List iu)(all:Bool):Bool×List Int×Int:=match kz (fun p:iu=>decide (p.1=(w.length:Int))) o with|some i=>(true,(o.getD i ae.z).2.2.1,0)|none=>(false,[],bif all then 0 else 13)
theorem qrh(w:List ByteArray){M:Nat}{R o:List iu}(more:Bool)(hl:o.length≤M)(hM:M≤2000)(hR:R=o∨∃c,R=o++[c]∧o.length=M):
  qfc w (M:Int) R more 0=some (qmc (fun i=>(true,(o.getD i ae.z).2.2.1,(0:Int))) (kz (fun p:iu=>decide (p.1=(w.length:Int))) o)):=by
 have hRl:o.length≤R.length∧R.length≤3000:=by
  rcases hR with rfl|⟨c,rfl,e⟩
  ·omega
  ·rw[List.length_append,List.length_singleton];omega
 have hRg:∀i,i<o.length→R.getD i ae.z=o.getD i ae.z:=fun i hi=>by
  rcases hR with rfl|⟨c,rfl,e⟩
  ·rfl
  ·rw[List.getD_eq_getElem?_getD,List.getD_eq_getElem?_getD,List.getElem?_append_left hi]
 refine jl o ae.z (fun p:iu=>decide (p.1=(w.length:Int))) _ (by omega) (fun i hi=> ?_) ?_
 ·unfold we;rw[cj (by omega),cj (by omega),ao (by omega) (by omega),ao (by omega) (by omega)];simp only[Int.toNat_natCast];simp only[hRg i hi];cases decide ((o.getD i ae.z).1=(w.length:Int))with
  |true=>rw[cond_true,ao (by omega) (by omega),ao (by omega) (by omega)];rfl
  |false=>rw[cond_false,ci (by omega) (by omega),aj];rfl
 ·unfold we;rcases hR with rfl|⟨c,rfl,e⟩
  ·rw[df (by omega)]
  ·rw[cj (by rw[List.length_append,List.length_singleton];omega),df (by omega)]
theorem qzz{old new:az}(hn:Small new){run:List Int}{M:Nat}{x:List Int}{w:List ByteArray}(vn:bv new=true)(hw:w.length≤1000)(hM:M≤2000)(hM1:1≤M)(hg:jq old new run (M:Int)=some (x,0,w)):
  ∃o all,o.length≤M∧(m4 new w M (M+1) 0 (first new)=(bif all then .inl o else .inr o))∧(∀p∈o,p.2.2.1.length≤M+1)∧il old new run (M:Int)=some (qg7 w o all)∧qi9 new w (M:Int)=some (qg7 w o all):=by
 obtain⟨R,r1,r2⟩:=qwd hn vn hw hM hM1;have hpos:=qhz hn vn hw hM hM1;have hrun:∀o,(m4 new w M (M+1) 0 (first new)= .inl o∨m4 new w M (M+1) 0 (first new)= .inr o)→∀p∈o,p.2.2.1.length≤0+(M+1):=qrz (M+1) 0 (first new) (by show 1≤M;omega) (fun p hp=>by rw[List.mem_singleton.1 hp];exact Nat.le_refl _);have key:∃o all,o.length≤M∧(m4 new w M (M+1) 0 (first new)=(bif all then .inl o else .inr o))∧(R=o∨∃c,R=o++[c]∧o.length=M)∧decide ((M:Int)<(R.length:Int))= !all∧kh new w (M:Int)=some (all,o):=by
  rcases r2 with⟨e1,e2⟩|⟨o,c,e1,e2,e3⟩
  ·exact⟨R,true,e2,e1, .inl rfl,decide_eq_false (by omega),by rw[hpos,e1]⟩
  ·exact⟨o,false,by omega,e1, .inr ⟨c,e2,e3⟩,decide_eq_true (by rw[e2,List.length_append,List.length_singleton];omega),by rw[hpos,e1]⟩
 obtain⟨o,all,k1,k2,k3,k4,k5⟩:=key;refine⟨o,all,k1,k2,fun p hp=> ?_,?_,?_⟩
 ·have:=hrun o (by cases all with|true=>exact .inl k2|false=>exact .inr k2) p hp;omega
 ·unfold il qg7;rw[hg,ah];dsimp only;rw[decide_eq_true rfl,Bool.not_true,cond_false,k5,ah];dsimp only;rw[jcu o w (by omega),ah];unfold qpt;cases hf:kz (fun p:iu=>decide (p.1=(w.length:Int))) o with
  |none=>
   cases all<;>rfl
  |some i=>
   have hi:=(zx ae.z hf).1;dsimp only;rw[qr0 (by omega),ao (by omega) (by omega),ao (by omega) (by omega)];rfl
 ·unfold qi9 qg7;rw[r1,ah];dsimp only;rw[k4,qrh w _ k1 hM k3,ah];cases kz (fun p:iu=>decide (p.1=(w.length:Int))) o with
  |none=>cases all<;>rfl
  |some i=>rfl
end Go.Proofs.Ytdhfhpdadbopkaa
