/-
  Migrate: histories of the reference; the law MigrateCompliant.
-/
import Derived.Test.YtdhfhpdadbopkaaZ6MB
set_option linter.all false
namespace Go.Proofs.Ytdhfhpdadbopkaa
open Go.K Go.M
theorem q4j{n:az}(h:Small n)(hv:cd n=true){m:List Int}(hm:fa n.1 m=true)(t:Int):ny n m t=some (i4 n m t):=by
 obtain⟨p1,p2,_⟩:=fq hv h;have hlen:=qbc hm;by_cases hc:0≤t∧t<(n.2.1.length:Int)
 ·obtain⟨k,rfl⟩:=Int.eq_ofNat_of_zero_le hc.1;rw[qnl hc.1 hc.2];exact qxj h hv hm (by omega)
 ·rw[qp0 hc];unfold ny;rw[y4 h,hv,aq,yf n m (by omega),hm,aq,Bool.not_true,cond_false,cond_false];by_cases h0:t<0
  ·rw[fo h0]
  ·rw[lj (by omega),quy (by omega)]
theorem q86{n:az}(h:Small n)(hv:cd n=true){m:List Int}(hm:fa n.1 m=true)(l:List Int)(hl:l.length≤100000):
  ∃r,qjz n m l=some r∧(r.2.2=0→l.length≤1000∧zx n l m=some r.1)∧(l.length≤1000→∀x,zx n l m=some x→r=(x,(l.length:Int),0)):=by
 obtain⟨p1,p2,_⟩:=fq hv h;have hlen:=qbc hm;unfold qjz;rw[y4 h,hv,aq,yf n m (by omega),hm,aq,Bool.not_true,cond_false,cond_false];by_cases hc:(1000:Int)<(l.length:Int)
 ·rw[fo hc];exact⟨_,rfl,fun h=>(by cases h),fun h=>(by omega)⟩
 ·have hL:qsp l n.1 n.2.1 n.2.2.1 n.2.2.2.1 (m,0)=some (qza n l.length l m):=by
   refine qzy l (0:Int) (i6 (by omega)) (fun i a=>(a,(i:Int))) (fun _ a=>fa n.1 a=true) (qza n l.length) (fun a _=> ?_) (fun i a hi ha=> ?_) m hm _ rfl
   ·simp(disch:=omega)only[vj,rs];rfl
   ·have hF:ny (n.1,n.2.1,n.2.2.1,n.2.2.2.1,()) a (l.getD i 0)=some (i4 n a (l.getD i 0)):=q4j h hv ha _;rw[q0b];by_cases h0:(i4 n a (l.getD i 0)).1=0
    ·refine .inl ⟨(i4 n a (l.getD i 0)).2,?_,qlw h hv ha h0,?_⟩
     ·simp(disch:=omega)only[vj,hF,h0,am,rs]
     ·rw[if_pos h0]
    ·refine .inr ?_;have el:(l.drop (i+1)).length+1=l.length-i:=by rw[List.length_drop];omega
     have el' :((l.length:Nat):Int)-((l.length-i:Nat):Int)=(i:Int):=by omega
     rw[if_neg h0,el,el'];simp(disch:=omega)only[vj,hF,h0,rs];rfl
  rw[lj (by omega),jj (by omega) (by omega),List.nil_append,hL,aq];rcases q2l n l.length l m with⟨x,e1,e2⟩|⟨e1,r,e2,e3⟩
  ·rw[e2];exact⟨_,rfl,fun _=>⟨by omega,e1⟩,fun _ y hy=>by rw[e1]at hy;cases hy;rfl⟩
  ·rw[e2];exact⟨r,rfl,fun h=>absurd h e3,fun _ y hy=>by rw[e1]at hy;cases hy⟩
theorem q6a{n:az}(h:Small n)(hv:cd n=true)(l:List Int)(hl:l.length≤1000)(hi:∀t∈l,0≤t∧t<(n.2.1.length:Int)):qfz n l=some (0,zd n l):=by
 have hL:qox l n.1 n.2.1 n.2.2.1 n.2.2.2.1 (0,[])=some (.inl (zd n l)):=by
  refine x0 (fun i=>((i:Int),zd n (l.take i))) l.length (i6 (by omega)) _ (fun i hlt=> ?_) ?_ _ rfl
  ·have hm:=hi _ (a7 0 hlt);have hw:=qru n (l.take i);have ht:(l.take i).length=i:=by rw[List.length_take];omega
   have e1:qdp n (l.getD i 0).toNat=(n.2.1.getD (l.getD i 0).toNat af.z).1:=rfl;have e2:eqS (n.2.1.getD (l.getD i 0).toNat af.z).1 ⟨#[]⟩=qml n (l.getD i 0).toNat:=rfl;rw[fp l i 0 hlt,qf8,e1];unfold yd;simp only[sw];rw[fo (by omega),a8 (by omega) (by omega),a8 (by omega) (by omega)];simp only[Int.toNat_natCast];rw[lj (by omega),a8 (by omega) (by omega),a8 (by omega) (by omega),qjm (by omega),a8 (by omega) (by omega),a8 (by omega) (by omega),a8 (by omega) (by omega),a8 (by omega) (by omega),e2];cases qml n (l.getD i 0).toNat with
   |true=>
    simp(disch:=omega)only[am,Bool.not_true,if_true,rs]
   |false=>
    simp(disch:=omega)only[am,Bool.not_false,Bool.false_eq_true,if_false,rs]
  ·rw[List.take_length];simp(disch:=omega)only[yd,rs]
 unfold qfz;rw[y4 h,hv,aq,Bool.not_true,cond_false,lj (by omega),hL];rfl
theorem qls{n:az}(h:Small n)(hv:cd n=true)(l:List Int)(hl:l.length≤100000):
  sd n l=some (match qkw n l with|some (x,w)=>(x,true,w)|none=>([],false,[])):=by
 obtain⟨p1,p2,p3,p4,p5,_⟩:=fq hv h;obtain⟨r,h1,h2,h3⟩:=q86 h hv (qn9 h hv n.2.2.1) l hl;unfold sd qkw;rw[(q52 h hv p4).2,aq,h1,aq];by_cases hz:r.2.2=0
 ·obtain⟨g1,g2⟩:=h2 hz;have hr:zx n l (qdl n)=some r.1:=g2;rw[if_pos g1,hr,decide_eq_true hz,q6a h hv l g1 (q2k g2)];rfl
 ·rw[decide_eq_false hz];by_cases hc:l.length≤1000
  ·rw[if_pos hc];cases hr:zx n l (qdl n)with
   |none=>rfl
   |some x=>exact absurd (by rw[h3 hc x hr]) hz
  ·rw[if_neg hc];rfl
theorem jaf{old new:az}(ho:Small old)(hn:Small new)(run:List Int)(hr:run.length≤100000)(most:Int):
  (∃f,f≠0∧mm old new run most=some ([],f,[])∧ur old new run most=some f)∨
  (∃x w,eu old=some true∧eu new=some true∧cd old=true∧cd new=true∧qkw old run=some (x,w)∧1≤most∧most≤2000∧mm old new run most=some (x,0,w)∧ur old new run most=some 0):=by
 obtain⟨w1,a1,a2,a3⟩:=qrx ho;obtain⟨w2,c1,c2,c3⟩:=qrx hn;unfold mm ur qau;rw[a1,a2,c1,c2];simp only[aq];cases w1 with
 |false=>exact .inl ⟨1,by decide,rfl,rfl⟩
 |true=>
  cases w2 with
  |false=>exact .inl ⟨1,by decide,rfl,rfl⟩
  |true=>
   have vo:=(a3.1 rfl).1;have vn:=(c3.1 rfl).1;rw[q5n ho vo run hr,qls ho vo run hr];simp only[Bool.not_true,cond_false,aq,decide_true];cases hh:qkw old run with
   |none=>exact .inl ⟨12,by decide,rfl,rfl⟩
   |some xw=>
    obtain⟨x,w⟩:=xw;simp only[Bool.not_true,cond_false];by_cases m1:most<1
    ·rw[decide_eq_true m1,cond_true,cond_true];exact .inl ⟨2,by decide,rfl,rfl⟩
    ·rw[decide_eq_false m1,cond_false,cond_false];by_cases m2:2000<most
     ·rw[decide_eq_true m2,cond_true,cond_true];exact .inl ⟨2,by decide,rfl,rfl⟩
     ·rw[decide_eq_false m2,cond_false,cond_false];exact .inr ⟨x,w,trivial,trivial,vo,vn,rfl,by omega,by omega,rfl,rfl⟩
theorem qzf{n:az}{w:List ByteArray}{M:Nat}:∀(f i:Nat) (out:List m3),out.length≤M→(∀p∈out,p.2.2.1.length≤i)→∀o,(p0 n w M f i out= .inl o∨p0 n w M f i out= .inr o)→∀p∈o,p.2.2.1.length≤i+f
 |0,i,out,h,hq,o,hb,p,hp=>by
  rcases hb with hb|hb
  ·obtain rfl:out=o:=by injection hb
   exact hq p hp
  ·cases hb
 |f+1,i,out,h,hq,o,hb,p,hp=>by
  unfold p0 at hb;by_cases hi:i<out.length
  ·rw[if_pos hi]at hb;obtain⟨o1,h1,h2,h3,h4,h5,h6,h7⟩:=qa9 (cs:=ud n w (out.getD i ab.z)) h;have hx:=hq _ (a7 ab.z hi);have ho1:∀p∈o1,p.2.2.1.length≤i+1:=fun p hp=>by
    rcases h5 p hp with hp|hp
    ·have:=hq p hp;omega
    ·obtain⟨t,_,_,k,_,rfl⟩:=qu1.1 hp;show((out.getD i ab.z).2.2.1++[(t:Int)]).length≤i+1;rw[List.length_append,List.length_singleton];omega
   rcases h1 with h1|⟨h1,_⟩
   ·rw[h1]at hb;have:=qzf f (i+1) o1 h2 ho1 o hb p hp;omega
   ·rw[h1]at hb;rcases hb with hb|hb
    ·cases hb
    ·obtain rfl:o1=o:=by injection hb
     have:=ho1 p hp;omega
  ·rw[if_neg hi]at hb;rcases hb with hb|hb
   ·obtain rfl:out=o:=by injection hb
    have:=hq p hp;omega
   ·cases hb
theorem q9q(l:List m3)(w:List ByteArray)(hl:l.length≤1000000):bh l w=some (q8r (fun p:m3=>decide (p.1=(w.length:Int))) l):=by
 have hL:cq l w (l.length:Int) 0=some (qxz (fun i=>(i:Int)) (ro (fun p:m3=>decide (p.1=(w.length:Int))) l)):=by
  refine qb l ab.z (fun p:m3=>decide (p.1=(w.length:Int))) (fun i=>(i:Int)) (by omega) (fun i hi=> ?_) ?_
  ·simp(disch:=omega)only[bg,rc,rs];rw[am];exact qjh
  ·simp(disch:=omega)only[bg,rs]
 unfold bh;rw[hL,aq,qfm]
def qpt(w:List ByteArray)(o:List m3)(all:Bool):Bool×List Int×Int:=match ro (fun p:m3=>decide (p.1=(w.length:Int))) o with|some i=>(true,(o.getD i ab.z).2.2.1,0)|none=>(false,[],bif all then 0 else 13)
theorem qpd(w:List ByteArray){M:Nat}{R o:List m3}(more:Bool)(hl:o.length≤M)(hM:M≤2000)(hR:R=o∨∃c,R=o++[c]∧o.length=M):
  qcx w (M:Int) R more 0=some (qxz (fun i=>(true,(o.getD i ab.z).2.2.1,(0:Int))) (ro (fun p:m3=>decide (p.1=(w.length:Int))) o)):=by
 have hRl:o.length≤R.length∧R.length≤3000:=by
  rcases hR with rfl|⟨c,rfl,e⟩
  ·omega
  ·rw[List.length_append,List.length_singleton];omega
 have hRg:∀i,i<o.length→R.getD i ab.z=o.getD i ab.z:=fun i hi=>by
  rcases hR with rfl|⟨c,rfl,e⟩
  ·rfl
  ·rw[List.getD_eq_getElem?_getD,List.getD_eq_getElem?_getD,List.getElem?_append_left hi]
 refine qb o ab.z (fun p:m3=>decide (p.1=(w.length:Int))) _ (by omega) (fun i hi=> ?_) ?_
 ·unfold n4;rw[fo (by omega),fo (by omega),a8 (by omega) (by omega),a8 (by omega) (by omega)];simp only[Int.toNat_natCast];simp only[hRg i hi];cases decide ((o.getD i ab.z).1=(w.length:Int))with
  |true=>rw[cond_true,a8 (by omega) (by omega),a8 (by omega) (by omega)];rfl
  |false=>rw[cond_false,gm (by omega) (by omega),am];rfl
 ·unfold n4;rcases hR with rfl|⟨c,rfl,e⟩
  ·rw[lj (by omega)]
  ·rw[fo (by rw[List.length_append,List.length_singleton];omega),lj (by omega)]
theorem qxy{old new:az}(hn:Small new){run:List Int}{M:Nat}{x:List Int}{w:List ByteArray}(vn:cd new=true)(hw:w.length≤1000)(hM:M≤2000)(hM1:1≤M)(hg:mm old new run (M:Int)=some (x,0,w)):
  ∃o all,o.length≤M∧(p0 new w M (M+1) 0 (first new)=(bif all then .inl o else .inr o))∧(∀p∈o,p.2.2.1.length≤M+1)∧i7 old new run (M:Int)=some (qpt w o all)∧s4 new w (M:Int)=some (qpt w o all):=by
 obtain⟨R,r1,r2⟩:=qud hn vn hw hM hM1;have hpos:=q12 hn vn hw hM hM1;have hrun:∀o,(p0 new w M (M+1) 0 (first new)= .inl o∨p0 new w M (M+1) 0 (first new)= .inr o)→∀p∈o,p.2.2.1.length≤0+(M+1):=qzf (M+1) 0 (first new) (by show 1≤M;omega) (fun p hp=>by rw[List.mem_singleton.1 hp];exact Nat.le_refl _);have key:∃o all,o.length≤M∧(p0 new w M (M+1) 0 (first new)=(bif all then .inl o else .inr o))∧(R=o∨∃c,R=o++[c]∧o.length=M)∧decide ((M:Int)<(R.length:Int))= !all∧i9 new w (M:Int)=some (all,o):=by
  rcases r2 with⟨e1,e2⟩|⟨o,c,e1,e2,e3⟩
  ·exact⟨R,true,e2,e1, .inl rfl,decide_eq_false (by omega),by rw[hpos,e1]⟩
  ·exact⟨o,false,by omega,e1, .inr ⟨c,e2,e3⟩,decide_eq_true (by rw[e2,List.length_append,List.length_singleton];omega),by rw[hpos,e1]⟩
 obtain⟨o,all,k1,k2,k3,k4,k5⟩:=key;refine⟨o,all,k1,k2,fun p hp=> ?_,?_,?_⟩
 ·have:=hrun o (by cases all with|true=>exact .inl k2|false=>exact .inr k2) p hp;omega
 ·unfold i7 qpt;rw[hg,aq];dsimp only;rw[decide_eq_true rfl,Bool.not_true,cond_false,k5,aq];dsimp only;rw[q9q o w (by omega),aq];unfold q8r;cases hf:ro (fun p:m3=>decide (p.1=(w.length:Int))) o with
  |none=>
   cases all<;>rfl
  |some i=>
   have hi:=(qjs ab.z hf).1;dsimp only;rw[quy (by omega),a8 (by omega) (by omega),a8 (by omega) (by omega)];rfl
 ·unfold s4 qpt;rw[r1,aq];dsimp only;rw[k4,qpd w _ k1 hM k3,aq];cases ro (fun p:m3=>decide (p.1=(w.length:Int))) o with
  |none=>cases all<;>rfl
  |some i=>rfl
theorem q4z{w:List ByteArray}{o:List m3}{all:Bool}{N:Nat}(h:∀p∈o,p.2.2.1.length≤N):(qpt w o all).2.1.length≤N:=by
 unfold qpt;cases hf:ro (fun p:m3=>decide (p.1=(w.length:Int))) o with
 |none=>exact Nat.zero_le _
 |some i=>exact h _ (a7 ab.z (qjs ab.z hf).1)
theorem quq{old new:az}(ho:Small old)(hn:Small new)(run:List Int)(hr:run.length≤100000)(most:Int):gn run most old.1 old.2.1 old.2.2.1 old.2.2.2.1 new.1 new.2.1 new.2.2.1 new.2.2.2.1=some (.inr true):=by
 have eo:((old.1,old.2.1,old.2.2.1,old.2.2.2.1,()):az)=old:=rfl;have en:((new.1,new.2.1,new.2.2.1,new.2.2.2.1,()):az)=new:=rfl;unfold gn ly;rw[eo,en];rcases jaf ho hn run hr most with⟨f,f1,f2,f3⟩|⟨x,w,w1,w2,vo,vn,hh,m1,m2,g1,g2⟩
 ·have hC:i7 old new run most=some (false,[],f):=by
   unfold i7;rw[f2,aq];dsimp only;rw[decide_eq_false f1,Bool.not_false,cond_true]
  rw[hC,aq,f3,aq,decide_eq_false f1];dsimp only;rw[decide_eq_true rfl];rfl
 ·obtain⟨M,rfl⟩:=Int.eq_ofNat_of_zero_le (show 0≤most by omega);obtain⟨s1,s2,s3⟩:=q5m hh;have hw:w.length≤1000:=by have:=qru old run;rw[s3];omega
  obtain⟨o,all,k1,k2,k3,k4,k5⟩:=qxy (old:=old) (run:=run) hn vn hw (by omega) (by omega) g1;have hl:=q4z (w:=w) (all:=all) k3;rw[k4,aq,g2,aq,qls ho vo run hr,hh,aq];dsimp only;rw[decide_eq_true rfl,Bool.not_true,cond_false,k5,aq,beq_self_eq_true,cond_true,q75 _ _ (by omega),aq,decide_eq_true rfl,cond_true,decide_eq_true rfl]
theorem qhd(old new:az)(run:List Int)(most:Int):nu old new run most=some true:=by
 unfold nu;rw[q41];obtain⟨b1,e1,g1⟩:=q3o old;obtain⟨b2,e2,g2⟩:=q3o new;obtain⟨b3,e3,g3⟩:=jc3 run;simp only[aq,Bool.not_true,cond_false];rw[e1,aq];cases b1 with
 |true=>rfl
 |false=>
 rw[cond_false,e2,aq];cases b2 with
 |true=>rfl
 |false=>
 rw[cond_false,e3,aq];cases b3 with
 |true=>rfl
 |false=>
 have g3:=g3 rfl;rw[cond_false,quq (g1 rfl).small (g2 rfl).small run (by omega) most];cases decide ((60:Int)<most)with
 |false=>rfl
 |true=>
  cases decide (most≤2000)<;>rfl
end Go.Proofs.Ytdhfhpdadbopkaa
