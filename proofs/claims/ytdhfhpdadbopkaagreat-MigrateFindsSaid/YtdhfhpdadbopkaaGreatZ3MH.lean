/-
  Migrate: the reference's Check and Exists; the law MigrateFinds.
-/
import Derived.Test.YtdhfhpdadbopkaaGreatZ3MF
set_option linter.all false
namespace Go.Proofs.YtdhfhpdadbopkaaGreat
open Go.K Go.M
theorem jaj:∀a:List UInt8,Op.bytesLess a a=false
 |[]=>rfl
 |a::l=>by
  have:¬a<a:=fun h=>absurd (UInt8.lt_iff_toNat_lt.1 h) (by omega)
  simp[Op.bytesLess,this,jaj l]
theorem jjk{v w:List ByteArray}(h:qxq v w)(hv:v.length≤1000000):qim v w=some true:=by
 have hl:v.length=w.length:=by
  have:=congrArg List.length h;rwa[List.length_map,List.length_map]at this
 have hi:∀i,i<v.length→ByteArray.toList (v.getD i ⟨#[]⟩)=ByteArray.toList (w.getD i ⟨#[]⟩):=fun i hi=>by
  rw[ld v i _ hi,ld w i _ (by omega)];have:=congrArg (fun l:List (List UInt8)=>l.getD i []) h;simp only[List.getD_eq_getElem?_getD,List.getElem?_map,List.getElem?_eq_getElem hi,List.getElem?_eq_getElem (show i<w.length by omega),Option.map_some,Option.getD_some]at this;exact this
 have hL:qjv v w 0=some (.inl ()):=by
  refine f9 (fun i=>(i:Int)) v.length (cr (by omega)) _ (fun i hlt=> ?_) ?_ _ rfl
  ·unfold tn;rw[cg (by omega),cg (by omega),ao (by omega) (by omega),ao (by omega) (by omega),ao (by omega) (by omega),ao (by omega) (by omega)];simp only[Int.toNat_natCast];rw[hi i hlt,jaj,cond_false,ao (by omega) (by omega),ao (by omega) (by omega),ao (by omega) (by omega),ao (by omega) (by omega),beq_self_eq_true,Bool.false_or,Bool.not_true,cond_false,br (by omega) (by omega),ai]
  ·unfold tn;rw[cp (by omega)]
 unfold qim qgc;rw[hL,ah,gf,cp (by omega),cp (by omega)];rfl
theorem jbc{old new:a7}(ho:Small old)(hn:Small new){run:List Int}{x:dg}(hr:run.length≤100000)(hx:x.2.1.length≤100000)(hl:x.2.2.1.length≤20000)(hC:Cert old new run x):qfw old new run x=some true:=by
 obtain⟨w1,a1,a2,a3⟩:=xn ho;obtain⟨w2,c1,c2,c3⟩:=xn hn;have e1:w1=true:=by have:=hC.w1;rw[a1]at this;injection this
 have e2:w2=true:=by have:=hC.w2;rw[c1]at this;injection this
 subst e1 e2;have vo:=hC.v1;have vn:=hC.v2;obtain⟨p1,p2,_⟩:=ba vo ho;obtain⟨q1,q2,_⟩:=ba vn hn;have hp:∀p∈x.2.2.1,p.1.length≤1000∧p.2.1.length≤1000:=fun p hp=>by
  have h1:=b7 (hC.pm p hp).1;have h2:=b7 (hC.pm p hp).2;omega
 obtain⟨a,v,w,h1,h2,h3,h4⟩:=hC.hist;obtain⟨r1,r2,r3⟩:=qd0 h1;obtain⟨s1,s2,s3⟩:=qd0 h2;have hv:v.length≤1000000:=by have:=qhy old run;rw[r3];omega
 have hb:=b7 (qhh hn vn (qep hn vn _) s2);have hM:(x.2.2.1.any fun p=> !pmB old new p)=false:=by
  rw[List.any_eq_false];intro p hp';obtain⟨g1,g2⟩:=hC.pm p hp';unfold pmB;rw[g1,g2];simp
 have hW:qre (qpn old new x.2.2.1) x.2.2.1<0:=by
  have:=q99 (qpn old new x.2.2.1) x.2.2.1;rw[Bool.eq_iff_iff,decide_eq_true_iff,Bool.not_eq_true',List.any_eq_false]at this;rw[this];intro p hp';unfold qpn;rw[hC.all p hp'];simp
 unfold qfw;rw[a2,ah,Bool.not_true,cond_false,c2,ah,Bool.not_true,cond_false,cp (by omega),vf ho vo run hr,h1,ah,vf hn vn x.2.1 hx,h2,ah,jgz x.2.2.1 (by omega),ah];dsimp only;rw[Bool.not_true,cond_false,jjk h3 hv,ah,Bool.not_true,cond_false,wz _ _ (by omega),ah,decide_eq_true rfl,Bool.not_true,cond_false,q9a old new (by omega) (fun p h=>by have:=hp p h;omega),hM,ah,Bool.not_false,Bool.not_true,cond_false,jgx _ (by omega) hp,ah,h4,cond_true,jg1 ho hn vo vn (by omega) hC.pm,ah,decide_eq_true hW];rfl
theorem q55(l:Ms)(y:List Int)(hl:l.length≤1000000)(hm:∀z∈l,z.length≤1000000):qhg l y=some (qkk l y):=by
 have hL:qxn l y 0=some (bif l.any (fun z=>decide (z=y))then .inr true else .inl ()):=by
  refine kc l [] (fun z=>decide (z=y)) true (by omega) (fun i hi=> ?_) ?_
  ·have:=hm _ (au [] hi);unfold qdk;rw[cg (by omega),ao (by omega) (by omega),ao (by omega) (by omega)];simp only[Int.toNat_natCast];rw[wz _ _ this,ah];cases decide (l.getD i []=y)with
   |true=>rfl
   |false=>rw[cond_false,br (by omega) (by omega),ai];rfl
  ·unfold qdk;rw[cp (by omega)]
 have e:(l.any fun z=>decide (z=y))=qkk l y:=by
  unfold qkk;congr 1;funext z;rw[Bool.eq_iff_iff,decide_eq_true_iff,decide_eq_true_iff];exact⟨Eq.symm,Eq.symm⟩
 unfold qhg;rw[hL,e];cases qkk l y<;>rfl
section
variable {n : a7} (h : Small n) (hv : bu n = true)
include h hv
theorem q86{l:Ms}(hl:qv n l):∀z∈l,z.length≤1000000:=fun z hz=>by
 obtain⟨p1,p2,_⟩:=ba hv h;have:=b7 (hl z hz);omega
theorem qpi{M:Nat}(hM:M≤3000){l:Ms}(hm:qv n l)(hl:l.length≤100000):ve n (M:Int) l=some (decide ((M:Int)<((ck n M l).length:Int)),l,ck n M l):=by
 have hts:=h.trans;have hfl:=ni (fun _=>true) id l ([]:Ms);rw[List.length_nil,Nat.zero_add]at hfl;have hfm:∀k,qv n (j5 (l.take k)):=fun k m hm' =>by
  rcases qh.1 hm' with hm' |⟨t,ht,_,rfl⟩
  ·cases hm'
  ·exact hm _ (List.mem_of_mem_take ht)
 have hL0:qj9 (M:Int) l n.1 n.2.1 n.2.2.1 n.2.2.2.1 (0,[])=some (.inl (j5 l)):=by
  refine f9 (fun i=>((i:Int),j5 (l.take i))) l.length (cr (by omega)) _ (fun i hi=> ?_) ?_ _ rfl
  ·have hol:=ni (fun _=>true) id (l.take i) ([]:Ms);rw[List.length_nil,Nat.zero_add,List.length_take]at hol;have hol:(j5 (l.take i)).length≤min i l.length:=hol;have e:j5 (l.take (i+1))=zx (j5 (l.take i)) (l.getD i []):=by
    rw[a8 l i [] hi];exact qm6 (fun _=>true) id [] (l.take i) (l.getD i [])
   rw[e];unfold tv zx;dsimp only;rw[cg (by omega),ao (by omega) (by omega),ao (by omega) (by omega)];simp only[Int.toNat_natCast];rw[q55 _ _ (by omega) (q86 h hv (hfm i)),ah];cases qkk (j5 (l.take i)) (l.getD i [])with
   |true=>rw[Bool.not_true,cond_false,br (by omega) (by omega),ai];rfl
   |false=>rw[Bool.not_false,cond_true,ao (by omega) (by omega),ao (by omega) (by omega),d9 (by omega) (by omega),br (by omega) (by omega),ai];rfl
  ·rw[List.take_length];unfold tv;dsimp only;rw[cp (by omega)]
 have hL1:∀(i:Nat) (o:Ms),qv n o→i<o.length→o.length≤500000→qka (M:Int) (i:Int) l n.1 n.2.1 n.2.2.1 n.2.2.2.1 (0,o)=some (.inl (mt (tj n (o.getD i [])) (fun t=>(bm n (o.getD i []) t).2) o (List.range n.2.1.length))):=fun i o hom hio hol=>by
  have hmi:=hom _ (au [] hio);refine f9 (fun t=>((t:Int),mt (tj n (o.getD i [])) (fun t=>(bm n (o.getD i []) t).2) o (List.range t))) n.2.1.length (cr (by omega)) _ (fun t ht=> ?_) ?_ _ rfl
  ·have hF:gg (n.1,n.2.1,n.2.2.1,n.2.2.2.1,()) (o.getD i []) (t:Int)=some (bm n (o.getD i []) t):=qey h hv hmi ht;have hlen:=ni (tj n (o.getD i [])) (fun t=>(bm n (o.getD i []) t).2) (List.range t) o;obtain⟨hge,hat⟩:=jdp (tj n (o.getD i [])) (fun t=>(bm n (o.getD i []) t).2) (List.range t) o;have hAm:qv n (mt (tj n (o.getD i [])) (fun t=>(bm n (o.getD i []) t).2) o (List.range t)):=fun m hm' =>by
    rcases qh.1 hm' with hm' |⟨u,hu,huo,rfl⟩
    ·exact hom m hm'
    ·exact tl h hv hmi (by have:=List.mem_range.1 hu;omega) huo
   have hati:=hat i hio;have e2:decide ((bm n (o.getD i []) t).1=0)=tj n (o.getD i []) t:=rfl;rw[List.length_range]at hlen;rw[List.range_succ,qm6];generalize mt (tj n (o.getD i [])) (fun t=>(bm n (o.getD i []) t).2) o (List.range t)=A at hlen hge hati hAm⊢;unfold tw;dsimp only;rw[cg (by omega),ao (by omega) (by omega),ao (by omega) (by omega)];simp only[Int.toNat_natCast];rw[hati,hF,ah,e2];cases hok:tj n (o.getD i []) t with
   |false=>rw[cond_false,cond_false,br (by omega) (by omega),ai]
   |true=>
    rw[cond_true,cond_true,q55 _ _ (by omega) (q86 h hv hAm),ah];unfold zx;cases qkk A (bm n (o.getD i []) t).2 with
    |true=>rw[Bool.not_true,cond_false,br (by omega) (by omega),ai];rfl
    |false=>rw[Bool.not_false,cond_true,d9 (by omega) (by omega),br (by omega) (by omega),ai];rfl
  ·unfold tw;dsimp only;rw[cp (by omega)]
 have hL2:∃r,qkb (M:Int) l n.1 n.2.1 n.2.2.1 n.2.2.2.1 (0,j5 l)=some r∧match r with| .inl R=>R=ck n M l| .inr _=>False:=by
  refine ig (fun(st:Int×Ms)=>∃i:Nat,st.1=(i:Int)∧i≤M+1∧st.2.length≤200000∧qv n st.2∧qsl n M (M+2-i) i st.2=ck n M l) (fun st=>((M:Int)+2-st.1).toNat) (fun(r:Ms⊕(Bool×Ms×Ms))=>match r with| .inl R=>R=ck n M l| .inr _=>False) _ ⟨0,rfl,Nat.zero_le _,by show(j5 l).length≤_;have hfl:(j5 l).length≤l.length:=hfl;omega,by have:=hfm l.length;rwa[List.take_length]at this,rfl⟩ (by show((M:Int)+2-0).toNat<many;unfold many;omega) ?_;rintro⟨_,o⟩ ⟨i,rfl,h1,h2,h3,h4⟩;have h2:o.length≤200000:=h2;have h3:qv n o:=h3;have h4:qsl n M (M+2-i) i o=ck n M l:=h4;have ef:M+2-i=(M+2-(i+1))+1:=by omega
  rw[ef]at h4;have h4:(if i<o.length∧o.length≤M then qsl n M (M+2-(i+1)) (i+1) (mt (tj n (o.getD i [])) (fun t=>(bm n (o.getD i []) t).2) o (List.range n.2.1.length))else o)=ck n M l:=h4;by_cases c1:i<o.length
  ·by_cases c2:o.length≤M
   ·rw[if_pos ⟨c1,c2⟩]at h4;have hmi:=h3 _ (au [] c1);have f5:=ni (tj n (o.getD i [])) (fun t=>(bm n (o.getD i []) t).2) (List.range n.2.1.length) o;rw[List.length_range]at f5;refine⟨.next (((i+1:Nat):Int),mt (tj n (o.getD i [])) (fun t=>(bm n (o.getD i []) t).2) o (List.range n.2.1.length)),?_,⟨i+1,rfl,by omega,by show(mt _ _ _ _).length≤_;omega,fun m hm' => ?_,h4⟩,by show((M:Int)+2-((i+1:Nat):Int)).toNat<((M:Int)+2-(i:Int)).toNat;omega⟩
    ·unfold o7;dsimp only;rw[cg (by omega),qpo (by omega),hL1 i o h3 c1 (by omega),ah,gf,br (by omega) (by omega),ai]
    ·rcases qh.1 hm' with hm' |⟨t,ht,hto,rfl⟩
     ·exact h3 m hm'
     ·exact tl h hv hmi (List.mem_range.1 ht) hto
   ·rw[if_neg (fun hc=>c2 hc.2)]at h4;refine⟨.done o,?_,h4⟩;unfold o7;dsimp only;rw[cg (by omega),qc9 (by omega)]
  ·rw[if_neg (fun hc=>c1 hc.1)]at h4;refine⟨.done o,?_,h4⟩;unfold o7;dsimp only;rw[cp (by omega)]
 obtain⟨r,f1,f2⟩:=hL2;unfold ve;rw[hL0,ah,gf,f1,ah];cases r with
 |inr r=>exact absurd f2 id
 |inl R=>rw[show R=ck n M l from f2];rfl
end
def q60(w:List ByteArray)(o:List jk):Ms:=(o.filter fun p=>decide (p.1=(w.length:Int))).map fun p=>p.2.1
theorem jhp(w:List ByteArray)(o:List jk):(q60 w o).length≤o.length:=by
 unfold q60;rw[List.length_map];exact List.length_filter_le _ _
theorem jfp(w:List ByteArray)(o:List jk)(p:jk):q60 w (o++[p])=bif decide (p.1=(w.length:Int))then q60 w o++[p.2.1]else q60 w o:=by
 unfold q60;rw[List.filter_append];cases hq:decide (p.1=(w.length:Int))with
 |true=>rw[qt9 (p:=fun p:jk=>decide (p.1=(w.length:Int))) hq,List.map_append];rfl
 |false=>rw[qpp (p:=fun p:jk=>decide (p.1=(w.length:Int))) hq,List.append_nil];rfl
theorem jkd{n:a7}{w:List ByteArray}{o:List jk}(h:∀p∈o,PosOK n w p):q60 w o=(cq w o).map fun p=>p.2.1:=by
 unfold q60 cq qf7;congr 1;refine List.filter_congr fun p hp=> ?_
 have:=(h p hp).k1;rw[Bool.eq_iff_iff,decide_eq_true_iff,Bool.not_eq_true',decide_eq_false_iff_not];omega
def qri(old new:a7)(D l:List Pr):List Pr:=l.filter fun p=>gb old new (n8 D) p.1 p.2.1
theorem q5l(old new:a7)(D l:List Pr):(qri old new D l).length≤l.length:=List.length_filter_le _ _
theorem jck(old new:a7)(D l:List Pr)(p:Pr):qri old new D (l++[p])=bif gb old new (n8 D) p.1 p.2.1 then qri old new D l++[p]else qri old new D l:=by
 unfold qri;rw[List.filter_append];cases hq:gb old new (n8 D) p.1 p.2.1 with
 |true=>rw[qt9 (p:=fun p:Pr=>gb old new (n8 D) p.1 p.2.1) hq];rfl
 |false=>rw[qpp (p:=fun p:Pr=>gb old new (n8 D) p.1 p.2.1) hq,List.append_nil];rfl
section
variable {old new : a7} (ho : Small old) (hn : Small new) (vo : bu old = true) (vn : bu new = true) {run : List Int} {x : List Int} {w : List ByteArray} {M : Nat}
 (hx : bq old.1 x = true) (hw : w.length ≤ 1000) (hM : M ≤ 900) (hM1 : 1 ≤ M) (hg : n9 old new run (M : Int) = some (x, 0, w)) (hr : run.length ≤ 100000) (hh : qdz old run = some (x, w))
include ho hn vo vn hx hw hM hM1 hg hr hh
theorem q88{o:List jk}(hb:pf new w M (M+1) 0 (first new)= .inr o):lg old new run (M:Int)=some (false,true):=by
 obtain⟨R,r1,r2⟩:=qkd hn vn hw (by omega:M≤2000) hM1;have hlen:M<R.length:=by
  rcases r2 with⟨e,_⟩|⟨o',c,_,e2,e3⟩
  ·rw[hb]at e;cases e
  ·rw[e2,List.length_append,List.length_singleton];omega
 unfold lg;rw[vf ho vo run hr,hh,ah];dsimp only;rw[r1,ah];dsimp only;rw[decide_eq_true (by omega),cond_true]
theorem qwk{o:List jk}(hb:pf new w M (M+1) 0 (first new)= .inl o):
  ((M<(ck old M [x]).length∨M<(ck new M ((cq w o).map fun p=>p.2.1)).length∨20000<(ck old M [x]).length*(ck new M ((cq w o).map fun p=>p.2.1)).length)∧lg old new run (M:Int)=some (false,true))∨
  ∃D is,(ck old M [x]).length≤M∧(ck new M ((cq w o).map fun p=>p.2.1)).length≤M∧(ck old M [x]).length*(ck new M ((cq w o).map fun p=>p.2.1)).length≤20000∧lg old new run (M:Int)=some (is,false)∧Sim old new (n8 D)∧LeF (n8 D) (n8 (gp (ck old M [x]) (ck new M ((cq w o).map fun p=>p.2.1))))∧(is=true→∃p∈cq w o,n8 D x p.2.1=true):=by
 obtain⟨p1,p2,_⟩:=ba vo ho;obtain⟨q1,q2,_⟩:=ba vn hn;have hto:=ho.trans;have htn:=hn.trans;obtain⟨o',g1,g2,g3,g4⟩:=qsj ho hn vo vn hx hw hM hM1 hg;have hoo:o' =o:=by
  rcases g1 with g1|⟨g1,_⟩
  ·rw[hb]at g1;injection g1 with g1;exact g1.symm
  ·rw[hb]at g1;cases g1
 subst hoo;obtain⟨R,r1,r2⟩:=qkd hn vn hw (by omega:M≤2000) hM1;have hR:R=o' :=by
  rcases r2 with⟨e,_⟩|⟨o',c,e,_⟩
  ·rw[hb]at e;injection e with e;exact e.symm
  ·rw[hb]at e;cases e
 subst hR;have hE:(cq w R).length≤M:=by have:=List.length_filter_le (fun p=> !qf7 w p) R;unfold cq;omega
 have hEm:∀p∈cq w R,bq new.1 p.2.1=true:=fun p hp=>((g3 p (List.mem_filter.1 hp).1).1).mark hn vn
 have hF:qv new ((cq w R).map fun p=>p.2.1):=fun m hm=>by
  obtain⟨p,hp,rfl⟩:=List.mem_map.1 hm;exact hEm p hp
 have hX1:qv old [x]:=fun m hm=>by rw[List.mem_singleton.1 hm];exact hx
 have hL0:qms (M:Int) x w R old.1 old.2.1 old.2.2.1 old.2.2.2.1 new.1 new.2.1 new.2.2.1 new.2.2.2.1 (0,[])=some (.inl ((cq w R).map fun p=>p.2.1)):=by
  rw[←jkd fun p hp=>(g3 p hp).1];refine f9 (fun i=>((i:Int),q60 w (R.take i))) R.length (cr (by omega)) _ (fun i hi=> ?_) ?_ _ rfl
  ·have e:=jhp w (R.take i);rw[List.length_take]at e;rw[a8 R i ae.z hi,jfp];unfold we;dsimp only;rw[cg (by omega),ao (by omega) (by omega),ao (by omega) (by omega)];simp only[Int.toNat_natCast];cases hq:decide ((R.getD i ae.z).1=(w.length:Int))with
   |true=>
    rw[cond_true,cond_true,ao (by omega) (by omega),ao (by omega) (by omega),d9 (by omega) (by omega),br (by omega) (by omega),ai]
   |false=>
    rw[cond_false,cond_false,br (by omega) (by omega),ai]
  ·rw[List.take_length];unfold we;dsimp only;rw[cp (by omega)]
 have hRX:=qpi ho vo (M:=M) (by omega) hX1 (by show 1≤100000;omega);have hRY:=qpi hn vn (M:=M) (by omega) hF (by rw[List.length_map];omega);have hXm:qv old (ck old M [x]):=(ql9 (n:=old) (M:=M) (Q:=fun m=>bq old.1 m=true) (fun m t hm ht hok=>tl ho vo hm ht hok) (M+2) 0 (j5 [x]) (fun m hm=>by
  rcases qh.1 hm with hm|⟨t,ht,_,rfl⟩
  ·cases hm
  ·exact hX1 _ ht)).1
 have hYm:qv new (ck new M ((cq w R).map fun p=>p.2.1)):=(ql9 (n:=new) (M:=M) (Q:=fun m=>bq new.1 m=true) (fun m t hm ht hok=>tl hn vn hm ht hok) (M+2) 0 (j5 ((cq w R).map fun p:jk=>p.2.1)) (fun m hm=>by
  rcases qh.1 hm with hm|⟨t,ht,_,rfl⟩
  ·cases hm
  ·exact hF _ ht)).1
 have hXl:(ck old M [x]).length≤max (j5 [x]).length (M+old.2.1.length):=qma (n:=old) (M:=M) (M+2) 0 (j5 [x]);have hYl:(ck new M ((cq w R).map fun p:jk=>p.2.1)).length≤max (j5 ((cq w R).map fun p:jk=>p.2.1)).length (M+new.2.1.length):=qma (n:=new) (M:=M) (M+2) 0 (j5 ((cq w R).map fun p:jk=>p.2.1));have hfx:=ni (fun _=>true) id [x] ([]:Ms);have hfy:=ni (fun _=>true) id ((cq w R).map fun p=>p.2.1) ([]:Ms);rw[List.length_nil,Nat.zero_add,List.length_singleton]at hfx;rw[List.length_nil,Nat.zero_add,List.length_map]at hfy;have hXl:(ck old M [x]).length≤2000:=by
  have e:(j5 [x]).length≤1:=hfx;omega
 have hYl:(ck new M ((cq w R).map fun p=>p.2.1)).length≤2000:=by
  have e:(j5 ((cq w R).map fun p:jk=>p.2.1)).length≤(cq w R).length:=hfy;omega
 have hfr:∀m∈(cq w R).map (fun p=>p.2.1),∃p∈cq w R,p.2.1=m:=fun m hm=>List.mem_map.1 hm
 have hfl:((cq w R).map (fun p=>p.2.1)).length≤M:=by rw[List.length_map];exact hE
 generalize hX:ck old M [x]=X at hRX hXm hXl⊢;generalize hFr:(cq w R).map (fun p=>p.2.1)=fr at hF hL0 hRY hYm hYl hfr hfl⊢;generalize hY:ck new M fr=Y at hRY hYm hYl⊢;have hmul:X.length*Y.length≤2000*2000:=Nat.mul_le_mul hXl hYl;have start:lg old new run (M:Int)=(bif decide ((M:Int)<(X.length:Int))then some (false,true)else bif decide ((M:Int)<(Y.length:Int))then some (false,true)else
   bif decide ((20000:Int)<((X.length:Int)*(Y.length:Int)))then some (false,true)else
   bnd (qet x fr X Y old.1 old.2.1 old.2.2.1 old.2.2.2.1 new.1 new.2.1 new.2.2.1 new.2.2.2.1 (0,[])) fun oe7=>lk oe7 (fun e7=>
    bnd (qeu x fr old.1 old.2.1 old.2.2.1 old.2.2.2.1 new.1 new.2.1 new.2.2.1 new.2.2.2.1 e7) fun oe10=>lk oe10 (fun e10=>
     bnd (qev x fr e10 0) fun oe12=>lk oe12 (fun _=>some (false,false)) (fun r=>some r)) (fun r=>some r)) (fun r=>some r)):=by
  unfold lg;rw[vf ho vo run hr,hh,ah];dsimp only;rw[r1,ah];dsimp only;rw[decide_eq_false (by omega),cond_false,hL0,ah,gf,hRX,ah];dsimp only;rw[qx (c:=decide ([x].length=1)) rfl,hRY,ah];dsimp only;have hin:∀m:Option (Bool×Bool),aq (d8 .i64 ((X.length:Int)*(Y.length:Int))) m=m:=fun m=>by
   have:((X.length:Int)*(Y.length:Int))=((X.length*Y.length:Nat):Int):=by rw[Int.natCast_mul]
   rw[this];exact br (by omega) (by omega)
  rw[qx (decide_eq_true rfl),hin]
 rw[start];by_cases c1:X.length≤M
 ·rw[decide_eq_false (by omega),cond_false];by_cases c2:Y.length≤M
  ·rw[decide_eq_false (by omega),cond_false];by_cases c3:X.length*Y.length≤20000
   ·have c3' :¬(20000:Int)<((X.length:Int)*(Y.length:Int)):=by
     rw[←Int.natCast_mul];omega
    rw[decide_eq_false c3',cond_false];have hPL:=qay Y X;have hPM:=qil hXm hYm;have hl1:∀(i:Nat) (l:List Pr),i<X.length→l.length≤100000→qmt x fr X Y (i:Int) old.1 old.2.1 old.2.2.1 old.2.2.2.1 new.1 new.2.1 new.2.2.1 new.2.2.2.1 (0,l)=some (.inl (l++zi (X.getD i []) Y)):=fun i l hiX hll=>by
     refine f9 (fun j=>((j:Int),l++zi (X.getD i []) (Y.take j))) Y.length (cr (by omega)) _ (fun j hj=> ?_) ?_ _ ?_
     ·have e1:(zi (X.getD i []) (Y.take j)).length=j:=by unfold zi;rw[List.length_map,List.length_take];omega
      have e2:(l++zi (X.getD i []) (Y.take j)).length=l.length+j:=by rw[List.length_append,e1]
      have e3:zi (X.getD i []) (Y.take (j+1))=zi (X.getD i []) (Y.take j)++[(X.getD i [],Y.getD j [],())]:=by
       rw[a8 Y j [] hj];unfold zi;rw[List.map_append];rfl
      unfold wg;dsimp only;rw[cg (by omega),ao (by omega) (by omega),ao (by omega) (by omega),ao (by omega) (by omega),ao (by omega) (by omega),d9 (by omega) (by omega),br (by omega) (by omega),ai,e3,←List.append_assoc];rfl
     ·rw[List.take_length];unfold wg;dsimp only;rw[cp (by omega)]
     ·show((0:Int),l)=(((0:Nat):Int),l++zi (X.getD i []) []);rw[show zi (X.getD i []) []=[]from rfl,List.append_nil];rfl
    have hl2:qet x fr X Y old.1 old.2.1 old.2.2.1 old.2.2.2.1 new.1 new.2.1 new.2.2.1 new.2.2.2.1 (0,[])=some (.inl (gp X Y)):=by
     refine f9 (fun j=>((j:Int),gp (X.take j) Y)) X.length (cr (by omega)) _ (fun j hj=> ?_) ?_ _ rfl
     ·have e0:(X.take j).length=j:=by rw[List.length_take];omega
      have e1:=qay Y (X.take j);rw[e0]at e1;have e2:j*Y.length≤X.length*Y.length:=Nat.mul_le_mul (by omega) (Nat.le_refl _);have e3:gp (X.take (j+1)) Y=gp (X.take j) Y++zi (X.getD j []) Y:=by
       rw[a8 X j [] hj];unfold gp;rw[List.flatMap_append];simp only[List.flatMap_cons,List.flatMap_nil,List.append_nil]
      unfold wh;dsimp only;rw[cg (by omega),hl1 j _ hj (by omega),ah,gf,br (by omega) (by omega),ai,e3]
     ·rw[List.take_length];unfold wh;dsimp only;rw[cp (by omega)]
    have hl3:∀D:List Pr,PM old new D→D.length≤20000→qmu x fr D old.1 old.2.1 old.2.2.1 old.2.2.2.1 new.1 new.2.1 new.2.2.1 new.2.2.2.1 (0,[])=some (.inl (qri old new D D)):=fun D hD hDl=>by
     refine f9 (fun i=>((i:Int),qri old new D (D.take i))) D.length (cr (by omega)) _ (fun i hi=> ?_) ?_ _ rfl
     ·have hm:=hD _ (au ab.z hi);have hRt:sg (old.1,old.2.1,old.2.2.1,old.2.2.2.1,()) (new.1,new.2.1,new.2.2.1,new.2.2.2.1,()) D (D.getD i ab.z)=some (gb old new (n8 D) (D.getD i ab.z).1 (D.getD i ab.z).2.1):=q9b ho hn vo vn (by omega) hD hm.1 hm.2;have e:=q5l old new D (D.take i);rw[List.length_take]at e;rw[a8 D i ab.z hi,jck];unfold wi;dsimp only;rw[cg (by omega),ao (by omega) (by omega),ao (by omega) (by omega)];simp only[Int.toNat_natCast];rw[hRt,ah];cases hq:gb old new (n8 D) (D.getD i ab.z).1 (D.getD i ab.z).2.1 with
      |true=>
       rw[cond_true,cond_true,ao (by omega) (by omega),ao (by omega) (by omega),d9 (by omega) (by omega),br (by omega) (by omega),ai]
      |false=>
       rw[cond_false,cond_false,br (by omega) (by omega),ai]
     ·rw[List.take_length];unfold wi;dsimp only;rw[cp (by omega)]
    have hl4:∃r,qeu x fr old.1 old.2.1 old.2.2.1 old.2.2.2.1 new.1 new.2.1 new.2.2.1 new.2.2.2.1 (gp X Y)=some r∧match r with| .inl D=>(∀p∈D,p∈gp X Y)∧D.length≤20000∧∀p∈D,gb old new (n8 D) p.1 p.2.1=true| .inr _=>False:=by
     refine ig (fun(D:List Pr)=>(∀p∈D,p∈gp X Y)∧D.length≤20000) (fun D=>D.length) (fun(r:List Pr⊕(Bool×Bool))=>match r with| .inl D=>(∀p∈D,p∈gp X Y)∧D.length≤20000∧∀p∈D,gb old new (n8 D) p.1 p.2.1=true| .inr _=>False) _ ⟨fun _ h=>h,by omega⟩ (by show(gp X Y).length<many;unfold many;omega) ?_;rintro D ⟨hD1,hD2⟩;have h3:=hl3 D (fun p hp=>hPM p (hD1 p hp)) hD2;have hle:=q5l old new D D;by_cases hc:(qri old new D D).length=D.length
     ·refine⟨.done D,?_,hD1,hD2,?_⟩
      ·unfold wj;rw[h3,ah,gf,decide_eq_true (by omega),cond_true]
      ·intro p hp;exact List.filter_eq_self.1 (List.Sublist.eq_of_length List.filter_sublist hc) p hp
     ·refine⟨.next (qri old new D D),?_,⟨fun p hp=>hD1 p (List.mem_filter.1 hp).1,by omega⟩,by omega⟩;unfold wj;rw[h3,ah,gf,decide_eq_false (by omega),cond_false]
    obtain⟨r,f1,f2⟩:=hl4;cases r with
    |inr r=>exact absurd f2 id
    |inl D=>
     obtain⟨f3,f4,f5⟩:(∀p∈D,p∈gp X Y)∧D.length≤20000∧∀p∈D,gb old new (n8 D) p.1 p.2.1=true:=f2;have hDlen:∀p∈D,p.1.length≤1000∧p.2.1.length≤1000:=fun p hp=>by
      have h1:=b7 (hPM p (f3 p hp)).1;have h2:=b7 (hPM p (f3 p hp)).2;omega
     have hl5:qev x fr D 0=some (bif fr.any (fun m=>n8 D x m)then .inr (true,false)else .inl ()):=by
      refine kc fr [] (fun m=>n8 D x m) (true,false) (by omega) (fun i hi=> ?_) ?_
      ·unfold wl;rw[cg (by omega),ao (by omega) (by omega),ao (by omega) (by omega)];simp only[Int.toNat_natCast];rw[jgx D (by omega) hDlen,ah];cases n8 D x (fr.getD i [])with
       |true=>rfl
       |false=>rw[cond_false,br (by omega) (by omega),ai];rfl
      ·unfold wl;rw[cp (by omega)]
     have hSim:Sim old new (n8 D):=fun a b hab=>by
      obtain⟨p,hp,rfl,rfl⟩:=q66.1 hab;exact f5 p hp
     refine .inr ⟨D,fr.any (fun m=>n8 D x m),c1,c2,c3,?_,hSim,jk4 f3,fun his=> ?_⟩
     ·rw[hl2,ah,gf,f1,ah,gf,hl5,ah];cases fr.any (fun m=>n8 D x m)<;>rfl
     ·obtain⟨m,hm,hin⟩:=List.any_eq_true.1 his;obtain⟨p,hp,rfl⟩:=hfr m hm;exact⟨p,hp,hin⟩
   ·have c3' :(20000:Int)<((X.length:Int)*(Y.length:Int)):=by
     rw[←Int.natCast_mul];omega
    rw[decide_eq_true c3',cond_true];exact .inl ⟨.inr (.inr (by omega)),rfl⟩
  ·rw[decide_eq_true (by omega),cond_true];exact .inl ⟨.inr (.inl (by omega)),rfl⟩
 ·rw[decide_eq_true (by omega),cond_true];exact .inl ⟨.inl (by omega),rfl⟩
end
theorem qzt{old new:a7}(ho:Small old)(hn:Small new)(run:List Int)(hr:run.length≤100000)(most:Int)(hm:most≤25∨2000<most):jt run most old.1 old.2.1 old.2.2.1 old.2.2.2.1 new.1 new.2.1 new.2.2.1 new.2.2.2.1=some (.inr true):=by
 have eo:((old.1,old.2.1,old.2.2.1,old.2.2.2.1,()):a7)=old:=rfl;have en:((new.1,new.2.1,new.2.2.1,new.2.2.2.1,()):a7)=new:=rfl;have wrap:∀(r:dg) (e:Int),ep old new run most=some (r,e)→(∀b,(r=qgx→b=true)→dj run most e b old.1 old.2.1 old.2.2.1 old.2.2.2.1 new.1 new.2.1 new.2.2.1 new.2.2.2.1 r.1 r.2.1 r.2.2.1=some (.inr true))→jt run most old.1 old.2.1 old.2.2.1 old.2.2.2.1 new.1 new.2.1 new.2.2.1 new.2.2.2.1=some (.inr true):=fun r e h1 h2=>by
  unfold jt qw;rw[eo,en,h1,ah];dsimp only;cases d1:decide ((r.1.length:Int)=0)with
  |false=>rw[cond_false,h2 false (fun h=>by rw[h]at d1;cases d1)];rfl
  |true=>
   rw[cond_true];cases d2:decide ((r.2.1.length:Int)=0)with
   |false=>rw[cond_false,h2 false (fun h=>by rw[h]at d2;cases d2)];rfl
   |true=>rw[cond_true,h2 _ (fun h=>by rw[h];rfl)];rfl
 rcases jhq ho hn run hr most with⟨f,f1,f2,f3⟩|⟨x,w,w1,w2,vo,vn,hh,m1,m2,g1,g2⟩
 ·have hF:ep old new run most=some (qgx,f):=by
   unfold ep;rw[f2,ah];dsimp only;rw[decide_eq_false f1];rfl
  refine wrap qgx f hF fun b hb=> ?_
  unfold dj jb;rw[eo,en,f3,ah,decide_eq_false f1,Bool.not_false,cond_true,hb rfl,cond_true,decide_eq_true rfl]
 ·obtain⟨M,rfl⟩:=Int.eq_ofNat_of_zero_le (show 0≤most by omega);have hM:M≤25:=by omega
  obtain⟨s1,s2,s3⟩:=qd0 hh;have hw:w.length≤1000:=by have:=qhy old run;rw[s3];omega
  have hx:bq old.1 x=true:=qhh ho vo (qep ho vo _) s2;have tail:∀b (is li:Bool),b=true→lg old new run (M:Int)=some (is,li)→∀e:Int,(e=13∧li=true∨e=10∧is=false)→dj run (M:Int) e b old.1 old.2.1 old.2.2.1 old.2.2.2.1 new.1 new.2.1 new.2.2.1 new.2.2.2.1 [] [] []=some (.inr true):=fun b is li hb hE e he=>by
   unfold dj jb;rw[eo,en,g2,ah,decide_eq_true rfl,Bool.not_true,cond_false,hE,ah,hb];rcases he with⟨rfl,rfl⟩|⟨rfl,rfl⟩
   ·rfl
   ·rfl
  obtain⟨o,q1,q2,q3,q4⟩:=qsj ho hn vo vn hx hw (by omega:M≤900) (by omega) g1;rcases q1 with q1|⟨q1,_⟩
  ·rcases je5 (M:=M) ho hn vo vn hx hw (by omega:M≤900) (by omega) g1 q1 with⟨hlim,hF⟩|⟨c1,c2,c3,hXm,hYm,L,hG,hF⟩
   ·refine wrap qgx 13 hF fun b hb=> ?_
    rcases qwk (M:=M) ho hn vo vn hx hw (by omega:M≤900) (by omega) g1 hr hh q1 with⟨_,hE⟩|⟨D,is,d1,d2,d3,hE,hS,hD,his⟩
    ·exact tail b _ _ (hb rfl) hE 13 (.inl ⟨rfl,rfl⟩)
    ·omega
   ·rcases hF with⟨hno,hF⟩|⟨p,hp,hin,hF⟩
    ·refine wrap qgx 10 hF fun b hb=> ?_
     rcases qwk (M:=M) ho hn vo vn hx hw (by omega:M≤900) (by omega) g1 hr hh q1 with⟨hlim,_⟩|⟨D,is,d1,d2,d3,hE,hS,hD,his⟩
     ·omega
     ·have:is=false:=by
       cases is with
       |false=>rfl
       |true=>
        obtain⟨p,hp,hin⟩:=his rfl;have h1:=hG.most _ hS hD _ _ hin;rw[hno p hp]at h1;cases h1
      exact tail b _ _ (hb rfl) hE 10 (.inr ⟨rfl,this⟩)
    ·obtain⟨hC,hpl⟩:=je4 (M:=M) ho hn vo vn hx hw (by omega:M≤900) (by omega) g1 q1 hXm hYm hG hp hin w1 w2 hh;have hLl:L.length≤20000:=by have:=hG.len;rw[qay]at this;omega
     obtain⟨p1,p2,_⟩:=ba vo ho;obtain⟨q1,q2,_⟩:=ba vn hn;obtain⟨r,r1,r2⟩:=jgv ho hn (run:=run) (x:=(p.2.1,p.2.2.1,L,())) (by omega) (by show p.2.2.1.length≤_;omega) (by show L.length≤_;omega) (fun q hq=>by
      have h1:=b7 (hC.pm q hq).1;have h2:=b7 (hC.pm q hq).2;omega)
     have hR:=jbc ho hn hr (by show p.2.2.1.length≤_;omega) (by show L.length≤_;omega) hC;refine wrap _ 0 hF fun b _=> ?_
     unfold dj jb;dsimp only;rw[eo,en,g2,ah,decide_eq_true rfl,Bool.not_true,cond_false,cond_true,r1,r2.2 hC,ah,cond_true,hR];cases decide ((1000:Int)<(L.length:Int))<;>rfl
  ·have hF:=je6 (M:=M) ho hn vo vn hx hw (by omega:M≤900) (by omega) g1 q1;have hE:=q88 (M:=M) ho hn vo vn hx hw (by omega:M≤900) (by omega) g1 hr hh q1;exact wrap qgx 13 hF fun b hb=>tail b _ _ (hb rfl) hE 13 (.inl ⟨rfl,rfl⟩)
theorem qqw(old new:a7)(run:List Int)(most:Int):wu old new run most=some true:=by
 unfold wu;rw[jbw];obtain⟨b1,e1,g1⟩:=q96 old;obtain⟨b2,e2,g2⟩:=q96 new;obtain⟨b3,e3,g3⟩:=jkp run;simp only[ah,Bool.not_true,cond_false];rw[e1,ah];cases b1 with
 |true=>rfl
 |false=>
 rw[cond_false,e2,ah];cases b2 with
 |true=>rfl
 |false=>
 rw[cond_false,e3,ah];cases b3 with
 |true=>rfl
 |false=>
 have g3:=g3 rfl;rw[cond_false];by_cases c1:(25:Int)<most
 ·rw[cg c1];by_cases c2:most≤2000
  ·rw[qpo c2]
  ·rw[qc9 (by omega),qzt (g1 rfl).small (g2 rfl).small run (by omega) most (by omega)];rfl
 ·rw[cp (by omega),qzt (g1 rfl).small (g2 rfl).small run (by omega) most (by omega)];rfl
end Go.Proofs.YtdhfhpdadbopkaaGreat
