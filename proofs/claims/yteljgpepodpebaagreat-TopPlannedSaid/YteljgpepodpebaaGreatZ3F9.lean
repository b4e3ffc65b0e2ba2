/-
  The tableau at the beginning: begin, priced.
-/
import Derived.Test.YteljgpepodpebaaGreatZ3F8
set_option linter.all false
namespace Go.Proofs.YteljgpepodpebaaGreat
open Go.K Go.M
section
variable {n m i : Nat} {v26 : List (List ab)} {v27 v28 : Int} {p10 : List ab} {p11 : List (List ab)} {p12 : List Int} {p13 : List ab} {t61 : List ab} {t63 t64 : Int}
theorem jsf{turned:List Bool}{row:List ab}{t60:List (List ab)}{t62:List Int}(hn:n≤100)(hm:m≤100)(hi:i<m)(hr:row.length=n+2*m+1)(h60:t60.length≤100)(h62:t62.length≤100):
  wj (n:Int) (m:Int) (i:Int) v26 v27 v28 p10 p11 p12 p13 t61 t63 t64 turned row t60 t62=some (.inl (t60++[row.set (n+m+i) (1,1,())],t62++[((n+m+i:Nat):Int)])):=by
 unfold wj qbl;rw[show c9 1=some (1,1,())from rfl];simp(disch:=omega)only[rs];rw[show((n:Int)+(m:Int)+(i:Int)).toNat=n+m+i by omega,show(n:Int)+(m:Int)+(i:Int)=((n+m+i:Nat):Int) by omega]
theorem jy6{turned:List Bool}{a:List ab}{rel:Int}{row:List ab}{t60:List (List ab)}{t62:List Int}(hn:n≤100)(hm:m≤100)(hi:i<m)(ha:a.length=n)(han:∀j,j<n→NF (gz a j))(hb:p13.length=m)(hbn:NF (gz p13 i))(ht:turned.length=m)(h60:t60.length≤100)(h62:t62.length≤100)
  (hrow:row=qjh n m i a rel):
  o8 (n:Int) (m:Int) (i:Int) v26 v27 v28 p10 p11 p12 p13 t61 t63 t64 turned row t60 t62=some (.inl (bif decide ((gz p13 i).1<0)then turned.set i true else turned,t60++[q5p n m i a rel (gz p13 i)],t62++[((n+m+i:Nat):Int)])):=by
 have hl:=qcv (m:=m) (i:=i) (rel:=rel) ha;subst hrow;unfold o8 qbm;rw[ao (by omega) (by omega),ao (by omega) (by omega),o4 (by omega) (by omega),ao (by omega) (by omega),ao (by omega) (by omega)];simp only[Int.toNat_natCast];have hl2:(qjh n m i a rel++[gz p13 i]).length=n+2*m+1:=by simp[hl]
 by_cases h0:(gz p13 i).1<0
 ·have h0' :(p13.getD i ab.z).1<0:=h0;rw[bi h0',bi h0,ao (by omega) (by omega),ao (by omega) (by omega)];have hneg:=jo7 (x1:=(n:Int)) (x2:=(m:Int)) (x3:=(i:Int)) (x4:=v26) (x5:=v27) (x6:=v28) (x7:=p10) (x8:=p11) (x9:=p12) (xa:=p13) (xb:=t61) (xc:=t63) (xd:=t64) (xe:=turned.set i true) (xf:=t60) (xg:=t62) (qjh n m i a rel++[gz p13 i]) (by omega) (fun j hj=>jnd ha han hbn hi (by omega));have hneg:qdm (n:Int) (m:Int) (i:Int) v26 v27 v28 ((qjh n m i a rel++[p13.getD i ab.z]).length:Int) p10 p11 p12 p13 t61 t63 t64 (turned.set i true) t60 t62 (0,qjh n m i a rel++[p13.getD i ab.z])=_:=hneg;rw[hneg,af,g9,jsf hn hm hi (by simp[hl]) h60 h62,af,g9];refine congrArg (fun x=>some (Sum.inl (turned.set i true,t60++[x],_))) ?_;unfold q5p jc3;rw[bi h0]
 ·have h0' :¬(p13.getD i ab.z).1<0:=h0;rw[bj (by omega),bj (by omega),jsf hn hm hi hl2 h60 h62,af,g9];refine congrArg (fun x=>some (Sum.inl (turned,t60++[x],_))) ?_;unfold q5p jc3;rw[bj (by omega)]
end
def qqo(p:Program)(i:Nat):List ab:=q5p p.1.length p.2.1.length i (ci p.2.1 i) (gb p.2.2.1 i) (gz p.2.2.2.1 i)
theorem jnf{p:Program}(h:VP p):∃turned:List Bool,turned.length=p.2.1.length∧qb9 p=some ([],((p.1.length+p.2.1.length:Nat):Int),0,turned,be p.2.1.length (qqo p),be p.2.1.length fun i=>((p.1.length+p.2.1.length+i:Nat):Int)):=by
 obtain⟨n0,n1,m0,m1,rl,bl,cn,bn,al,an⟩:=h;obtain⟨C,A,rel,B,u⟩:=p;dsimp only at*;have hL:qm3 (C.length:Int) (A.length:Int) A (A.length:Int) C A rel B [] ((C.length:Int)+(A.length:Int)) 0 (0,List.replicate A.length false,[],[])=some (.inl (be A.length (fun v=>if v<A.length then decide ((gz B v).1<0)else false),be A.length (qqo (C,A,rel,B,u)),be A.length fun i=>((C.length+A.length+i:Nat):Int))):=by
  refine j9 (fun i=>((i:Int),be A.length (fun v=>if v<i then decide ((gz B v).1<0)else false),be i (qqo (C,A,rel,B,u)),be i fun i=>((C.length+A.length+i:Nat):Int))) A.length (cr (by omega)) _ (fun i hi=> ?_) ?_ _ ?_
  ·have hz:=qgi (n:=2*A.length) (by omega);have hz:ep ((2:Int)*(A.length:Int))=some (List.replicate (2*A.length) (0,1,())):=by rw[←hz];rfl
   have h1:=db A.length (fun v=>if v<i then decide ((gz B v).1<0)else false);have h2:=db i (qqo (C,A,rel,B,u));have h3:=db i fun i=>((C.length+A.length+i:Nat):Int)
   have hai:=al i hi;have hai' :(A.getD i []).length=C.length:=hai;have hrl:(List.replicate (2*A.length) ((0,1,()):ab)).length=2*A.length:=List.length_replicate;have hap:(A.getD i []++List.replicate (2*A.length) ((0,1,()):ab)).length=C.length+2*A.length:=by rw[List.length_append,hrl,hai']
   have fin:∀(turned:List Bool),(bif decide ((gz B i).1<0)then(be A.length (fun v=>if v<i then decide ((gz B v).1<0)else false)).set i true else be A.length (fun v=>if v<i then decide ((gz B v).1<0)else false))=be A.length (fun v=>if v<i+1 then decide ((gz B v).1<0)else false):=fun _=>by
    cases hb:decide ((gz B i).1<0)with
    |true=>
     rw[cond_true,q21];refine ua fun v hv=> ?_
     by_cases e:v=i
     ·rw[if_pos e,if_pos (by omega),e,hb]
     ·rw[if_neg e];by_cases e2:v<i
      ·rw[if_pos e2,if_pos (by omega)]
      ·rw[if_neg e2,if_neg (by omega)]
    |false=>
     rw[cond_false];refine ua fun v hv=> ?_
     by_cases e:v=i
     ·rw[if_neg (by omega),if_pos (by omega),e,hb]
     ·by_cases e2:v<i
      ·rw[if_pos e2,if_pos (by omega)]
      ·rw[if_neg e2,if_neg (by omega)]
   unfold tv;dsimp only;rw[bi (show(i:Int)<(A.length:Int) by omega),ao (by omega) (by omega),ao (by omega) (by omega)];simp only[Int.toNat_natCast];unfold cu di;rw[o4 (by omega) (by omega),af,bk (by omega) (by omega),hz,af,List.nil_append,o4 (by omega) (by omega),ao (by omega) (by omega),ao (by omega) (by omega)];have hT:=fun(row:List ab) (hrow:row=qjh C.length A.length i (ci A i) (gb rel i))=>jy6 (n:=C.length) (m:=A.length) (i:=i) (v26:=A) (v27:=(A.length:Int)) (v28:=(i:Int)) (p10:=C) (p11:=A) (p12:=rel) (p13:=B) (t61:=[]) (t63:=(C.length:Int)+(A.length:Int)) (t64:=0) (a:=ci A i) (rel:=gb rel i) (row:=row) (turned:=be A.length (fun v=>if v<i then decide ((gz B v).1<0)else false)) (t60:=be i (qqo (C,A,rel,B,u))) (t62:=be i fun i=>((C.length+A.length+i:Nat):Int)) (by omega) (by omega) hi hai (fun j hj=>an i j hi hj) bl (bn i hi) h1 (by omega) (by omega) hrow
   have hres:∀x:List Bool×List (List ab)×List Int,x=(bif decide ((gz B i).1<0)then(be A.length (fun v=>if v<i then decide ((gz B v).1<0)else false)).set i true else be A.length (fun v=>if v<i then decide ((gz B v).1<0)else false),be i (qqo (C,A,rel,B,u))++[q5p C.length A.length i (ci A i) (gb rel i) (gz B i)],(be i fun i=>((C.length+A.length+i:Nat):Int))++[((C.length+A.length+i:Nat):Int)])→
     (some (LR.next ((i:Int)+1,x.1,x.2.1,x.2.2)):Option (LR (Int×List Bool×List (List ab)×List Int) (List Bool×List (List ab)×List Int) (List ab×Int×Int×List Bool×List (List ab)×List Int)))=some (LR.next (((i+1:Nat):Int),be A.length (fun v=>if v<i+1 then decide ((gz B v).1<0)else false),be (i+1) (qqo (C,A,rel,B,u)),be (i+1) fun i=>((C.length+A.length+i:Nat):Int))):=fun x hx=>by
    rw[hx,fin [],s8,s8,am];rfl
   by_cases r1:gb rel i=1
   ·rw[bu (show rel.getD i 0=1 from r1),bk (by omega) (by omega),show c9 1=some (1,1,())from rfl,af,ao (by omega) (by omega),ao (by omega) (by omega)];rw[show((C.length:Int)+(i:Int)).toNat=C.length+i by omega,hT _ (by unfold qjh;rw[bu r1]),af,g9,bk (by omega) (by omega)];exact hres _ rfl
   ·rw[bg (show¬rel.getD i 0=1 from r1)];by_cases r2:gb rel i=2
    ·rw[bu (show rel.getD i 0=2 from r2),bk (by omega) (by omega),show c9 (-1)=some (-1,1,())from rfl,af,ao (by omega) (by omega),ao (by omega) (by omega)];rw[show((C.length:Int)+(i:Int)).toNat=C.length+i by omega,hT _ (by unfold qjh;rw[bg r1,bu r2]),af,g9,bk (by omega) (by omega)];exact hres _ rfl
    ·rw[bg (show¬rel.getD i 0=2 from r2),hT _ (by unfold qjh;rw[bg r1,bg r2]),af,g9,bk (by omega) (by omega)];exact hres _ rfl
  ·unfold tv;dsimp only;rw[bj (by omega)]
  ·exact congrArg (fun x=>((0:Int),x,([]:List (List ab)),([]:List Int))) ((qw8 _ _).trans (ua fun v hv=>by rw[if_neg (by omega)]))
 refine⟨_,db _ (fun v=>if v<A.length then decide ((gz B v).1<0)else false),?_⟩;unfold qb9;dsimp only;rw[bk (by omega) (by omega),jbi (by omega) (by omega) (by omega) (by omega)];simp only[Int.toNat_natCast];rw[hL,af,g9,Int.natCast_add]
end Go.Proofs.YteljgpepodpebaaGreat
