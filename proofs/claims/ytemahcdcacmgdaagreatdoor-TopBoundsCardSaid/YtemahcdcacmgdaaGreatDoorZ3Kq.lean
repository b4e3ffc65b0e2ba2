/-
  The bounds of the net of two transitions: what ranges over maps give, in whichever order.
-/
import Derived.Test.YtemahcdcacmgdaaGreatDoorZ3Md
set_option linter.all false
set_option maxRecDepth 100000
namespace Go.Proofs.YtemahcdcacmgdaaGreatDoor
open Go.K Go.M
theorem jjb{E:Type}{a b:E}{l:List E}(h:l.Perm [a,b]):l=[a,b]∨l=[b,a]:=by
 have hl:=h.length_eq
 match l,hl with
 |[x,y],_=>
  have hx:x∈[a,b]:=h.mem_iff.1 List.mem_cons_self;simp only[List.mem_cons,List.not_mem_nil,or_false]at hx;rcases hx with rfl|rfl
  ·have:=(List.perm_cons x).1 h;rw[List.perm_singleton.1 this];exact .inl rfl
  ·have h2:[x,y].Perm [x,a]:=h.trans (List.Perm.swap x a []);have:=(List.perm_cons x).1 h2;rw[List.perm_singleton.1 this];exact .inr rfl
theorem j5j{E:Type}{a b c:E}{l:List E}(h:l.Perm [a,b,c]):l=[a,b,c]∨l=[a,c,b]∨l=[b,a,c]∨l=[b,c,a]∨l=[c,a,b]∨l=[c,b,a]:=by
 have hl:=h.length_eq
 match l,hl with
 |x::r,_=>
  have hx:x∈[a,b,c]:=h.mem_iff.1 List.mem_cons_self;simp only[List.mem_cons,List.not_mem_nil,or_false]at hx;rcases hx with rfl|rfl|rfl
  ·rcases jjb ((List.perm_cons x).1 h)with rfl|rfl<;>simp
  ·have h2:(x::r).Perm (x::[a,c]):=h.trans (List.Perm.swap x a [c]);rcases jjb ((List.perm_cons x).1 h2)with rfl|rfl<;>simp
  ·have h2:(x::r).Perm (x::[a,b]):=h.trans ((List.perm_cons a).2 (List.Perm.swap x b [])|>.trans (List.Perm.swap x a [b]));rcases jjb ((List.perm_cons x).1 h2)with rfl|rfl<;>simp
abbrev jy:List (Int×(List ag)):=[(0,[(1,0,())]),(1,[(2,1,())])]
abbrev qi7:List az:=[(1,1,false,()),(1,1,false,())]
abbrev lfF:af:=(false,0,0,())
abbrev lf0:af:=(true,0,0,())
abbrev lf1:af:=(true,1,1,())
abbrev lf2:af:=(true,2,2,())
abbrev qej:List af:=[lf2,lf1,lf0]
noncomputable def jdx{Q:Type}(a:Int×(List af))(nx:(Int×(List af))→Option Q)(dn:(List af)→Option Q)(rt:(List af)→Option Q):Option Q:=
 gu (R:=Q) qi7 false 4 jy 2 3 a.1 a.2 nx dn rt
def joy(k:Int)(out:List af)(l:List (Int×(List ag))):=vn qi7 false 4 k jy jy 2 3 l (false,out)
def qux:List af→Nat→(Int×(List af))→Prop:=ndN (fun{Q} a nx dn rt=>jdx (Q:=Q) a nx dn rt) (fun e=>some e) (fun r=>some r)
theorem jjt{Q:Type}(k:Int)(hk:k<4)(out:List af)(nx:(Int×(List af))→Option Q)(dn:(List af)→Option Q)(rt:(List af)→Option Q):
  jdx (k,out) nx dn rt=q50 (joy k out) jy (fun e=>bif !e.1 then dn e.2 else ak (di .i64 (k+1)) (nx (k+1,e.2))) (fun r=>rt r):=by
 unfold jdx gu;rw[show decide (((k,out):Int×(List af)).1<4)=true from decide_eq_true hk];rfl
theorem jou{k:Int}(hk:k<4)(h0:0≤k){out:List af}{n:Nat}{r:List af}(h:∀l,l=jy∨l=jy.reverse→∃c o,joy k out l=some (.inl (c,o))∧(c=false∧o=r∨c=true∧qux r n (k+1,o))):qux r (n+1) (k,out):=by
 show jdx _ _ _ _=some ();rw[jjt k hk];refine jgs fun l hl=> ?_
 obtain⟨c,o,h1,h2⟩:=h l (jjb hl);refine⟨_,h1,?_⟩;rcases h2 with⟨rfl,rfl⟩|⟨rfl,h2⟩
 ·exact tz.2 rfl
 ·show ak (di .i64 (k+1)) _=some ();rw[show di .i64 (k+1)=true from qys (by omega) (by omega)];exact tz.2 h2
theorem jsg{k:Int}(hk:k<4)(h0:0≤k){out:List af}{n:Nat}{r:List af}(h:qux r n (k,out)){c:Bool}{o:List af}(h1:joy k out jy=some (.inl (c,o))):∃m,n=m+1∧(c=false∧o=r∨c=true∧qux r m (k+1,o)):=by
 cases n with
 |zero=>exact h.elim
 |succ m=>
  have h:jdx (Q:=Unit) (k,out) (fun s' =>tell (qux r m s')) (fun e=>tell (some e=some r)) (fun x=>tell (some x=some r))=some ():=h;rw[jjt k hk]at h;obtain⟨y,a1,a2⟩:=q2q h jy (List.Perm.refl _);rw[h1]at a1;cases a1;cases c with
  |false=>exact⟨m,rfl, .inl ⟨rfl,Option.some.inj (tz.1 a2)⟩⟩
  |true=>
   have a2:ak (di .i64 (k+1)) (tell (qux r m (k+1,o)))=some ():=a2;rw[show di .i64 (k+1)=true from qys (by omega) (by omega)]at a2;exact⟨m,rfl, .inr ⟨rfl,tz.1 a2⟩⟩
theorem jvo:js jy 2 3 qi7 false=some qej:=by
 have e:js jy 2 3 qi7 false=ndK (fun{Q} a nx dn rt=>jdx (Q:=Q) a nx dn rt) (0,[lfF,lfF,lf0]) (fun e=>some e) (fun r=>some r):=by kernel_rfl
 have g1:∀n,qux qej (n+1) (1,qej):=fun n=>jou (by omega) (by omega) fun l hl=>by rcases hl with rfl|rfl<;>exact⟨_,_,by kernel_rfl, .inl ⟨rfl,rfl⟩⟩
 have g2:∀n,qux qej (n+1) (2,qej):=fun n=>jou (by omega) (by omega) fun l hl=>by rcases hl with rfl|rfl<;>exact⟨_,_,by kernel_rfl, .inl ⟨rfl,rfl⟩⟩
 have g3:qux qej 2 (1,[lfF,lf1,lf0]):=jou (by omega) (by omega) fun l hl=>by rcases hl with rfl|rfl<;>exact⟨true,qej,by kernel_rfl, .inr ⟨rfl,g2 0⟩⟩
 have k0:joy 0 [lfF,lfF,lf0] jy=some (.inl (true,[lfF,lf1,lf0])):=by kernel_rfl
 have k1:joy 1 [lfF,lf1,lf0] jy=some (.inl (true,qej)):=by kernel_rfl
 have k2:joy 2 qej jy=some (.inl (false,qej)):=by kernel_rfl
 have g0:qux qej 3 (0,[lfF,lfF,lf0]):=jou (by omega) (by omega) fun l hl=>by
  rcases hl with rfl|rfl
  ·exact⟨true,_,k0, .inr ⟨rfl,g3⟩⟩
  ·exact⟨true,qej,by kernel_rfl, .inr ⟨rfl,g1 1⟩⟩
 rw[e];refine jty g0 fun r' n' h=> ?_
 obtain⟨m,_,h|⟨_,h⟩⟩:=jsg (by omega) (by omega) h k0
 ·exact absurd h.1 (by decide)
 obtain⟨m,_,h|⟨_,h⟩⟩:=jsg (by omega) (by omega) h k1
 ·exact absurd h.1 (by decide)
 obtain⟨m,_,h|⟨h0,_⟩⟩:=jsg (by omega) (by omega) h k2
 ·exact h.2.symm
 ·exact absurd h0 (by decide)
def o6(g0:List (Int×(List ag)))(g1 g2:Int)(w:List az)(slow:Bool):Option (List af):=
 bif decide (g0=jy)&&(decide (g1=2)&&(decide (g2=3)&&(decide (w=qi7)&& !slow)))then some qej else none
theorem qha(g0:List (Int×(List ag)))(g1 g2:Int)(w:List az)(slow:Bool)(b:List af)(h:o6 g0 g1 g2 w slow=some b):js g0 g1 g2 w slow=some b:=by
 unfold o6 at h;obtain⟨h1,h⟩:=ai h;simp only[Bool.and_eq_true,decide_eq_true_eq,Bool.not_eq_true']at h1;obtain⟨rfl,rfl,rfl,rfl,rfl⟩:=h1;exact jvo.trans h
noncomputable def jdy{Q:Type}(a:Int×(List af))(nx:(Int×(List af))→Option Q)(dn:(List af)→Option Q)(rt:(List af)→Option Q):Option Q:=
 gv (R:=Q) qi7 true 4 jy 2 3 a.1 a.2 nx dn rt
def joz(k:Int)(out:List af)(l:List (Int×(List ag))):=vp qi7 true 4 k jy jy 2 3 l (false,out)
def quy:List af→Nat→(Int×(List af))→Prop:=ndN (fun{Q} a nx dn rt=>jdy (Q:=Q) a nx dn rt) (fun e=>some e) (fun r=>some r)
theorem jju{Q:Type}(k:Int)(hk:k<4)(out:List af)(nx:(Int×(List af))→Option Q)(dn:(List af)→Option Q)(rt:(List af)→Option Q):
  jdy (k,out) nx dn rt=q50 (joz k out) jy (fun e=>bif !e.1 then dn e.2 else ak (di .i64 (k+1)) (nx (k+1,e.2))) (fun r=>rt r):=by
 unfold jdy gv;rw[show decide (((k,out):Int×(List af)).1<4)=true from decide_eq_true hk];rfl
theorem jov{k:Int}(hk:k<4)(h0:0≤k){out:List af}{n:Nat}{r:List af}(h:∀l,l=jy∨l=jy.reverse→∃c o,joz k out l=some (.inl (c,o))∧(c=false∧o=r∨c=true∧quy r n (k+1,o))):quy r (n+1) (k,out):=by
 show jdy _ _ _ _=some ();rw[jju k hk];refine jgs fun l hl=> ?_
 obtain⟨c,o,h1,h2⟩:=h l (jjb hl);refine⟨_,h1,?_⟩;rcases h2 with⟨rfl,rfl⟩|⟨rfl,h2⟩
 ·exact tz.2 rfl
 ·show ak (di .i64 (k+1)) _=some ();rw[show di .i64 (k+1)=true from qys (by omega) (by omega)];exact tz.2 h2
theorem jsh{k:Int}(hk:k<4)(h0:0≤k){out:List af}{n:Nat}{r:List af}(h:quy r n (k,out)){c:Bool}{o:List af}(h1:joz k out jy=some (.inl (c,o))):∃m,n=m+1∧(c=false∧o=r∨c=true∧quy r m (k+1,o)):=by
 cases n with
 |zero=>exact h.elim
 |succ m=>
  have h:jdy (Q:=Unit) (k,out) (fun s' =>tell (quy r m s')) (fun e=>tell (some e=some r)) (fun x=>tell (some x=some r))=some ():=h;rw[jju k hk]at h;obtain⟨y,a1,a2⟩:=q2q h jy (List.Perm.refl _);rw[h1]at a1;cases a1;cases c with
  |false=>exact⟨m,rfl, .inl ⟨rfl,Option.some.inj (tz.1 a2)⟩⟩
  |true=>
   have a2:ak (di .i64 (k+1)) (tell (quy r m (k+1,o)))=some ():=a2;rw[show di .i64 (k+1)=true from qys (by omega) (by omega)]at a2;exact⟨m,rfl, .inr ⟨rfl,tz.1 a2⟩⟩
theorem jvp:jt jy 2 3 qi7 true=some qej:=by
 have e:jt jy 2 3 qi7 true=ndK (fun{Q} a nx dn rt=>jdy (Q:=Q) a nx dn rt) (0,[lfF,lfF,lf0]) (fun e=>some e) (fun r=>some r):=by kernel_rfl
 have g1:∀n,quy qej (n+1) (1,qej):=fun n=>jov (by omega) (by omega) fun l hl=>by rcases hl with rfl|rfl<;>exact⟨_,_,by kernel_rfl, .inl ⟨rfl,rfl⟩⟩
 have g2:∀n,quy qej (n+1) (2,qej):=fun n=>jov (by omega) (by omega) fun l hl=>by rcases hl with rfl|rfl<;>exact⟨_,_,by kernel_rfl, .inl ⟨rfl,rfl⟩⟩
 have g3:quy qej 2 (1,[lfF,lf1,lf0]):=jov (by omega) (by omega) fun l hl=>by rcases hl with rfl|rfl<;>exact⟨true,qej,by kernel_rfl, .inr ⟨rfl,g2 0⟩⟩
 have k0:joz 0 [lfF,lfF,lf0] jy=some (.inl (true,[lfF,lf1,lf0])):=by kernel_rfl
 have k1:joz 1 [lfF,lf1,lf0] jy=some (.inl (true,qej)):=by kernel_rfl
 have k2:joz 2 qej jy=some (.inl (false,qej)):=by kernel_rfl
 have g0:quy qej 3 (0,[lfF,lfF,lf0]):=jov (by omega) (by omega) fun l hl=>by
  rcases hl with rfl|rfl
  ·exact⟨true,_,k0, .inr ⟨rfl,g3⟩⟩
  ·exact⟨true,qej,by kernel_rfl, .inr ⟨rfl,g1 1⟩⟩
 rw[e];refine jty g0 fun r' n' h=> ?_
 obtain⟨m,_,h|⟨_,h⟩⟩:=jsh (by omega) (by omega) h k0
 ·exact absurd h.1 (by decide)
 obtain⟨m,_,h|⟨_,h⟩⟩:=jsh (by omega) (by omega) h k1
 ·exact absurd h.1 (by decide)
 obtain⟨m,_,h|⟨h0,_⟩⟩:=jsh (by omega) (by omega) h k2
 ·exact h.2.symm
 ·exact absurd h0 (by decide)
def o7(g0:List (Int×(List ag)))(g1 g2:Int)(w:List az)(slow:Bool):Option (List af):=
 bif decide (g0=jy)&&(decide (g1=2)&&(decide (g2=3)&&(decide (w=qi7)&&slow)))then some qej else none
theorem qhc(g0:List (Int×(List ag)))(g1 g2:Int)(w:List az)(slow:Bool)(b:List af)(h:o7 g0 g1 g2 w slow=some b):jt g0 g1 g2 w slow=some b:=by
 unfold o7 at h;obtain⟨h1,h⟩:=ai h;simp only[Bool.and_eq_true,decide_eq_true_eq]at h1;obtain⟨rfl,rfl,rfl,rfl,rfl⟩:=h1;exact jvp.trans h
theorem j5i:qy jy 2 3 qi7=some false:=by
 have e:qy jy 2 3 qi7=q50 (fun l=>qee qi7 [(0,true),(1,true),(2,true)] jy 2 3 l ()) [(0,true),(1,true),(2,true)] (fun _=>some false) (fun r=>some r):=by kernel_rfl
 rw[e];refine jgs fun l hl=>⟨.inl (),?_,rfl⟩
 rcases j5j hl with rfl|rfl|rfl|rfl|rfl|rfl<;>kernel_rfl
def ut(g0:List (Int×(List ag)))(g1 g2:Int)(w:List az):Option Bool:=
 bif decide (g0=jy)&&(decide (g1=2)&&(decide (g2=3)&&decide (w=qi7)))then some false else none
theorem qn5(g0:List (Int×(List ag)))(g1 g2:Int)(w:List az)(b:Bool)(h:ut g0 g1 g2 w=some b):qy g0 g1 g2 w=some b:=by
 unfold ut at h;obtain⟨h1,h⟩:=ai h;simp only[Bool.and_eq_true,decide_eq_true_eq]at h1;obtain⟨rfl,rfl,rfl,rfl⟩:=h1;exact j5i.trans h
end Go.Proofs.YtemahcdcacmgdaaGreatDoor
