/-
  The bounds of the net of two transitions: what ranges over maps give, in whichever order.
-/
import Derived.Test.YtocndcbobdnagaaGreatDoorZ3Md
set_option linter.all false
set_option maxRecDepth 100000
namespace Go.Proofs.YtocndcbobdnagaaGreatDoor
open Go.K Go.M
theorem joj{E:Type}{a b:E}{l:List E}(h:l.Perm [a,b]):l=[a,b]\/l=[b,a]:=by
 have hl:=h.length_eq
 match l,hl with
 |[x,y],_=>
  have hx:x∈[a,b]:=h.mem_iff.1 Wf;simp only[Wr,Hw,or_false]at hx;rcases hx with rfl|rfl
  ·have:=(HG x).1 h;rw[List.perm_singleton.1 this];exact .inl rfl
  ·have h2:[x,y].Perm [x,a]:=h.trans (List.Perm.swap x a []);have:=(HG x).1 h2;rw[List.perm_singleton.1 this];exact .inr rfl
theorem zc1{E:Type}{a b c:E}{l:List E}(h:l.Perm [a,b,c]):l=[a,b,c]\/l=[a,c,b]\/l=[b,a,c]\/l=[b,c,a]\/l=[c,a,b]\/l=[c,b,a]:=by
 have hl:=h.length_eq
 match l,hl with
 |x::r,_=>
  have hx:x∈[a,b,c]:=h.mem_iff.1 Wf;simp only[Wr,Hw,or_false]at hx;rcases hx with rfl|rfl|rfl
  ·rcases joj ((HG x).1 h)with rfl|rfl<;>simp
  ·have h2:(x::r).Perm (x::[a,c]):=h.trans (List.Perm.swap x a [c]);rcases joj ((HG x).1 h2)with rfl|rfl<;>simp
  ·have h2:(x::r).Perm (x::[a,b]):=h.trans ((HG a).2 (List.Perm.swap x b [])|>.trans (List.Perm.swap x a [b]));rcases joj ((HG x).1 h2)with rfl|rfl<;>simp
abbrev m4:List (Int×(List ab)):=[(0,[(1,0,())]),(1,[(2,1,())])]
abbrev qmt:List ag:=[(1,1,false,()),(1,1,false,())]
abbrev lfF:ae:=(false,0,0,())
abbrev lf0:ae:=(true,0,0,())
abbrev lf1:ae:=(true,1,1,())
abbrev lf2:ae:=(true,2,2,())
abbrev qhk:List ae:=[lf2,lf1,lf0]
noncomputable def ji4{Q:Type}(a:Int×(List ae))(nx:(Int×(List ae))->Option Q)(dn:(List ae)->Option Q)(rt:(List ae)->Option Q):Option Q:=
 jq (R:=Q) qmt false 4 m4 2 3 a.1 a.2 nx dn rt
def juf(k:Int)(out:List ae)(l:List (Int×(List ab))):=qai qmt false 4 k m4 m4 2 3 l (false,out)
def qz0:List ae->Nat->(Int×(List ae))->Prop:=ndN (fun{Q} a nx dn rt=>ji4 (Q:=Q) a nx dn rt) (fun e=>some e) (fun r=>some r)
theorem jo6{Q:Type}(k:Int)(hk:k<4)(out:List ae)(nx:(Int×(List ae))->Option Q)(dn:(List ae)->Option Q)(rt:(List ae)->Option Q):
  ji4 (k,out) nx dn rt=q5w (juf k out) m4 (fun e=>bif !e.1 then dn e.2 else al (dg .i64 (k+1)) (nx (k+1,e.2))) (fun r=>rt r):=by
 unfold ji4 jq;rw[show decide (((k,out):Int×(List ae)).1<4)=true from Ws hk];rfl
theorem jt9{k:Int}(hk:k<4)(h0:0<=k){out:List ae}{n:Nat}{r:List ae}(h:∀l,l=m4\/l=m4.reverse->∃c o,juf k out l=some (.inl (c,o))/\(c=false/\o=r\/c=true/\qz0 r n (k+1,o))):qz0 r (n+1) (k,out):=by
 show ji4 _ _ _ _=some ();rw[jo6 k hk];refine qyq fun l hl=> ?_
 obtain⟨c,o,h1,h2⟩:=h l (joj hl);refine⟨_,h1,?_⟩;rcases h2 with⟨rfl,rfl⟩|⟨rfl,h2⟩
 ·exact k7.2 rfl
 ·show al (dg .i64 (k+1)) _=some ();rw[show dg .i64 (k+1)=true from q39 (by omega) (by omega)];exact k7.2 h2
theorem jxx{k:Int}(hk:k<4)(h0:0<=k){out:List ae}{n:Nat}{r:List ae}(h:qz0 r n (k,out)){c:Bool}{o:List ae}(h1:juf k out m4=some (.inl (c,o))):∃m,n=m+1/\(c=false/\o=r\/c=true/\qz0 r m (k+1,o)):=by
 cases n with
 |zero=>exact h.elim
 |succ m=>
  have h:ji4 (Q:=Unit) (k,out) (fun s' =>tell (qz0 r m s')) (fun e=>tell (some e=some r)) (fun x=>tell (some x=some r))=some ():=h;rw[jo6 k hk]at h;obtain⟨y,a1,a2⟩:=qyr h m4 (Kl _);rw[h1]at a1;cases a1;cases c with
  |false=>exact⟨m,rfl, .inl ⟨rfl,Kp (k7.1 a2)⟩⟩
  |true=>
   have a2:al (dg .i64 (k+1)) (tell (qz0 r m (k+1,o)))=some ():=a2;rw[show dg .i64 (k+1)=true from q39 (by omega) (by omega)]at a2;exact⟨m,rfl, .inr ⟨rfl,k7.1 a2⟩⟩
theorem j1g:fk m4 2 3 qmt false=some qhk:=by
 have e:fk m4 2 3 qmt false=ndK (fun{Q} a nx dn rt=>ji4 (Q:=Q) a nx dn rt) (0,[lfF,lfF,lf0]) (fun e=>some e) (fun r=>some r):=by kernel_rfl
 have g1:∀n,qz0 qhk (n+1) (1,qhk):=fun n=>jt9 (by omega) (by omega) fun l hl=>by rcases hl with rfl|rfl<;>exact⟨_,_,by kernel_rfl, .inl ⟨rfl,rfl⟩⟩
 have g2:∀n,qz0 qhk (n+1) (2,qhk):=fun n=>jt9 (by omega) (by omega) fun l hl=>by rcases hl with rfl|rfl<;>exact⟨_,_,by kernel_rfl, .inl ⟨rfl,rfl⟩⟩
 have g3:qz0 qhk 2 (1,[lfF,lf1,lf0]):=jt9 (by omega) (by omega) fun l hl=>by rcases hl with rfl|rfl<;>exact⟨true,qhk,by kernel_rfl, .inr ⟨rfl,g2 0⟩⟩
 have k0:juf 0 [lfF,lfF,lf0] m4=some (.inl (true,[lfF,lf1,lf0])):=by kernel_rfl
 have k1:juf 1 [lfF,lf1,lf0] m4=some (.inl (true,qhk)):=by kernel_rfl
 have k2:juf 2 qhk m4=some (.inl (false,qhk)):=by kernel_rfl
 have g0:qz0 qhk 3 (0,[lfF,lfF,lf0]):=jt9 (by omega) (by omega) fun l hl=>by
  rcases hl with rfl|rfl
  ·exact⟨true,_,k0, .inr ⟨rfl,g3⟩⟩
  ·exact⟨true,qhk,by kernel_rfl, .inr ⟨rfl,g1 1⟩⟩
 rw[e];refine jqy g0 fun r' n' h=> ?_
 obtain⟨m,_,h|⟨_,h⟩⟩:=jxx (by omega) (by omega) h k0
 ·exact absurd h.1 (by decide)
 obtain⟨m,_,h|⟨_,h⟩⟩:=jxx (by omega) (by omega) h k1
 ·exact absurd h.1 (by decide)
 obtain⟨m,_,h|⟨h0,_⟩⟩:=jxx (by omega) (by omega) h k2
 ·exact h.2.symm
 ·exact absurd h0 (by decide)
def rg(g0:List (Int×(List ab)))(g1 g2:Int)(w:List ag)(slow:Bool):Option (List ae):=
 bif decide (g0=m4)&&(decide (g1=2)&&(decide (g2=3)&&(decide (w=qmt)&& !slow)))then some qhk else none
theorem qkr(g0:List (Int×(List ab)))(g1 g2:Int)(w:List ag)(slow:Bool)(b:List ae)(h:rg g0 g1 g2 w slow=some b):fk g0 g1 g2 w slow=some b:=by
 unfold rg at h;obtain⟨h1,h⟩:=ai h;simp only[Wc,WH,WE]at h1;obtain⟨rfl,rfl,rfl,rfl,rfl⟩:=h1;exact j1g.trans h
noncomputable def ji5{Q:Type}(a:Int×(List ae))(nx:(Int×(List ae))->Option Q)(dn:(List ae)->Option Q)(rt:(List ae)->Option Q):Option Q:=
 jr (R:=Q) qmt true 4 m4 2 3 a.1 a.2 nx dn rt
def jug(k:Int)(out:List ae)(l:List (Int×(List ab))):=qak qmt true 4 k m4 m4 2 3 l (false,out)
def qz1:List ae->Nat->(Int×(List ae))->Prop:=ndN (fun{Q} a nx dn rt=>ji5 (Q:=Q) a nx dn rt) (fun e=>some e) (fun r=>some r)
theorem jo7{Q:Type}(k:Int)(hk:k<4)(out:List ae)(nx:(Int×(List ae))->Option Q)(dn:(List ae)->Option Q)(rt:(List ae)->Option Q):
  ji5 (k,out) nx dn rt=q5w (jug k out) m4 (fun e=>bif !e.1 then dn e.2 else al (dg .i64 (k+1)) (nx (k+1,e.2))) (fun r=>rt r):=by
 unfold ji5 jr;rw[show decide (((k,out):Int×(List ae)).1<4)=true from Ws hk];rfl
theorem jua{k:Int}(hk:k<4)(h0:0<=k){out:List ae}{n:Nat}{r:List ae}(h:∀l,l=m4\/l=m4.reverse->∃c o,jug k out l=some (.inl (c,o))/\(c=false/\o=r\/c=true/\qz1 r n (k+1,o))):qz1 r (n+1) (k,out):=by
 show ji5 _ _ _ _=some ();rw[jo7 k hk];refine qyq fun l hl=> ?_
 obtain⟨c,o,h1,h2⟩:=h l (joj hl);refine⟨_,h1,?_⟩;rcases h2 with⟨rfl,rfl⟩|⟨rfl,h2⟩
 ·exact k7.2 rfl
 ·show al (dg .i64 (k+1)) _=some ();rw[show dg .i64 (k+1)=true from q39 (by omega) (by omega)];exact k7.2 h2
theorem jxy{k:Int}(hk:k<4)(h0:0<=k){out:List ae}{n:Nat}{r:List ae}(h:qz1 r n (k,out)){c:Bool}{o:List ae}(h1:jug k out m4=some (.inl (c,o))):∃m,n=m+1/\(c=false/\o=r\/c=true/\qz1 r m (k+1,o)):=by
 cases n with
 |zero=>exact h.elim
 |succ m=>
  have h:ji5 (Q:=Unit) (k,out) (fun s' =>tell (qz1 r m s')) (fun e=>tell (some e=some r)) (fun x=>tell (some x=some r))=some ():=h;rw[jo7 k hk]at h;obtain⟨y,a1,a2⟩:=qyr h m4 (Kl _);rw[h1]at a1;cases a1;cases c with
  |false=>exact⟨m,rfl, .inl ⟨rfl,Kp (k7.1 a2)⟩⟩
  |true=>
   have a2:al (dg .i64 (k+1)) (tell (qz1 r m (k+1,o)))=some ():=a2;rw[show dg .i64 (k+1)=true from q39 (by omega) (by omega)]at a2;exact⟨m,rfl, .inr ⟨rfl,k7.1 a2⟩⟩
theorem j1h:fl m4 2 3 qmt true=some qhk:=by
 have e:fl m4 2 3 qmt true=ndK (fun{Q} a nx dn rt=>ji5 (Q:=Q) a nx dn rt) (0,[lfF,lfF,lf0]) (fun e=>some e) (fun r=>some r):=by kernel_rfl
 have g1:∀n,qz1 qhk (n+1) (1,qhk):=fun n=>jua (by omega) (by omega) fun l hl=>by rcases hl with rfl|rfl<;>exact⟨_,_,by kernel_rfl, .inl ⟨rfl,rfl⟩⟩
 have g2:∀n,qz1 qhk (n+1) (2,qhk):=fun n=>jua (by omega) (by omega) fun l hl=>by rcases hl with rfl|rfl<;>exact⟨_,_,by kernel_rfl, .inl ⟨rfl,rfl⟩⟩
 have g3:qz1 qhk 2 (1,[lfF,lf1,lf0]):=jua (by omega) (by omega) fun l hl=>by rcases hl with rfl|rfl<;>exact⟨true,qhk,by kernel_rfl, .inr ⟨rfl,g2 0⟩⟩
 have k0:jug 0 [lfF,lfF,lf0] m4=some (.inl (true,[lfF,lf1,lf0])):=by kernel_rfl
 have k1:jug 1 [lfF,lf1,lf0] m4=some (.inl (true,qhk)):=by kernel_rfl
 have k2:jug 2 qhk m4=some (.inl (false,qhk)):=by kernel_rfl
 have g0:qz1 qhk 3 (0,[lfF,lfF,lf0]):=jua (by omega) (by omega) fun l hl=>by
  rcases hl with rfl|rfl
  ·exact⟨true,_,k0, .inr ⟨rfl,g3⟩⟩
  ·exact⟨true,qhk,by kernel_rfl, .inr ⟨rfl,g1 1⟩⟩
 rw[e];refine jqy g0 fun r' n' h=> ?_
 obtain⟨m,_,h|⟨_,h⟩⟩:=jxy (by omega) (by omega) h k0
 ·exact absurd h.1 (by decide)
 obtain⟨m,_,h|⟨_,h⟩⟩:=jxy (by omega) (by omega) h k1
 ·exact absurd h.1 (by decide)
 obtain⟨m,_,h|⟨h0,_⟩⟩:=jxy (by omega) (by omega) h k2
 ·exact h.2.symm
 ·exact absurd h0 (by decide)
def rh(g0:List (Int×(List ab)))(g1 g2:Int)(w:List ag)(slow:Bool):Option (List ae):=
 bif decide (g0=m4)&&(decide (g1=2)&&(decide (g2=3)&&(decide (w=qmt)&&slow)))then some qhk else none
theorem qkt(g0:List (Int×(List ab)))(g1 g2:Int)(w:List ag)(slow:Bool)(b:List ae)(h:rh g0 g1 g2 w slow=some b):fl g0 g1 g2 w slow=some b:=by
 unfold rh at h;obtain⟨h1,h⟩:=ai h;simp only[Wc,WH]at h1;obtain⟨rfl,rfl,rfl,rfl,rfl⟩:=h1;exact j1h.trans h
theorem zc0:gk m4 2 3 qmt=some false:=by
 have e:gk m4 2 3 qmt=q5w (fun l=>kw qmt [(0,true),(1,true),(2,true)] m4 2 3 l ()) [(0,true),(1,true),(2,true)] (fun _=>some false) (fun r=>some r):=by kernel_rfl
 rw[e];refine qyq fun l hl=>⟨.inl (),?_,rfl⟩
 rcases zc1 hl with rfl|rfl|rfl|rfl|rfl|rfl<;>kernel_rfl
def ze(g0:List (Int×(List ab)))(g1 g2:Int)(w:List ag):Option Bool:=
 bif decide (g0=m4)&&(decide (g1=2)&&(decide (g2=3)&&decide (w=qmt)))then some false else none
theorem qrw(g0:List (Int×(List ab)))(g1 g2:Int)(w:List ag)(b:Bool)(h:ze g0 g1 g2 w=some b):gk g0 g1 g2 w=some b:=by
 unfold ze at h;obtain⟨h1,h⟩:=ai h;simp only[Wc,WH]at h1;obtain⟨rfl,rfl,rfl,rfl⟩:=h1;exact zc0.trans h
end Go.Proofs.YtocndcbobdnagaaGreatDoor
