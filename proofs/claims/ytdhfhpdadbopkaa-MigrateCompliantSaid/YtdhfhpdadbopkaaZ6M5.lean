/-
  Migrate: runs, words, histories; what Check answers.
-/
import Derived.Test.YtdhfhpdadbopkaaZ6M4
set_option linter.all false
namespace Go.Proofs.Ytdhfhpdadbopkaa
open Go.K Go.M
def i4(n:az)(m:List Int)(t:Int):Int×List Int:=bif decide (0≤t)&&decide (t<(n.2.1.length:Int))then ek n m t.toNat else(2,[])
theorem qnl{n:az}{m:List Int}{t:Int}(h0:0≤t)(h1:t<(n.2.1.length:Int)):i4 n m t=ek n m t.toNat:=by
 unfold i4;rw[decide_eq_true h0,decide_eq_true h1];rfl
theorem qp0{n:az}{m:List Int}{t:Int}(h:¬(0≤t∧t<(n.2.1.length:Int))):i4 n m t=(2,[]):=by
 unfold i4;have:(decide (0≤t)&&decide (t<(n.2.1.length:Int)))=false:=by
  rw[Bool.and_eq_false_iff,decide_eq_false_iff_not,decide_eq_false_iff_not];omega
 rw[this];rfl
theorem q3j{n:az}{m:List Int}{t:Int}(h:(i4 n m t).1=0):0≤t∧t<(n.2.1.length:Int):=by
 refine Classical.byContradiction fun hc=> ?_
 rw[qp0 hc]at h;cases h
theorem jcu{n:az}(h:Small n)(hv:cd n=true){m:List Int}(hm:fa n.1 m=true)(t:Int):mn n m t=some (i4 n m t):=by
 obtain⟨p1,p2,_⟩:=fq hv h;have hlen:=qbc hm;by_cases hc:0≤t∧t<(n.2.1.length:Int)
 ·obtain⟨k,rfl⟩:=Int.eq_ofNat_of_zero_le hc.1;rw[qnl hc.1 hc.2];have h1:=q6u h hv hm (t:=k) (by omega);have e:xk n m (k:Int)=bnd (kb n m) fun r1=>bif (!r1)then some (1,[])else bnd (mn n m (k:Int)) fun r2=>some (r2.1,r2.2):=rfl
  rw[e,zl h m (by omega),hv,hm,aq,Bool.and_self,Bool.not_true,cond_false]at h1;show mn n m (k:Int)=some (ek n m k);cases hq:mn n m (k:Int)with
  |none=>rw[hq]at h1;cases h1
  |some r=>rw[hq,aq]at h1;exact h1
 ·rw[qp0 hc];unfold mn;by_cases h0:t<0
  ·simp(disch:=omega)only[rs]
  ·have:(n.2.1.length:Int)≤t:=by omega
   simp(disch:=omega)only[rs]
theorem qlw{n:az}(h:Small n)(hv:cd n=true){m:List Int}(hm:fa n.1 m=true){t:Int}(h0:(i4 n m t).1=0):fa n.1 (i4 n m t).2=true:=by
 have hc:=q3j h0;rw[qnl hc.1 hc.2]at h0⊢;exact qu9 h hv hm (by omega) h0
def zx(n:az):List Int→List Int→Option (List Int)
 |[],m=>some m
 |t::l,m=>if(i4 n m t).1=0 then zx n l (i4 n m t).2 else none
def qza(n:az)(N:Int):List Int→List Int→List Int⊕(List Int×Int×Int)
 |[],m=> .inl m
 |t::l,m=>if(i4 n m t).1=0 then qza n N l (i4 n m t).2 else .inr ([],N-((l.length+1:Nat):Int),(i4 n m t).1)
theorem q0b(n:az)(N:Int)(t:Int)(l m:List Int):qza n N (t::l) m=if(i4 n m t).1=0 then qza n N l (i4 n m t).2 else .inr ([],N-((l.length+1:Nat):Int),(i4 n m t).1):=rfl
theorem q2l(n:az)(N:Int):∀(l m:List Int),(∃x,zx n l m=some x∧qza n N l m= .inl x)∨(zx n l m=none∧∃r,qza n N l m= .inr r∧¬r.2.2=0)
 |[],m=> .inl ⟨m,rfl,rfl⟩
 |t::l,m=>by
  unfold zx qza;by_cases h:(i4 n m t).1=0
  ·rw[if_pos h,if_pos h];exact q2l n N l _
  ·rw[if_neg h,if_neg h];exact .inr ⟨rfl,_,rfl,h⟩
theorem q2k{n:az}:∀{l m x:List Int},zx n l m=some x→∀t∈l,0≤t∧t<(n.2.1.length:Int)
 |[],_,_,_,t,ht=>by cases ht
 |t' ::l,m,x,h,t,ht=>by
  unfold zx at h;by_cases h0:(i4 n m t').1=0
  ·rw[if_pos h0]at h;rcases List.mem_cons.1 ht with rfl|ht
   ·exact q3j h0
   ·exact q2k h t ht
  ·rw[if_neg h0]at h;cases h
theorem qz9{n:az}(h:Small n)(hv:cd n=true):∀{l m x:List Int},fa n.1 m=true→zx n l m=some x→fa n.1 x=true
 |[],m,x,hm,he=>by cases he;exact hm
 |t::l,m,x,hm,he=>by
  unfold zx at he;by_cases h0:(i4 n m t).1=0
  ·rw[if_pos h0]at he;exact qz9 h hv (qlw h hv hm h0) he
  ·rw[if_neg h0]at he;cases he
theorem jf5{n:az}(h:Small n)(hv:cd n=true){m:List Int}(hm:fa n.1 m=true)(l:List Int)(hl:l.length≤100000):
  ∃r,qjx n m l=some r∧(r.2.2=0→l.length≤1000∧zx n l m=some r.1)∧(l.length≤1000→∀x,zx n l m=some x→r=(x,(l.length:Int),0)):=by
 obtain⟨p1,p2,_⟩:=fq hv h;have hlen:=qbc hm;unfold qjx;rw[zl h m (by omega),hv,hm,aq,Bool.and_self,Bool.not_true,cond_false];by_cases hc:(1000:Int)<(l.length:Int)
 ·rw[fo hc];exact⟨_,rfl,fun h=>(by cases h),fun h=>(by omega)⟩
 ·have hL:qse l l (l.length:Int) n.1 n.2.1 n.2.2.1 n.2.2.2.1 (m,0)=some (qza n l.length l m):=by
   refine qzy l (0:Int) (i6 (by omega)) (fun i a=>(a,(i:Int))) (fun _ a=>fa n.1 a=true) (qza n l.length) (fun a _=> ?_) (fun i a hi ha=> ?_) m hm _ rfl
   ·simp(disch:=omega)only[u6,rs];rfl
   ·have hF:mn (n.1,n.2.1,n.2.2.1,n.2.2.2.1,()) a (l.getD i 0)=some (i4 n a (l.getD i 0)):=jcu h hv ha _;rw[q0b];by_cases h0:(i4 n a (l.getD i 0)).1=0
    ·refine .inl ⟨(i4 n a (l.getD i 0)).2,?_,qlw h hv ha h0,?_⟩
     ·simp(disch:=omega)only[u6,hF,h0,am,rs]
     ·rw[if_pos h0]
    ·refine .inr ?_;have el:(l.drop (i+1)).length+1=l.length-i:=by rw[List.length_drop];omega
     have el' :((l.length:Nat):Int)-((l.length-i:Nat):Int)=(i:Int):=by omega
     rw[if_neg h0,el,el'];simp(disch:=omega)only[u6,hF,h0,rs];rfl
  rw[lj (by omega),qm9 m (by omega),aq,hL,aq];rcases q2l n l.length l m with⟨x,e1,e2⟩|⟨e1,r,e2,e3⟩
  ·rw[e2];exact⟨_,rfl,fun _=>⟨by omega,e1⟩,fun _ y hy=>by rw[e1]at hy;cases hy;rfl⟩
  ·rw[e2];exact⟨r,rfl,fun h=>absurd h e3,fun _ y hy=>by rw[e1]at hy;cases hy⟩
def qml(n:az)(t:Nat):Bool:=eqS (qdp n t) ⟨#[]⟩
def zd(n:az)(l:List Int):List ByteArray:=(l.filter fun t=> !qml n t.toNat).map fun t=>qdp n t.toNat
theorem qf8(n:az)(l:List Int)(t:Int):zd n (l++[t])=if qml n t.toNat=true then zd n l else zd n l++[qdp n t.toNat]:=by
 unfold zd;rw[List.filter_append];split
 ·rename_i h;rw[jac (by rw[h];rfl),List.append_nil]
 ·rename_i h;rw[jad (by simpa using h),List.map_append];rfl
theorem qru(n:az)(l:List Int):(zd n l).length≤l.length:=by
 unfold zd;rw[List.length_map];exact List.length_filter_le _ _
theorem jb5{n:az}(h:Small n)(hv:cd n=true)(l:List Int)(hl:l.length≤1000)(hi:∀t∈l,0≤t∧t<(n.2.1.length:Int)):qfw n l=some (0,zd n l):=by
 have hL:qoe l (l.length:Int) n.1 n.2.1 n.2.2.1 n.2.2.2.1 (0,[])=some (.inl (zd n l)):=by
  refine x0 (fun i=>((i:Int),zd n (l.take i))) l.length (i6 (by omega)) _ (fun i hlt=> ?_) ?_ _ rfl
  ·have hm:=hi _ (a7 0 hlt);have hw:=qru n (l.take i);have ht:(l.take i).length=i:=by rw[List.length_take];omega
   have e1:qdp n (l.getD i 0).toNat=(n.2.1.getD (l.getD i 0).toNat af.z).1:=rfl;have e2:eqS (n.2.1.getD (l.getD i 0).toNat af.z).1 ⟨#[]⟩=qml n (l.getD i 0).toNat:=rfl;rw[fp l i 0 hlt,qf8,e1];unfold x6;simp only[sw];rw[fo (by omega),a8 (by omega) (by omega),a8 (by omega) (by omega)];simp only[Int.toNat_natCast];rw[lj (by omega),qjm (by omega),a8 (by omega) (by omega),a8 (by omega) (by omega),e2];cases qml n (l.getD i 0).toNat with
   |true=>
    simp(disch:=omega)only[am,Bool.not_true,if_true,rs]
   |false=>
    simp(disch:=omega)only[am,Bool.not_false,Bool.false_eq_true,if_false,rs]
  ·rw[List.take_length];simp(disch:=omega)only[x6,rs]
 unfold qfw;rw[qna h,hv,aq,Bool.not_true,cond_false,lj (by omega),hL];rfl
def qkw(n:az)(l:List Int):Option (List Int×List ByteArray):=if l.length≤1000 then(zx n l (qdl n)).map fun x=>(x,zd n l)else none
theorem q5m{n:az}{l:List Int}{x:List Int}{w:List ByteArray}(h:qkw n l=some (x,w)):l.length≤1000∧zx n l (qdl n)=some x∧w=zd n l:=by
 unfold qkw at h;by_cases hc:l.length≤1000
 ·rw[if_pos hc]at h;cases hr:zx n l (qdl n)with
  |none=>rw[hr]at h;cases h
  |some y=>rw[hr]at h;cases h;exact⟨hc,rfl,rfl⟩
 ·rw[if_neg hc]at h;cases h
theorem q5n{n:az}(h:Small n)(hv:cd n=true)(l:List Int)(hl:l.length≤100000):
  lz n l=some (match qkw n l with|some (x,w)=>(x,true,w)|none=>([],false,[])):=by
 obtain⟨r,h1,h2,h3⟩:=jf5 h hv (qn9 h hv n.2.2.1) l hl;unfold lz qkw;rw[qut h hv,aq];dsimp only;rw[h1,aq];by_cases hz:r.2.2=0
 ·obtain⟨g1,g2⟩:=h2 hz;have hr:zx n l (qdl n)=some r.1:=g2;rw[if_pos g1,hr,decide_eq_true hz,jb5 h hv l g1 (q2k g2)];rfl
 ·rw[decide_eq_false hz];by_cases hc:l.length≤1000
  ·rw[if_pos hc];cases hr:zx n l (qdl n)with
   |none=>rfl
   |some x=>exact absurd (by rw[h3 hc x hr]) hz
  ·rw[if_neg hc];rfl
theorem jc3(l:List Int):∃b,qfo l=some b∧(b=false→l.length≤40∨1000<l.length∧l.length≤2000):=by
 unfold qfo;by_cases c1:(40:Int)<(l.length:Int)
 ·by_cases c2:(l.length:Int)≤1000
  ·exact⟨true,by simp(disch:=omega)only[rs],fun h=>by cases h⟩
  ·refine⟨decide ((2000:Int)<(l.length:Int)),by simp(disch:=omega)only[rs],fun h=> ?_⟩;have:=of_decide_eq_false h;omega
 ·exact⟨decide ((2000:Int)<(l.length:Int)),by simp(disch:=omega)only[rs],fun h=> .inl (by omega)⟩
def q4m(v w:List ByteArray):Prop:=v.map ByteArray.toList=w.map ByteArray.toList
structure Cert (old new : az) (run : List Int) (x : fu) : Prop where
 w1 : eu old = some true
 w2 : eu new = some true
 v1 : cd old = true
 v2 : cd new = true
 pm : PM old new x.2.2.1
 hist : ∃ a v w, qkw old run = some (a, v) ∧ qkw new x.2.1 = some (x.1, w) ∧ q4m v w ∧ inB x.2.2.1 a x.1 = true
 all : ∀ p ∈ x.2.2.1, jlt old new (inB x.2.2.1) p.1 p.2.1 = true
end Go.Proofs.Ytdhfhpdadbopkaa
