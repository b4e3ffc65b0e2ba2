/-
  Siphon: the greatest siphon, or trap, in a set; the law SiphonForms.
-/
import Derived.Test.YtclbndfjhjladaaGreatZ4SA
set_option linter.all false
namespace Go.Proofs.YtclbndfjhjladaaGreat
open Go.K Go.M
def j0q(t:af)(trap:Bool):List Int:=bif trap then t.2.1 else t.2.2.1
def j0r(t:af)(trap:Bool):List Int:=bif trap then t.2.2.1 else t.2.1
def qpg(trap:Bool)(l:List Int)(t:af):Bool:=yf (j0q t trap) l&& !yf (j0r t trap) l
def qnb(ts:List af)(trap:Bool)(l:List Int):Bool:= !ts.any (qpg trap l)
structure SmallT (ts : List af) : Prop where
 trans : ts.length ≤ 100
 ins : ∀ t ∈ ts, t.2.1.length ≤ 60
 outs : ∀ t ∈ ts, t.2.2.1.length ≤ 60
theorem Small.T{n:ca}(h:Small n):SmallT n.2.1:=⟨h.trans,h.ins,h.outs⟩
theorem SmallT.a{ts:List af}(h:SmallT ts){t:af}(ht:t∈ts)(trap:Bool):(j0q t trap).length≤60:=by
 cases trap
 ·exact h.outs t ht
 ·exact h.ins t ht
theorem SmallT.b{ts:List af}(h:SmallT ts){t:af}(ht:t∈ts)(trap:Bool):(j0r t trap).length≤60:=by
 cases trap
 ·exact h.ins t ht
 ·exact h.outs t ht
theorem qty{n:ca}(h:SmallT n.2.1)(l:List Int)(hl:l.length≤1000000):n4 n l=some (qnb n.2.1 false l):=by
 have hL:ql0 l n.1 n.2.1 n.2.2.1 n.2.2.2.1 0=some (bif n.2.1.any (qpg false l)then .inr false else .inl ()):=by
  have:=h.trans;refine f7 n.2.1 af.z (qpg false l) false (by omega) (fun i hi=> ?_) ?_
  ·have h1:=h.ins _ (ao af.z hi);have h2:=h.outs _ (ao af.z hi);have e1:=qq8 (n.2.1.getD i af.z).2.2.1 l (by omega) hl;have e2:=qq8 (n.2.1.getD i af.z).2.1 l (by omega) hl;unfold qpg j0q j0r;simp(disch:=omega)only[ss,e1,e2,rs];rw[ag];cases yf (n.2.1.getD i af.z).2.2.1 l<;>cases yf (n.2.1.getD i af.z).2.1 l<;>rfl
  ·simp(disch:=omega)only[ss,rs]
 unfold n4 qnb;rw[hL,au];cases n.2.1.any (qpg false l)<;>rfl
def u4(ts:List af)(trap:Bool)(W:List Int):Prop:=qnb ts trap W=true
theorem yg{a b:List Int}:yf a b=true↔∃p,p∈a∧p∈b:=by
 unfold yf;rw[List.any_eq_true];constructor
 ·rintro⟨p,hp,h⟩;exact⟨p,hp,iq.1 h⟩
 ·rintro⟨p,hp,h⟩;exact⟨p,hp,iq.2 h⟩
theorem qwz{ts:List af}{trap:Bool}{W:List Int}:u4 ts trap W↔∀t∈ts,(∃p,p∈j0q t trap∧p∈W)→∃p,p∈j0r t trap∧p∈W:=by
 unfold u4 qnb;rw[Bool.not_eq_true',List.any_eq_false];constructor
 ·intro h t ht hA;have:=h t ht;unfold qpg at this;rw[Bool.and_eq_true,Bool.not_eq_true',not_and]at this;have h2:=this (yg.2 hA);exact yg.1 (by simpa using h2)
 ·intro h t ht hc;unfold qpg at hc;rw[Bool.and_eq_true,Bool.not_eq_true']at hc;have:=yg.2 (h t ht (yg.1 hc.1));rw[hc.2]at this;cases this
def q2x(ts:List af)(trap:Bool)(l out:List Int):Prop:=(∃p:Int→Bool,out=l.filter p)∧∀W,u4 ts trap W→(∀x∈W,x∈l)→∀x∈W,x∈out
def jl3(ts:List af)(trap:Bool)(l out:List Int):Prop:=q2x ts trap l out∧u4 ts trap out
theorem jqa(ts:List af)(trap:Bool)(l:List Int):q2x ts trap l l:=⟨⟨fun _=>true,(List.filter_eq_self.2 fun _ _=>rfl).symm⟩,fun W _ h=>h⟩
theorem jjv{ts:List af}{trap:Bool}{l out:List Int}(h:q2x ts trap l out){p:Int→Bool}(hp:∀W,u4 ts trap W→(∀x∈W,x∈out)→∀x∈W,p x=true):q2x ts trap l (out.filter p):=by
 obtain⟨⟨q,rfl⟩,h2⟩:=h;refine⟨⟨fun x=>p x&&q x,by rw[List.filter_filter]⟩,fun W hW hl x hx=>List.mem_filter.2 ⟨h2 W hW hl x hx,hp W hW (h2 W hW hl) x hx⟩⟩
def okB(ts:List af)(out:List Int)(x:Int):Bool:=ts.all fun t=> !cn t.2.2.1 x||yf t.2.1 out
theorem jlh{n:ca}(h:SmallT n.2.1)(l:List Int)(hl:l.length≤1000000):∃G,qal n l=some G∧jl3 n.2.1 false l G:=by
 have htr:=h.trans;have hL0:∀(out kept:List Int) (i:Nat),out.length≤1000000→i<out.length→qsz out (i:Int) n.1 n.2.1 n.2.2.1 n.2.2.2.1 kept (true,0)=some (.inl (okB n.2.1 out (out.getD i 0))):=fun out kept i ho hi=>by
  have e:okB n.2.1 out (out.getD i 0)=okB (n.2.1.take n.2.1.length) out (out.getD i 0):=by rw[List.take_length]
  rw[e];refine a9 (fun t:Nat=>(okB (n.2.1.take t) out (out.getD i 0),(t:Int))) n.2.1.length (aw (by omega)) _ (fun t ht=> ?_) ?_ _ rfl
  ·have h1:=h.ins _ (ao af.z ht);have h2:=h.outs _ (ao af.z ht);have e1:=rx (n.2.1.getD t af.z).2.2.1 (by omega) (out.getD i 0);have e2:=qq8 (n.2.1.getD t af.z).2.1 out (by omega) ho;have e3:okB (n.2.1.take (t+1)) out (out.getD i 0)=(okB (n.2.1.take t) out (out.getD i 0)&&(!cn (n.2.1.getD t af.z).2.2.1 (out.getD i 0)||yf (n.2.1.getD t af.z).2.1 out)):=by
    unfold okB;rw[ct n.2.1 t af.z ht,List.all_append];simp
   rw[e3];simp(disch:=omega)only[wy,e1,e2,rs];rw[ag];cases okB (n.2.1.take t) out (out.getD i 0)<;>cases cn (n.2.1.getD t af.z).2.2.1 (out.getD i 0)<;>cases yf (n.2.1.getD t af.z).2.1 out<;>rfl
  ·simp(disch:=omega)only[wy,rs]
 have hL1:∀out:List Int,out.length≤1000000→qs0 out n.1 n.2.1 n.2.2.1 n.2.2.2.1 (0,[])=some (.inl (out.filter (okB n.2.1 out))):=fun out ho=>by
  have e:out.filter (okB n.2.1 out)=(out.take out.length).filter (okB n.2.1 out):=by rw[List.take_length]
  rw[e];refine a9 (fun i:Nat=>((i:Int),(out.take i).filter (okB n.2.1 out))) out.length (aw (by omega)) _ (fun i hi=> ?_) ?_ _ rfl
  ·have h3:((out.take i).filter (okB n.2.1 out)).length≤i:=Nat.le_trans (List.length_filter_le _ _) (by rw[List.length_take];omega);have e1:=hL0 out ((out.take i).filter (okB n.2.1 out)) i ho hi;have e3:(out.take (i+1)).filter (okB n.2.1 out)=(out.take i).filter (okB n.2.1 out)++(bif okB n.2.1 out (out.getD i 0)then [out.getD i 0]else []):=by
    rw[ct out i 0 hi,List.filter_append];congr 1
   rw[e3];simp(disch:=omega)only[wz,e1,rs];rw[ag];cases okB n.2.1 out (out.getD i 0)with
   |true=>rfl
   |false=>simp
  ·simp(disch:=omega)only[wz,rs]
 have hL2:∃o,qs1 n.1 n.2.1 n.2.2.1 n.2.2.2.1 l=some o∧∃G,o= .inr G∧jl3 n.2.1 false l G:=by
  refine da (fun(out:List Int)=>q2x n.2.1 false l out) (fun out=>out.length) (fun(o:Unit⊕List Int)=>∃G,o= .inr G∧jl3 n.2.1 false l G) l (jqa _ _ _) (aw (by omega)) ?_;intro out hh;have hol:out.length≤l.length:=by
   obtain⟨⟨p,rfl⟩,_⟩:=hh;exact List.length_filter_le _ _
  have e1:=hL1 out (by omega);have hkept:q2x n.2.1 false l (out.filter (okB n.2.1 out)):=by
   refine jjv hh fun W hW hl x hx=> ?_
   unfold okB;rw[List.all_eq_true];intro t ht;cases hm:cn t.2.2.1 x with
   |false=>rfl
   |true=>
    obtain⟨p,hp1,hp2⟩:=qwz.1 hW t ht ⟨x,iq.1 hm,hx⟩;have:=yg.2 ⟨p,hp1,hl p hp2⟩;exact this
  by_cases hlen:(out.filter (okB n.2.1 out)).length=out.length
  ·have e:out.filter (okB n.2.1 out)=out:=List.filter_sublist.eq_of_length hlen;refine⟨.ret (out.filter (okB n.2.1 out)),?_,_,rfl,hkept,?_⟩
   ·have:decide (((out.filter (okB n.2.1 out)).length:Int)=(out.length:Int))=true:=decide_eq_true (by omega);simp(disch:=omega)only[w9,e1,this,rs]
   ·rw[e,qwz];rintro t ht ⟨p,hp1,hp2⟩;have hok:=(List.filter_eq_self.1 e) p hp2;unfold okB at hok;have:=List.all_eq_true.1 hok t ht;have hm:cn t.2.2.1 p=true:=iq.2 hp1;rw[hm]at this;have h3:yf t.2.1 out=true:=by simpa using this
    exact yg.1 h3
  ·have hlt:=List.length_filter_le (okB n.2.1 out) out;refine⟨.next (out.filter (okB n.2.1 out)),?_,hkept,by omega⟩;have:decide (((out.filter (okB n.2.1 out)).length:Int)=(out.length:Int))=false:=decide_eq_false (by omega);simp(disch:=omega)only[w9,e1,this,rs]
 obtain⟨_,ho,G,rfl,hG⟩:=hL2;refine⟨G,?_,hG⟩;unfold qal;rw[ho,au,jxp]
end Go.Proofs.YtclbndfjhjladaaGreat
