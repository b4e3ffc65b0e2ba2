/-
  A run's word is accepted.
-/
import Derived.Test.YtocndcbobdnagaaGreatDoorZ3G1
set_option linter.all false
namespace Go.Proofs.YtocndcbobdnagaaGreatDoor
open Go.K Go.M
section
variable {n : bk} {N : Nat} {W : aw} (hW : WK n N W)
include hW
theorem j0f:∃S,uk W=some S/\zr S 0=true/\Clo n N W S:=by
 have h1:=hW.n1;have h2:=hW.n2;have hs:=hW.sp;have hl:((List.replicate N false).set 0 true).length=N:=by simp
 obtain⟨S,e1,e2,e3⟩:=jm7 hW hl;have hr:(List.replicate N (false:Bool)).length=N:=WT;have e4:=e3.1;refine⟨S,?_,e2 0 ?_,e3⟩
 ·have hi1:ix 0 1=true:=rfl;unfold uk;simp(disch:=omega)only[hi1,hs,hr,hl,e1,e4,zx,rs]
 ·show((List.replicate N false).set 0 true).getD 0 false=true;rw[jno _ _ _ _ (by omega),if_pos rfl]
theorem j0i{act:ByteArray}{S0:List Bool}{a b:Int}{i:Nat}(hi:i<N){S:List Bool}(hS:S.length=N):
  ∃S',zo W act S0 a b (row W i) ((row W i).length:Int) (0,S)=some (.inl S')/\S'.length=N/\(∀k,zr S k=true->zr S' k=true)/\∀x∈row W i,eqS (lbl n x.2.2.1) act=true->zr S' x.2.1.toNat=true:=by
 have hlen:(row W i).length<=2000:=hW.len i hi;have hi1:ix 0 1=true:=rfl;have hnl:W.1.2.1.length=n.2.1.length:=by rw[hW.net]
 suffices hh:∃o,zo W act S0 a b (row W i) ((row W i).length:Int) (0,S)=some o/\∃S',o= .inl S' /\S'.length=N/\(∀k,zr S k=true->zr S' k=true)/\∀x∈row W i,eqS (lbl n x.2.2.1) act=true->zr S' x.2.1.toNat=true by
  obtain⟨o,h1,S',rfl,h3⟩:=hh;exact⟨S',h1,h3⟩
 refine qdc (step:=fun a' :Int×List Bool=>ig W act S0 a b (row W i) ((row W i).length:Int) a'.1 a'.2 (fun a' =>some (.next a')) (fun e=>some (.done e)) (fun r=>some (.ret r)))
  (fun s=>∃v:Nat,s.1=(v:Int)/\v<=(row W i).length/\s.2.length=N/\(∀k,zr S k=true->zr s.2 k=true)/\∀k,k<v->eqS (lbl n ((row W i).getD k ak.z).2.2.1) act=true->zr s.2 ((row W i).getD k ak.z).2.1.toNat=true)
  (fun s=>(row W i).length-s.1.toNat) (fun o=>∃S',o= .inl S' /\S'.length=N/\(∀k,zr S k=true->zr S' k=true)/\∀x∈row W i,eqS (lbl n x.2.2.1) act=true->zr S' x.2.1.toNat=true) (0,S)
  ⟨0,rfl,W7 _,hS,fun _ h=>h,fun k hk=>by omega⟩ (bm (by show _-0<=_;omega)) fun s hs=> ?_
 obtain⟨s1,T⟩:=s;obtain⟨v,e1,hv,hl,hm,hc⟩:=hs;obtain rfl:s1=(v:Int):=e1;have hl:T.length=N:=hl;by_cases hlt:v<(row W i).length
 ·have hx:=hW.ok i hi _ (ay ak.z hlt);have hlb:(ByteArray.toList (W.1.2.1.getD ((row W i).getD v ak.z).2.2.1.toNat af.z).1==ByteArray.toList act)=eqS (lbl n ((row W i).getD v ak.z).2.2.1) act:=by rw[hW.net];rfl
  generalize hxe:(row W i).getD v ak.z=x at hx hlb;obtain⟨xa,xb,xc,xd⟩:=hx;cases hs:eqS (lbl n x.2.2.1) act with
  |false=>
   rw[hs]at hlb;refine⟨.next (((v+1:Nat):Int),T),?_,⟨v+1,rfl,hlt,hl,hm,fun k hk hsk=> ?_⟩,by show _-(v+1)<_-v;omega⟩
   ·simp(disch:=omega)only[ig,hxe,hi1,hnl,hl,zx,am,rs];exact qgo hlb _ _
   ·by_cases e:k=v
    ·rw[e,hxe,hs]at hsk;cases hsk
    ·exact hc k (by omega) hsk
  |true=>
   rw[hs]at hlb;have hon:zr (T.set x.2.1.toNat true) x.2.1.toNat=true:=by
    show(T.set x.2.1.toNat true).getD x.2.1.toNat false=true;rw[jno T _ true false (by omega),if_pos rfl]
   refine⟨.next (((v+1:Nat):Int),T.set x.2.1.toNat true),?_,⟨v+1,rfl,hlt,by show(T.set _ _).length=N;rw[WB];exact hl,fun k h=>jfp (hm k h),fun k hk hsk=> ?_⟩,by show _-(v+1)<_-v;omega⟩
   ·simp(disch:=omega)only[ig,hxe,hi1,hnl,hl,zx,am,rs];exact tw hlb _ _
   ·by_cases e:k=v
    ·rw[e,hxe];exact hon
    ·exact jfp (hc k (by omega) hsk)
 ·refine⟨.done T,?_,T,rfl,hl,hm,fun x hx hsx=> ?_⟩
  ·simp(disch:=omega)only[ig,rs]
  ·obtain⟨k,hk,rfl⟩:=kq ak.z hx;exact hc k (by omega) hsx
theorem j3x{S0:List Bool}(hC:Clo n N W S0)(act:ByteArray):∃S,wo W S0 act=some S/\Clo n N W S/\∀i,i<N->zr S0 i=true->∀x∈row W i,eqS (lbl n x.2.2.1) act=true->zr S x.2.1.toNat=true:=by
 have h1:=hW.n1;have h2:=hW.n2;have hl:=hC.1;have hou:=hW.out;have hi1:ix 0 1=true:=rfl
 suffices hh:∃o,qi3 W act S0 (N:Int) (0,List.replicate N false)=some o/\∃T,o= .inl T/\T.length=N/\∀i,i<N->zr S0 i=true->∀x∈row W i,eqS (lbl n x.2.2.1) act=true->zr T x.2.1.toNat=true by
  obtain⟨o,h1,T,rfl,h3,h4⟩:=hh;obtain⟨S,e1,e2,e3⟩:=jm7 hW h3;have e4:=e3.1;refine⟨S,?_,e3,fun i hi ho x hx hs=>e2 _ (h4 i hi ho x hx hs)⟩;unfold wo;simp(disch:=omega)only[hl,h1,e1,e4,h3,rs];rfl
 refine qdc (step:=fun a' :Int×List Bool=>ii W act S0 (N:Int) a'.1 a'.2 (fun a' =>some (.next a')) (fun e=>some (.done e)) (fun r=>some (.ret r)))
  (fun s=>∃v:Nat,s.1=(v:Int)/\v<=N/\s.2.length=N/\∀i,i<v->zr S0 i=true->∀x∈row W i,eqS (lbl n x.2.2.1) act=true->zr s.2 x.2.1.toNat=true)
  (fun s=>N-s.1.toNat) (fun o=>∃T,o= .inl T/\T.length=N/\∀i,i<N->zr S0 i=true->∀x∈row W i,eqS (lbl n x.2.2.1) act=true->zr T x.2.1.toNat=true) (0,List.replicate N false)
  ⟨0,rfl,W7 _,WT,fun i hi=>by omega⟩ (bm (by show _-0<=_;omega)) fun s hs=> ?_
 obtain⟨s1,T⟩:=s;obtain⟨v,e1,hv,hT,hc⟩:=hs;obtain rfl:s1=(v:Int):=e1;by_cases hlt:v<N
 ·cases hd:zr S0 v with
  |false=>
   have hd' :S0.getD v false=false:=hd;refine⟨.next (((v+1:Nat):Int),T),?_,⟨v+1,rfl,hlt,hT,fun i hi ho=> ?_⟩,by show _-(v+1)<_-v;omega⟩
   ·simp(disch:=omega)only[ii,hl,hd',WP,am,rs]
   ·by_cases e:i=v
    ·rw[e,hd]at ho;cases ho
    ·exact hc i (by omega) ho
  |true=>
   have hd' :S0.getD v false=true:=hd;obtain⟨T',f1,f2,f3,f4⟩:=j0i hW (act:=act) (S0:=S0) (a:=(N:Int)) (b:=(v:Int)) hlt hT;refine⟨.next (((v+1:Nat):Int),T'),?_,⟨v+1,rfl,hlt,f2,fun i hi ho x hx hs=> ?_⟩,by show _-(v+1)<_-v;omega⟩
   ·simp(disch:=omega)only[ii,hl,hd',hi1,hou,zx,f1,Wv,am,rs]
   ·by_cases e:i=v
    ·subst e;exact f4 x hx hs
    ·exact f3 _ (hc i (by omega) ho x hx hs)
 ·refine⟨.done T,?_,T,rfl,hT,fun i hi=>hc i (by omega)⟩;simp(disch:=omega)only[ii,rs]
end
def wdL(n:bk):List Nat->List ByteArray
 |[]=>[]
 |t::l=>bif eqS (lab n t) ⟨#[]⟩then wdL n l else lab n t::wdL n l
theorem juc(n:bk):∀a b:List Nat,wdL n (a++b)=wdL n a++wdL n b
 |[],b=>rfl
 |t::a,b=>by
  show(bif eqS (lab n t) ⟨#[]⟩then wdL n (a++b)else lab n t::wdL n (a++b))=(bif eqS (lab n t) ⟨#[]⟩then wdL n a else lab n t::wdL n a)++_;rw[juc n a b];cases eqS (lab n t) ⟨#[]⟩<;>rfl
theorem jma(n:bk):∀a:List Nat,(wdL n a).length<=a.length
 |[]=>Wg _
 |t::a=>by
  have:=jma n a;show(bif eqS (lab n t) ⟨#[]⟩then wdL n a else lab n t::wdL n a).length<=a.length+1;cases eqS (lab n t) ⟨#[]⟩
  ·show(wdL n a).length+1<=_;omega
  ·show(wdL n a).length<=_;omega
theorem j38{n:bk}{N:Nat}{n0:Int}{n2 n3:Int}{st:List (List Int)}{mv:List ak}{fu:Bool}{out:List (List ak)}{fi:Int}(hW:WK n N ((n0,n.2.1,n2,n3,()),(st,mv,fu,()),out,fi,())){E:Eg->Prop}(hE:∀{a b t:Nat},E (a,b,t)->a<N/\mvA a b t∈out.getD a [])(word:List ByteArray)(hw:word.length<=100):
  ∀(f k:Nat) (l:List Eg) (i j:Nat) (S:List Bool),k+f=word.length->word.drop k=wdL n (l.map fun e=>e.2.2)->IsW E i l j->Clo n N ((n0,n.2.1,n2,n3,()),(st,mv,fu,()),out,fi,()) S->zr S i=true->
  ∃S',xh (fun a:List Bool×Int=>si word (word.length:Int) n0 n.2.1 n2 n3 st mv fu out fi a.1 a.2 (fun a' =>some (.next a')) (fun e=>some (.done e)) (fun r=>some (.ret r))) (f+1) (S,(k:Int))=some (.inl S')/\S'.length=N/\zr S' j=true:=by
 intro f k l
 induction l generalizing f k with
 |nil=>
  intro i j S hk hd hl hC ho;obtain rfl:i=j:=hl;have:k=word.length:=by
   have:=W0 List.length hd;rw[Hk]at this;simp only[KH,wdL,KG]at this;omega
  refine⟨S,?_,hC.1,ho⟩;rw[ce];simp(disch:=omega)only[si,rs];rfl
 |cons e l ih=>
  intro i j S hk hd hl hC ho;obtain⟨a,b,t⟩:=e;obtain⟨h1,h2,h3⟩:=hl;obtain rfl:a=i:=h1;obtain⟨ha,hm⟩:=hE h2;have hd:word.drop k=bif eqS (lab n t) ⟨#[]⟩then wdL n (l.map fun e=>e.2.2)else lab n t::wdL n (l.map fun e=>e.2.2):=hd;have hlb:lbl n (mvA a b t).2.2.1=lab n t:=by
   show(n.2.1.getD (Int.toNat (t:Int)) af.z).1=(n.2.1.getD t af.z).1;rw[WN]
  have hb:(mvA a b t).2.1.toNat=b:=WN b;cases hs:eqS (lab n t) ⟨#[]⟩with
  |true=>
   rw[hs]at hd;have h5:=hC.2 a ha ho _ hm (by unfold jnq;rw[hlb];exact hs);rw[hb]at h5;exact ih f k b j S hk hd h3 hC h5
  |false=>
   rw[hs]at hd;have hd:word.drop k=lab n t::wdL n (l.map fun e=>e.2.2):=hd;have hlt:k<word.length:=KZ fun hn=>by
    rw[List.drop_eq_nil_of_le (by omega)]at hd;cases hd
   rw[qyf word k ⟨#[]⟩ hlt]at hd;obtain⟨hd1,hd2⟩:=HB hd;obtain⟨S',e1,e2,e3⟩:=j3x hW hC (word.getD k ⟨#[]⟩);have h5:=e3 a ha ho _ hm (by rw[hlb,hd1];exact jdf _);rw[hb]at h5;obtain⟨f,rfl⟩:∃g,f=g+1:=⟨f-1,by omega⟩;obtain⟨S2,g1,g2⟩:=ih f (k+1) b j S' (by omega) hd2 h3 e2 h5;refine⟨S2,?_,g2⟩;rw[ce,<-g1];simp(disch:=omega)only[si,e1,am,rs];rfl
end Go.Proofs.YtocndcbobdnagaaGreatDoor
