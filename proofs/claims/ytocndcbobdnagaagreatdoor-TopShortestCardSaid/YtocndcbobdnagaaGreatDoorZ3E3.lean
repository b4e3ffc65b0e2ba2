/-
  Runs of a net, and ways in its space.
-/
import Derived.Test.YtocndcbobdnagaaGreatDoorZ3E2
set_option linter.all false
namespace Go.Proofs.YtocndcbobdnagaaGreatDoor
open Go.K Go.M
def Rn(n:bk):List Nat->List Int->List Int->Prop
 |[],a,b=>a=b
 |t::l,a,b=>t<n.2.1.length/\(gg n a t).1=0/\Rn n l (gg n a t).2 b
theorem Rn.snoc{n:bk}{t:Nat}:∀{l:List Nat} {a b:List Int},Rn n l a b->t<n.2.1.length->(gg n b t).1=0->Rn n (l++[t]) a (gg n b t).2
 |[],a,b,h,h1,h2=>by
  obtain rfl:a=b:=h;exact⟨h1,h2,rfl⟩
 |u::l,a,b,⟨g1,g2,g3⟩,h1,h2=>⟨g1,g2,Rn.snoc g3 h1 h2⟩
theorem j2d{n:bk}{m:List Int}{t:Nat}(h0:(gg n m t).1=0):tx (trA n t) m=true/\(gg n m t).2=eu (trA n t) m:=by
 unfold gg at h0⊢;cases hc:tx (n.2.1.getD t af.z) m with
 |false=>rw[hc]at h0;exact absurd (show(12:Int)=0 from h0) (by decide)
 |true=>
  rw[hc]at h0;cases ha:(eu (n.2.1.getD t af.z) m).any (fun k=>decide (100<k))with
  |true=>rw[ha]at h0;exact absurd (show(5:Int)=0 from h0) (by decide)
  |false=>exact⟨rfl,rfl⟩
section
variable {n : bk} {m : List Int} {J : Sig} (h : Small n) (hv : dp n = true) (hok : SpcOK n 60 m J)
include h hv hok
theorem jk7{a b t:Nat}(he:(a,b,t)∈egs J):a<J.2.1.length/\b<J.2.1.length/\t<n.2.1.length/\gg n (d9 J a) t=(0,d9 J b):=by
 obtain⟨a',b',t',e1,ha,hb,ht,hc,hf⟩:=hok.mv _ ((jb6 hok).1 he);unfold mvA at e1;injection e1 with e1 e2
 injection e2 with e2 e3
 injection e3 with e3 _
 obtain rfl:a=a' :=by omega
 obtain rfl:b=b' :=by omega
 obtain rfl:t=t' :=by omega
 have hp:=jnh (jsu h hv (hok.sp.mks _ (ay [] ha)) ht) hc;have hm:c6 n.1 (d9 J b)=true:=hok.sp.mks _ (ay [] hb);have hf:eu (n.2.1.getD t af.z) (J.2.1.getD a [])=d9 J b:=hf;rw[hf,hm]at hp;exact⟨ha,hb,ht,hp⟩
theorem jpo:∀{l:List Eg} {i j:Nat},IsW (fun e=>e∈egs J) i l j->Rn n (l.map fun e=>e.2.2) (d9 J i) (d9 J j)
 |[],i,j,hl=>by rw[show i=j from hl];rfl
 |(a,b,t)::l,i,j,⟨h1,h2,h3⟩=>by
  obtain rfl:a=i:=h1;obtain⟨_,_,g3,g4⟩:=jk7 h hv hok h2;exact⟨g3,by rw[g4],by rw[g4];exact jpo h3⟩
theorem q5x(hf:J.1=true):∀{l:List Nat} {i:Nat} {x:List Int},i<J.2.1.length->Rn n l (d9 J i) x->∃w j,IsW (fun e=>e∈egs J) i w j/\j<J.2.1.length/\d9 J j=x/\(w.map fun e=>e.2.2)=l
 |[],i,x,hi,hr=>⟨[],i,rfl,hi,hr,rfl⟩
 |t::l,i,x,hi,⟨h1,h2,h3⟩=>by
  obtain⟨hc,_⟩:=j2d h2;obtain⟨b,hb⟩:=hok.full hf i t hi h1 hc;have he:=(jb6 hok).2 hb;obtain⟨_,g2,_,g4⟩:=jk7 h hv hok he;rw[g4]at h3;obtain⟨w,j,w1,w2,w3,w4⟩:=q5x hf g2 h3;exact⟨(i,b,t)::w,j,⟨rfl,he,w1⟩,w2,w3,by rw[Kd,w4]⟩
end
inductive PredR (n : bk) (m : List Int) : Prop
 | lim (B : ag) (h1 : dv n m 60 = some (B, 13))
 | none (B : ag) (h1 : dv n m 60 = some (B, 10)) (hn : ∀ l, ¬ Rn n l m (vp n.1 n.2.2.2.1))
 | ok (B : ag) (l : List Nat) (h1 : dv n m 60 = some (B, 0)) (h2 : o5 n m (qiq n.2.1.length) 60 = some (0, l.map fun (t : Nat) => (t : Int))) (hf : (spc n 60 m).1 = true) (hl : Rn n l m (vp n.1 n.2.2.2.1)) (hB : B.1 = (l.length : Int)) (h60 : l.length <= 60) (hm : ∀ l', Rn n l' m (vp n.1 n.2.2.2.1) -> l.length <= l'.length)
theorem jzp{n:bk}(h:Small n)(htr:n.2.1.length<=14)(hv:dp n=true){m:List Int}(hmk:c6 n.1 m=true):PredR n m:=by
 have hok:=jl5 (n:=n) (M:=60) hmk (by omega);have hp:=j3d h htr hv hmk;have h0:=hok.fst;have hpos:=hok.sp.pos;cases hp with
 |lim B h1=>exact .lim B h1
 |none B h1 hf hn=>
  refine .none B h1 fun l hl=> ?_
  rw[<-h0]at hl;obtain⟨w,j,_,w2,w3,_⟩:=q5x h hv hok hf hpos hl;exact hn (by rw[<-w3];exact ay [] w2)
 |ok B g l h1 h2 hf hg hs hl hB hm=>
  have hr:=jpo h hv hok hl;rw[h0,hs]at hr;have hsh:l.length<=60:=by
   obtain⟨l',q1,q2⟩:=jad (E:=fun e=>e∈egs (spc n 60 m)) (N:=(spc n 60 m).2.1.length) (fun e he=>((q1d hok).2.1 e he).a) ⟨l,hl⟩;have:=hm l' q1;have:=hok.sp.len;omega
  refine .ok B (l.map fun e=>e.2.2) h1 ?_ hf hr (by rw[Ww];exact hB) (by rw[Ww];exact hsh) fun l' hl' => ?_
  ·rw[Hx];exact h2
  ·rw[<-h0]at hl';obtain⟨w,j,w1,w2,w3,w4⟩:=q5x h hv hok hf hpos hl';have hj:j=g:=by
    have e:d9 (spc n 60 m) j=d9 (spc n 60 m) g:=w3.trans hs.symm;unfold d9 at e;rw[jo _ _ _ w2,jo _ _ _ hg]at e;exact(List.getElem_inj hok.sp.nd).1 e
   subst hj;have:=hm w w1;rw[Ww,<-w4,Ww];exact this
end Go.Proofs.YtocndcbobdnagaaGreatDoor
