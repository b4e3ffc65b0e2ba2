/-
  Rotas: trees of boxes.
-/
import Derived.Test.YteljgpepodpebaaGreatZ3S5
set_option linter.all false
namespace Go.Proofs.YteljgpepodpebaaGreat
open Go.K Go.M
structure Bx (l : List ae) (lo hi : List Int) : Prop where
 ll : lo.length = l.length
 hl : hi.length = l.length
 b0 : ∀ i, i < l.length → 0 ≤ lo.getD i 0
 b1 : ∀ i, i < l.length → lo.getD i 0 ≤ hi.getD i 0
 b2 : ∀ i, i < l.length → hi.getD i 0 ≤ (l.getD i ae.z).2.2.1
theorem u7{l:List Int}{s:Nat}{v:Int}(hs:s<l.length)(j:Nat):(l.set s v).getD j 0=if j=s then v else l.getD j 0:=by
 rw[List.getD_eq_getElem?_getD,List.getElem?_set];by_cases e:s=j
 ·rw[if_pos e,if_pos e.symm,if_pos hs];rfl
 ·rw[if_neg e,if_neg fun h=>e h.symm,List.getD_eq_getElem?_getD]
theorem qya{lo hi:List Int}{s:Nat}{at2:Int}(hs:s<lo.length)(hs2:s<hi.length)(h1:lo.length≤1000)(h2:hi.length≤1000)(ha:0≤at2∧at2≤1000):
  nv (lo,hi,()) (s:Int) at2=some ((lo,hi.set s at2,()),(lo.set s (at2+1),hi,())):=by
 unfold nv;dsimp only;rw[que h1,af,que h2,af,af,af,xR,xI,xI,xI,xI,Int.toNat_natCast]
theorem Bx.left{l:List ae}{lo hi:List Int}(h:Bx l lo hi){s:Nat}(hs:s<l.length){a:Int}(h1:lo.getD s 0≤a)(h2:a<hi.getD s 0):Bx l lo (hi.set s a):=
 ⟨h.ll,by rw[List.length_set];exact h.hl,h.b0,fun i hi' =>by
  rw[u7 (by rw[h.hl];exact hs)];by_cases e:i=s
  ·rw[if_pos e,e];exact h1
  ·rw[if_neg e];exact h.b1 i hi',fun i hi' =>by
  rw[u7 (by rw[h.hl];exact hs)];by_cases e:i=s
  ·rw[if_pos e,e];exact Int.le_trans (Int.le_of_lt h2) (h.b2 s hs)
  ·rw[if_neg e];exact h.b2 i hi'⟩
theorem Bx.right{l:List ae}{lo hi:List Int}(h:Bx l lo hi){s:Nat}(hs:s<l.length){a:Int}(h1:lo.getD s 0≤a)(h2:a<hi.getD s 0):Bx l (lo.set s (a+1)) hi:=
 ⟨by rw[List.length_set];exact h.ll,h.hl,fun i hi' =>by
  rw[u7 (by rw[h.ll];exact hs)];by_cases e:i=s
  ·have:=h.b0 s hs;rw[if_pos e];omega
  ·rw[if_neg e];exact h.b0 i hi',fun i hi' =>by
  rw[u7 (by rw[h.ll];exact hs)];by_cases e:i=s
  ·rw[if_pos e,e];omega
  ·rw[if_neg e];exact h.b1 i hi',h.b2⟩
abbrev RA:Type:=((List Int)×(List ae)×au×aw×Int×Int×Unit)×Unit
def jl6(d:List Int)(l:List ae)(lo hi:List Int)(t:aw)(cost left:Int):RA:=((d,l,(lo,hi,()),t,cost,left,()),())
def Min(d:List Int)(l:List ae)(lo hi:List Int)(cost:Int):Prop:=∀c,jm4 lo hi c l.length→Cvr d l c→cost≤fw l c
def ROK(d:List Int)(l:List ae)(rec:RA→Option (Bool×Int))(lo hi:List Int)(t:aw)(cost left:Int):Prop:=
 ∃b left',rec (jl6 d l lo hi t cost left)=some (b,left')∧0≤left' ∧left' ≤left∧(b=true→Min d l lo hi cost)
theorem Min.join{d:List Int}{l:List ae}{lo hi:List Int}{cost:Int}{s:Nat}{a:Int}(hs:s<lo.length)(hs2:s<hi.length)(hl:s<l.length)(h1:Min d l lo (hi.set s a) cost)(h2:Min d l (lo.set s (a+1)) hi cost):Min d l lo hi cost:=fun c hc hcv=>by
 have h3:=hc s hl;by_cases e:c.getD s 0≤a
 ·refine h1 c (fun i hi' => ?_) hcv;have h4:=hc i hi';rw[u7 hs2];by_cases e2:i=s
  ·rw[if_pos e2,e2];omega
  ·rw[if_neg e2];exact h4
 ·refine h2 c (fun i hi' => ?_) hcv;have h4:=hc i hi';rw[u7 hs];by_cases e2:i=s
  ·rw[if_pos e2,e2];omega
  ·rw[if_neg e2];exact h4
theorem jrs{d:List Int}{l:List ae}(h:Good d l){rec:RA→Option (Bool×Int)}{lo hi:List Int}(hb:Bx l lo hi){t:aw}{cost left:Int}(hc:0≤cost∧cost≤1000000)(h0:0≤left)(h20:left≤20000)
  (hrec:∀lo hi t left',Bx l lo hi→0≤left' →left' <left→ROK d l rec lo hi t cost left'):∃b left',kf rec d l (lo,hi,()) t cost left=some (b,left')∧0≤left' ∧left' ≤left∧(b=true→Min d l lo hi cost):=by
 have hl1:=h.l1;have q1:=hb.ll;have q2:=hb.hl;have no:0<left→∃b left',(some (false,left-1):Option (Bool×Int))=some (b,left')∧0≤left' ∧left' ≤left∧(b=true→Min d l lo hi cost):=fun h=>⟨_,_,rfl,by omega,by omega,fun h=>by cases h⟩
 obtain⟨⟨⟨s,a2,u1⟩,y,u2⟩,ks⟩:=t;unfold kf;dsimp only;by_cases c1:left≤0
 ·rw[lz c1];exact⟨_,_,rfl,by omega,by omega,fun h=>by cases h⟩
 have no:=no (by omega);rw[xF,xR];by_cases c2:(ks.length:Int)=0
 ·rw[bu c2];by_cases c3:s=0
  ·rw[bu c3];by_cases c4:a2=0
   ·rw[bu c4];obtain⟨b,e1,e2,-⟩:=qjb h (y:=y) q1 q2 hc;rw[e1,af];refine⟨b,_,rfl,by omega,by omega,fun hb2=> ?_⟩;obtain⟨e3,e4⟩:=e2 hb2;intro c hc2 hcv;have e5:=jnk (y:=y) hcv hc2 fun t ht=>(e3.2 t ht).2
    have e6:((cost-1:Int):Rat)<((fw l c:Int):Rat):=by grind
    have e7:=Rat.intCast_lt_intCast.1 e6;omega
   ·rw[bg c4];exact no
  ·rw[bg c3];exact no
 rw[bg c2];by_cases c3:(ks.length:Int)=2
 ·rw[cm c3];by_cases c4:(0:Int)<y.length
  ·rw[bi c4];exact no
  rw[xN];by_cases c5:s<0
  ·rw[bi c5];exact no
  rw[xN];by_cases c6:(l.length:Int)≤s
  ·rw[lz c6];exact no
  obtain⟨s,rfl⟩:∃n:Nat,s=n:=⟨s.toNat,by omega⟩;have hs:s<l.length:=by omega
  have p0:=hb.b0 s hs;have p1:=hb.b1 s hs;have p2:=hb.b2 s hs;have p3:=(h.sh s hs).m1;rw[xF,xI,xI,Int.toNat_natCast];by_cases c7:a2<lo.getD s 0
  ·rw[bi c7];exact no
  rw[xN,xI,xI];by_cases c8:hi.getD s 0≤a2
  ·rw[lz c8];exact no
  rw[xF,qya (by omega) (by omega) (by omega) (by omega) (by omega),af,xI,xI];obtain⟨b1,l1,e1,e2,e3,e4⟩:=hrec lo (hi.set s a2) (ks.getD 0 aw.z) (left-1) (hb.left hs (by omega) (by omega)) (by omega) (by omega);have e1:rec ((d,l,(lo,hi.set s a2,()),Tre.mk (ks.getD 0 aw.z).a (ks.getD 0 aw.z).ks,cost,left-1,()),())=some (b1,l1):=by
   rw[←e1];unfold jl6;cases ks.getD 0 aw.z;rfl
  dsimp only;rw[e1,af];cases b1 with
  |false=>exact⟨_,_,rfl,e2,by show l1≤left;omega,fun h=>by cases h⟩
  |true=>
   obtain⟨b2,l2,e5,e6,e7,e8⟩:=hrec (lo.set s (a2+1)) hi (ks.getD 1 aw.z) l1 (hb.right hs (by omega) (by omega)) (by omega) (by omega);have e5:rec ((d,l,(lo.set s (a2+1),hi,()),Tre.mk (ks.getD 1 aw.z).a (ks.getD 1 aw.z).ks,cost,l1,()),())=some (b2,l2):=by
    rw[←e5];unfold jl6;cases ks.getD 1 aw.z;rfl
   simp only[Bool.not_true,cond_false];rw[xI,xI,e5,af];exact⟨_,_,rfl,e6,by show l2≤left;omega,fun hb2=>Min.join (by omega) (by omega) hs (e4 rfl) (e8 hb2)⟩
 ·rw[gn c3];exact no
abbrev jh7:(RA→Option (Bool×Int))→RA→Option (Bool×Int):=fun rec a=>kf rec a.1.1 a.1.2.1 a.1.2.2.1 a.1.2.2.2.1 a.1.2.2.2.2.1 a.1.2.2.2.2.2.1
theorem jjx{d:List Int}{l:List ae}(h:Good d l){cost:Int}(hc:0≤cost∧cost≤1000000):∀(f:Nat) (lo hi:List Int) (t:aw) (left:Int),Bx l lo hi→0≤left→left≤20000→left<f→ROK d l (qyl jh7 f) lo hi t cost left
 |0,_,_,_,_,_,h0,_,h1=>by omega
 |f+1,lo,hi,t,left,hb,h0,h20,h1=>by
  unfold ROK;rw[qjd];exact jrs (left:=left) h hb hc h0 h20 fun lo hi t left' hb h2 (h3:left' <left)=>jjx h hc f lo hi t left' hb h2 (by omega) (by omega)
theorem jpu{d:List Int}{l:List ae}(h:Good d l){lo hi:List Int}(hb:Bx l lo hi)(t:aw){cost:Int}(hc:0≤cost∧cost≤1000000):∃b left',qc3 d l (lo,hi,()) t cost 20000=some (b,left')∧(b=true→Min d l lo hi cost):=by
 obtain⟨b,left',h1,-,-,h2⟩:=jjx h hc many lo hi t 20000 hb (by omega) (by omega) (by have:=cr (n:=20000) (by omega);omega);exact⟨b,left',h1,h2⟩
inductive TOK (d : List Int) (l : List ae) (cost : Int) : List Int → List Int → aw → Nat → Prop
 | leaf (lo hi : List Int) (y : List ab) (h : li d l (lo, hi, ()) y cost = some true) : TOK d l cost lo hi (Tre.mk ((0, 0, ()), (y, ())) []) 1
 | node (lo hi : List Int) (s : Nat) (a : Int) (t1 t2 : aw) (n1 n2 : Nat) (hb : Bx l lo hi) (hs : s < l.length) (h1 : lo.getD s 0 ≤ a) (h2 : a < hi.getD s 0) (h3 : TOK d l cost lo (hi.set s a) t1 n1) (h4 : TOK d l cost (lo.set s (a + 1)) hi t2 n2) :
   TOK d l cost lo hi (Tre.mk (((s : Int), a, ()), ([], ())) [t1, t2]) (n1 + n2 + 1)
theorem jaj{d:List Int}{l:List ae}(h:Good d l){cost:Int}:∀{lo hi:List Int} {t:aw} {n:Nat},TOK d l cost lo hi t n→∀(f:Nat) (left:Int),(n:Int)≤left→left≤20000→n≤f→qyl jh7 f (jl6 d l lo hi t cost left)=some (true,left-n):=by
 intro lo hi t n ht
 induction ht with
 |leaf lo hi y hp=>
  intro f left h1 h2 h3;obtain⟨f,rfl⟩:∃g,f=g+1:=⟨f-1,by omega⟩;rw[qjd];show kf _ d l (lo,hi,()) (Tre.mk ((0,0,()),(y,())) []) cost left=_;unfold kf;dsimp only;rw[xF,xR,bu (show(([]:List aw).length:Int)=0 from rfl),bu (show(0:Int)=0 from rfl),bu (show(0:Int)=0 from rfl),hp];rfl
 |node lo hi s a t1 t2 n1 n2 hb hs g1 g2 ht1 ht2 ih1 ih2=>
  intro f left h1 h2 h3;obtain⟨f,rfl⟩:∃g,f=g+1:=⟨f-1,by omega⟩;have hl1:=h.l1;have q1:=hb.ll;have q2:=hb.hl;have p0:=hb.b0 s hs;have p2:=hb.b2 s hs;have p3:=(h.sh s hs).m1;rw[qjd];show kf _ d l (lo,hi,()) (Tre.mk (((s:Int),a,()),([],())) [t1,t2]) cost left=_;have e1:=ih1 f (left-1) (by omega) (by omega) (by omega);have e2:=ih2 f (left-1-n1) (by omega) (by omega) (by omega);generalize qyl jh7 f=rec at e1 e2⊢;unfold kf;dsimp only;have hx:∀{m:Option (Bool×Int)} (i:Int),0≤i→i<2→ai (ix i [t1,t2].length) m=m:=fun i h0 h1=>ao h0 h1
  rw[xF,xR,bg (show¬(([t1,t2].length:Nat):Int)=0 by show¬(2:Int)=0;omega),cm (show(([t1,t2].length:Nat):Int)=2 from rfl),bj (show(([]:List ab).length:Int)≤0 from Int.le_refl _),xN,xF,xI,xI,Int.toNat_natCast,xN,xI,xI,xF,qya (by omega) (by omega) (by omega) (by omega) (by omega),af,hx 0 (by omega) (by omega),hx 0 (by omega) (by omega)];have e1:rec ((d,l,(lo,hi.set s a,()),Tre.mk ([t1,t2].getD 0 aw.z).a ([t1,t2].getD 0 aw.z).ks,cost,left-1,()),())=some (true,left-1-n1):=by
   rw[←e1];unfold jl6;cases t1;rfl
  have e2:rec ((d,l,(lo.set s (a+1),hi,()),Tre.mk ([t1,t2].getD 1 aw.z).a ([t1,t2].getD 1 aw.z).ks,cost,left-1-n1,()),())=some (true,left-1-n1-n2):=by
   rw[←e2];unfold jl6;cases t2;rfl
  dsimp only;rw[e1,af];simp only[Bool.not_true,cond_false];rw[hx 1 (by omega) (by omega),hx 1 (by omega) (by omega),e2,af];refine congrArg (fun z=>some (true,z)) ?_;omega
end Go.Proofs.YteljgpepodpebaaGreat
