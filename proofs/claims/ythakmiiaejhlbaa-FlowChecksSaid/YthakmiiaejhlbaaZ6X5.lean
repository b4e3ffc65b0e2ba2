/-
  Elimination on lists of rows: it keeps the solutions of least support, each once. No program is named.
-/
import Derived.Test.YthakmiiaejhlbaaZ6X4
set_option linter.all false
namespace Go.M
open Go.K
abbrev RowE:Type:=List Int×List Int
def fn (l:List Int):Nat→Int:=fun i=>l.getD i 0
def qjs (n:Nat) (a b:List Int):Bool:=(List.range n).all fun i=>decide (a.getD i 0=0)||!decide (b.getD i 0=0)
theorem qhf {n:Nat} {a b:List Int}:qjs n a b=true↔Sup n (fn a) (fn b):=by
 unfold qjs
 rw [List.all_eq_true]
 constructor
 · intro h i hi ha hb
   have:=h i (List.mem_range.2 hi)
   simp only [Bool.or_eq_true,decide_eq_true_eq,Bool.not_eq_true',decide_eq_false_iff_not] at this
   exact this.elim ha fun h=>h hb
 · intro h i hi
   simp only [Bool.or_eq_true,decide_eq_true_eq,Bool.not_eq_true',decide_eq_false_iff_not]
   by_cases e:a.getD i 0=0
   · exact .inl e
   · exact .inr (h i (List.mem_range.1 hi) e)
def addE (n:Nat) (S:List RowE) (x:RowE):List RowE:=bif S.any (fun r=>qjs n r.2 x.2) then S else S.filter (fun r=>!qjs n x.2 r.2)++[x]
def linE (x:Int) (a:List Int) (y:Int) (b:List Int):List Int:=tab a.length fun i=>x*a.getD i 0+y*b.getD i 0
def gcdE (l:List Int):Nat:=gN (fn l) l.length
def divE (g:Int) (l:List Int):List Int:=bif decide (1 < g) then l.map (fun x=>Int.tdiv x g) else l
def normE (r:RowE):RowE:=(divE (gcdE (r.1++r.2)) r.1,divE (gcdE (r.1++r.2)) r.2)
def rawE (c:Nat) (p q:RowE):RowE:=(linE (-(q.1.getD c 0)) p.1 (p.1.getD c 0) q.1,linE (-(q.1.getD c 0)) p.2 (p.1.getD c 0) q.2)
def combE (c:Nat) (p q:RowE):RowE:=normE (rawE c p q)
def oneE (n c:Nat) (S:List RowE) (r:RowE):List RowE:=bif decide (r.1.getD c 0=0) then addE n S r else S
def twoE (n c:Nat) (p:RowE) (S:List RowE) (q:RowE):List RowE:=bif decide (0 < p.1.getD c 0)&&decide (q.1.getD c 0 < 0) then addE n S (combE c p q) else S
def elimE (n c:Nat) (L:List RowE):List RowE:=L.foldl (fun S p=>L.foldl (twoE n c p) S) (L.foldl (oneE n c) [])
def elimsE (n m:Nat) (L:List RowE):List RowE:=(List.range m).foldl (fun L c=>elimE n c L) L
def PW (n:Nat) (S:List RowE):Prop:=S.Pairwise fun r s=>¬ Sup n (fn r.2) (fn s.2)∧¬ Sup n (fn s.2) (fn r.2)
structure InvE (n:Nat) (P C:RowE→Prop) (S:List RowE):Prop where
 all:∀ r∈S,P r
 cov:∀ x,C x→∃ r∈S,Sup n (fn r.2) (fn x.2)
 pw:PW n S
theorem InvE.nil (n:Nat) (P:RowE→Prop):InvE n P (fun _=>False) []:=⟨fun r h=>by simp at h,fun _ h=>h.elim,List.Pairwise.nil⟩
theorem InvE.add {n:Nat} {P C:RowE→Prop} {S:List RowE} (h:InvE n P C S) {x:RowE} (hx:P x):InvE n P (fun y=>C y∨y=x) (addE n S x):=by
 unfold addE
 cases ha:S.any (fun r=>qjs n r.2 x.2) with
 | true =>
   obtain ⟨r,hr,hw⟩:=List.any_eq_true.1 ha
   refine ⟨h.all,fun y hy=>?_,h.pw⟩
   rcases hy with hy | rfl
   · exact h.cov y hy
   · exact ⟨r,hr,qhf.1 hw⟩
 | false =>
   have hno:=List.any_eq_false.1 ha
   refine ⟨fun r hr=>?_,fun y hy=>?_,?_⟩
   · rcases List.mem_append.1 hr with hr | hr
     · exact h.all r (List.mem_filter.1 hr).1
     · rw [List.mem_singleton.1 hr]; exact hx
   · rcases hy with hy | rfl
     · obtain ⟨r,hr,hs⟩:=h.cov y hy
       cases hk:qjs n x.2 r.2 with
       | true => exact ⟨x,List.mem_append_right _ (List.mem_singleton.2 rfl),(qhf.1 hk).trans hs⟩
       | false => exact ⟨r,List.mem_append_left _ (List.mem_filter.2 ⟨hr,by rw [hk]; rfl⟩),hs⟩
     · exact ⟨y,List.mem_append_right _ (List.mem_singleton.2 rfl),Sup.refl _ _⟩
   · refine List.pairwise_append.2 ⟨h.pw.filter _,List.pairwise_singleton _ _,fun r hr s hs=>?_⟩
     rw [List.mem_singleton.1 hs]
     obtain ⟨hr1,hr2⟩:=List.mem_filter.1 hr
     refine ⟨fun hc=>hno r hr1 (qhf.2 hc),fun hc=>?_⟩
     rw [qhf.2 hc] at hr2
     cases hr2
def msk (y:Nat→Int):Nat→Nat
 | 0 => 0
 | n + 1 => msk y n+if y n=0 then 0 else 2 ^ n
theorem msk_lt (y:Nat→Int):∀ n,msk y n < 2 ^ n
 | 0 => by simp [msk]
 | n + 1 => by
   have:=msk_lt y n
   rw [Nat.pow_succ]
   unfold msk
   split<;>omega
theorem qwa (y:Nat→Int) (i:Nat):∀ n,(msk y n).testBit i=(decide (i < n)&&!decide (y i=0))
 | 0 => by simp [msk]
 | n + 1 => by
   have hl:=msk_lt y n
   have ih:=qwa y i n
   unfold msk
   by_cases e:y n=0
   · rw [if_pos e,Nat.add_zero,ih]
     by_cases h:i=n
     · subst h; simp [e]
     · have:decide (i < n+1)=decide (i < n):=decide_eq_decide.2 (by omega)
       rw [this]
   · rw [if_neg e,Nat.add_comm]
     by_cases h:i=n
     · subst h
       rw [Nat.testBit_two_pow_add_eq,ih]
       simp [e]
     · rcases Nat.lt_or_ge i n with h1 | h1
       · rw [Nat.testBit_two_pow_add_gt h1,ih]
         have:decide (i < n+1)=decide (i < n):=decide_eq_decide.2 (by omega)
         rw [this]
       · have h2:2 ^ n+msk y n < 2 ^ i:=by
           have:2 ^ (n+1)≤2 ^ i:=Nat.pow_le_pow_right (by omega) (by omega)
           rw [Nat.pow_succ] at this
           omega
         rw [Nat.testBit_lt_two_pow h2]
         have:decide (i < n+1)=false:=decide_eq_false (by omega)
         rw [this]; rfl
theorem qw3:∀ (l m:List Nat),l.Nodup→(∀ x∈l,x∈m)→l.length≤m.length
 | [], _, _, _ => by simp
 | a :: l, m, hn, hs => by
   obtain ⟨h1,h2⟩:=List.nodup_cons.1 hn
   have ha:a∈m:=hs a List.mem_cons_self
   have ih:=qw3 l (m.erase a) h2 (fun x hx=>(List.mem_erase_of_ne (fun e=>h1 (by rw [← e]; exact hx))).2 (hs x (List.mem_cons_of_mem _ hx)))
   rw [List.length_erase_of_mem ha] at ih
   have:0 < m.length:=List.length_pos_of_mem ha
   simp only [List.length_cons]
   omega
theorem PW.len {n:Nat} {S:List RowE} (h:PW n S):S.length≤2 ^ n:=by
 have hnd:(S.map fun r=>msk (fn r.2) n).Nodup:=by
   unfold PW at h
   refine (List.pairwise_map).2 (h.imp fun {r s} hrs e=>hrs.1 fun i hi hr hs=>?_)
   have h1:=qwa (fn r.2) i n
   have h2:=qwa (fn s.2) i n
   rw [e,h2] at h1
   simp [hi,hr,hs] at h1
 have:=qw3 _ (List.range (2 ^ n)) hnd fun x hx=>by
   obtain ⟨r,_,rfl⟩:=List.mem_map.1 hx
   exact List.mem_range.2 (msk_lt _ _)
 simpa using this
structure RowOK (n m c:Nat) (A:Nat→Nat→Int) (r:RowE):Prop where
 len:r.2.length=n
 wid:r.1.length=m
 left:∀ j,j < m→r.1.getD j 0=sumN (fun i=>fn r.2 i*A i j) n
 sol:Sol n c A (fn r.2)
 nz:NZ n (fn r.2)
 prim:Prim n (fn r.2)
structure GoodE (n m c:Nat) (A:Nat→Nat→Int) (L:List RowE):Prop where
 row:∀ r∈L,RowOK n m c A r
 min:∀ r∈L,MinS n c A (fn r.2)
 cov:∀ y,MinS n c A y→Prim n y→∃ r∈L,EqN n (fn r.2) y
 pw:PW n L
variable {n m c:Nat} {A:Nat→Nat→Int}
theorem PW.eq {S:List RowE} (h:PW n S) {r s:RowE} (hr:r∈S) (hs:s∈S) (hsup:Sup n (fn r.2) (fn s.2)):r=s:=by
 apply Classical.byContradiction
 intro hne
 obtain ⟨i,hi,rfl⟩:=List.mem_iff_getElem.1 hr
 obtain ⟨j,hj,rfl⟩:=List.mem_iff_getElem.1 hs
 have hij:i≠j:=fun e=>hne (by subst e; rfl)
 have hp:=List.pairwise_iff_getElem.1 h
 rcases Nat.lt_or_gt_of_ne hij with h1 | h1
 · exact (hp i j hi hj h1).1 hsup
 · exact (hp j i hj hi h1).2 hsup
def unitE (n p:Nat):List Int:=tab n fun i=>if i=p then 1 else 0
def startE (n m:Nat) (A:Nat→Nat→Int):List RowE:=tab n fun p=>(tab m fun j=>A p j,unitE n p)
end Go.M
