/-
  Flow: the value of an invariant never changes along a run; the law FlowKeeps.
-/
import Derived.Test.YthakmiiaejhlbaaZ8F13
set_option linter.all false
namespace Go.Proofs.Ythakmiiaejhlbaa
open Go.K Go.M
theorem q16g {n:Net} (h:Small n) (hv:validN n=true) (m:List Int) (hm:markB n.1 m=true) (t:Nat) (ht:t < n.2.1.length) (hc:canB (n.2.1.getD t Trans.z) m=true):∃ r,qd8 n m (t:Int)=some r∧((r.1=0∧Fired n m (n.2.1.getD t Trans.z) r.2)∨r.1=5):=by
 obtain ⟨r,e,hF⟩:=q162 h hv m hm (t:Int)
 refine ⟨r,e,?_⟩
 by_cases h0:r.1=0
 · have:=(hF h0).2.2
   rw [Int.toNat_natCast] at this
   exact .inl ⟨h0,this⟩
 · refine .inr ?_
   obtain ⟨hml,hmb⟩:=q4v.1 hm
   obtain ⟨hN1,hN2,_⟩:=qf8 hv
   have hmem:n.2.1.getD t Trans.z∈n.2.1:=qq Trans.z ht
   obtain ⟨hs1,hs2⟩:=qjr hv hmem
   have hi:=h.ins _ hmem
   have ho:=h.outs _ hmem
   have htr:=h.trans
   unfold qd8 at e
   rw [Int.toNat_natCast] at e
   generalize n.2.1.getD t Trans.z=T at hmem hs1 hs2 hi ho e hc
   obtain ⟨hb1,hp1⟩:=qli.1 hs1
   obtain ⟨hb2,hp2⟩:=qli.1 hs2
   have hb1':∀ p∈T.2.1,0≤p∧p < m.length:=fun p hp=>by have:=hb1 p hp; omega
   have e1:=qpw T m (by omega) hb1'
   rw [hc] at e1
   have e2:=qxk T.1 T.2.1 T.2.2.1 m (by omega) hp1 hb1' (fun i hi=>by have:=hmb i hi; omega)
   have hat:=qk7 (-1) T.2.1 m hp1 hb1'
   have hlen:=qf0 (-1) T.2.1 m
   have hb2':∀ p∈T.2.2.1,0≤p∧p < (addL (-1) T.2.1 m).length:=fun p hp=>by have:=hb2 p hp; omega
   have e3:=qx6 T.2.2.1 (addL (-1) T.2.1 m) (by omega) hp2 hb2' (fun i hi=>by
     have:=hmb i (by omega)
     rw [hat i]
     split<;>omega)
   have hlen2:=qf0 1 T.2.2.1 (addL (-1) T.2.1 m)
   obtain ⟨M,e4,hM1,hM2⟩:=Max_eq (addL 1 T.2.2.1 (addL (-1) T.2.1 m)) (by omega) (by omega)
   have e5:=qbc m (by omega)
   by_cases hM:(100:Int) < M
   · have e':=e
     simp (disch:=omega) only [e1,e5,e2,e3,e4,Bool.not_true,ckB_ix,q6,q5,qc,ckB_mk,ckB_ne,bif_lt,q8,bif_le,qa,bif_eq,q9,bif_ne,q7,qb,q4,q0,bnd_ok,lk_inl,lk_inr,Int.toNat_natCast,decide_true] at e'
     have:=Option.some.inj e'
     rw [← this]
   · have e':=e
     simp (disch:=omega) only [e1,e5,e2,e3,e4,Bool.not_true,ckB_ix,q6,q5,qc,ckB_mk,ckB_ne,bif_lt,q8,bif_le,qa,bif_eq,q9,bif_ne,q7,qb,q4,q0,bnd_ok,lk_inl,lk_inr,Int.toNat_natCast,decide_true] at e'
     have:=Option.some.inj e'
     rw [← this] at h0
     exact absurd rfl h0
theorem q164 {n:Net} (h:Small n) (hv:validN n=true) (m:List Int) (hml:m.length≤1000000) (hm:markB n.1 m=true) (t:Nat) (ht:t < n.2.1.length) (hc:canB (n.2.1.getD t Trans.z) m=true):∃ r,qgb n m (t:Int)=some r∧((r.1=0∧Fired n m (n.2.1.getD t Trans.z) r.2)∨r.1=5):=by
 obtain ⟨r,e,hF⟩:=q16g h hv m hm t ht hc
 refine ⟨r,?_,hF⟩
 unfold qgb
 rw [qmq h m hml,hv,hm,e]
 rfl
theorem enL_at {n:Net} {m:List Int} {i:Nat} (hi:i < (enL n m).length):∃ t:Nat,(enL n m).getD i 0=(t:Int)∧t < n.2.1.length∧canB (n.2.1.getD t Trans.z) m=true:=by
 have hx:=qq (0:Int) hi
 unfold enL at hx
 obtain ⟨t,ht,he⟩:=List.mem_map.1 hx
 unfold enN at ht
 obtain ⟨h1,h2⟩:=List.mem_filter.1 ht
 exact ⟨t,he.symm,List.mem_range.1 h1,h2⟩
theorem rep0 (n t:Nat):(List.replicate n (0:Int)).getD t 0=0:=by
 rw [List.getD_eq_getElem?_getD,List.getElem?_replicate]
 split<;>rfl
theorem qza {n:Net} (h:Small n) (y m:List Int) (hyl:y.length≤1000) (hml:m.length≤1000) (hv:validN n=true) (hm:markB n.1 m=true) (hy:numB n.1 y=true):q7s n y m=some (dotE y m,0):=by
 rw [qyt h y m hyl hml]
 unfold valO
 rw [hv,hm,hy]
 rfl
theorem q15b {N:Int} {t:Trans} (h1:setB N t.2.1=true) (h2:setB N t.2.2.1=true) (q:Nat):incB t (q:Int)=(if (q:Int)∈t.2.1 then -1 else 0)+(if (q:Int)∈t.2.2.1 then 1 else 0):=by
 unfold incB memB
 have e:∀ l:List Int,(l.any fun x=>decide (x=(q:Int)))=decide ((q:Int)∈l):=fun l=>by
   rw [Bool.eq_iff_iff,List.any_eq_true,decide_eq_true_eq]
   constructor
   · rintro ⟨x,hx,h⟩
     have:=of_decide_eq_true h
     rw [← this]; exact hx
   · intro hx
     exact ⟨_,hx,decide_eq_true rfl⟩
 by_cases c1:(q:Int)∈t.2.1<;>by_cases c2:(q:Int)∈t.2.2.1<;>simp [c1,c2]
section
variable {n:Net} {m now fired:List Int}
structure RunI (n:Net) (m now fired:List Int) (i:Nat):Prop where
 mark:markB n.1 now=true
 len:fired.length=n.2.1.length
 nn:∀ t,0≤fired.getD t 0∧fired.getD t 0≤i
 eq:∀ p:Nat,p < n.1.toNat→now.getD p 0=m.getD p 0+esum n fired p n.2.1.length
theorem qz2 {x:List Int} {t:Nat} (ht:t < x.length) (p:Nat):∀ k,k≤x.length→esum n (x.set t (x.getD t 0+1)) p k=esum n x p k+(if t < k then incB (n.2.1.getD t Trans.z) (p:Int) else 0)
 | 0, _ => by rw [if_neg (by omega)]; rfl
 | k + 1, hk => by
   have e:∀ z:List Int,esum n z p (k+1)=esum n z p k+z.getD k 0*incB (n.2.1.getD k Trans.z) (p:Int):=fun z=>rfl
   rw [e,e,qz2 ht p k (by omega)]
   by_cases h:t=k
   · subst h
     have e2:(x.set t (x.getD t 0+1)).getD t 0=x.getD t 0+1:=by rw [List.getD_eq_getElem?_getD,List.getElem?_set_self ht]; rfl
     rw [e2,if_neg (by omega),if_pos (by omega),Int.add_mul,Int.one_mul]
     omega
   · have e2:(x.set t (x.getD t 0+1)).getD k 0=x.getD k 0:=by rw [List.getD_eq_getElem?_getD,List.getElem?_set_ne h,List.getD_eq_getElem?_getD]
     rw [e2]
     by_cases h2:t < k
     · rw [if_pos h2,if_pos (by omega)]; omega
     · rw [if_neg h2,if_neg (by omega)]; omega
theorem RunI.step (hv:validN n=true) {i:Nat} (hR:RunI n m now fired i) {t:Nat} (ht:t < n.2.1.length) {x:List Int} (hF:Fired n now (n.2.1.getD t Trans.z) x):RunI n m x (fired.set t (fired.getD t 0+1)) (i+1):=by
 have hl:=hR.len
 refine ⟨hF.mark,by rw [List.length_set]; exact hl,fun s=>?_,fun p hp=>?_⟩
 · by_cases h:t=s
   · subst h
     have e2:(fired.set t (fired.getD t 0+1)).getD t 0=fired.getD t 0+1:=by rw [List.getD_eq_getElem?_getD,List.getElem?_set_self (by omega)]; rfl
     have:=hR.nn t
     rw [e2]; omega
   · have e2:(fired.set t (fired.getD t 0+1)).getD s 0=fired.getD s 0:=by rw [List.getD_eq_getElem?_getD,List.getElem?_set_ne h,List.getD_eq_getElem?_getD]
     have:=hR.nn s
     rw [e2]; omega
 · have h1:=hF.at_ p
   have h2:=hR.eq p hp
   have h3:=qz2 (n:=n) (x:=fired) (t:=t) (by omega) p n.2.1.length (by omega)
   obtain ⟨s1,s2⟩:=qjr hv hF.mem
   rw [if_pos ht,q15b s1 s2] at h3
   rw [h3,h1,h2]
   omega
theorem RunI.val {i:Nat} (hR:RunI n m now fired i) {y:List Int} (hy:y.length=n.1.toNat) (hs:Sol n.1.toNat n.2.1.length (AP n) (fn y)):dotE y now=dotE y m:=by
 unfold dotE
 rw [hy]
 have e:sumN (fun p=>y.getD p 0*now.getD p 0) n.1.toNat=sumN (fun p=>y.getD p 0*m.getD p 0+sumN (fun t=>fired.getD t 0*(y.getD p 0*AP n p t)) n.2.1.length) n.1.toNat:=qs fun p hp=>by
   rw [hR.eq p hp,Int.mul_add]
   refine congrArg (fun z=>y.getD p 0*m.getD p 0+z) ?_
   unfold esum
   rw [← q3w]
   refine qs fun t _=>?_
   show y.getD p 0*(fired.getD t 0*AP n p t)=fired.getD t 0*(y.getD p 0*AP n p t)
   rw [Int.mul_left_comm]
 rw [e,qf6,qs4]
 have z:sumN (fun t=>sumN (fun p=>fired.getD t 0*(y.getD p 0*AP n p t)) n.1.toNat) n.2.1.length=0:=q6q fun t ht=>by
   rw [q3w]
   have:=hs.2 t ht
   have e:sumN (fun p=>y.getD p 0*AP n p t) n.1.toNat=0:=this
   rw [e,Int.mul_zero]
 rw [z,Int.add_zero]
end
theorem q11z (m:List Int) (p:Nat):∀ (l:Rw) (b:Int),l.foldl (bstep m p) b=b∨∃ y∈l,y.getD p 0≠0∧l.foldl (bstep m p) b=Int.tdiv (dotE y m) (y.getD p 0)
 | [], b => .inl rfl
 | y :: l, b => by
   rw [List.foldl_cons]
   have hb:bstep m p b y=b∨(y.getD p 0≠0∧bstep m p b y=Int.tdiv (dotE y m) (y.getD p 0)):=by
     unfold bstep
     by_cases h:y.getD p 0=0
     · rw [if_pos h]; exact .inl rfl
     · rw [if_neg h]
       by_cases h1:b < 0
       · rw [if_pos h1]; exact .inr ⟨h,rfl⟩
       · rw [if_neg h1]
         by_cases h2:Int.tdiv (dotE y m) (y.getD p 0) < b
         · rw [if_pos h2]; exact .inr ⟨h,rfl⟩
         · rw [if_neg h2]; exact .inl rfl
   rcases q11z m p l (bstep m p b y) with h | ⟨z,hz,h1,h2⟩
   · rcases hb with hb | ⟨h1,h2⟩
     · rw [h]; exact .inl hb
     · rw [h]; exact .inr ⟨y,List.mem_cons_self,h1,h2⟩
   · exact .inr ⟨z,List.mem_cons_of_mem _ hz,h1,h2⟩
theorem q10s {f:Nat→Int} {p:Nat}:∀ {n:Nat},p < n→(∀ i,i < n→0≤f i)→f p≤sumN f n
 | 0, h, _ => absurd h (by omega)
 | n + 1, h, h0 => by
   have e:sumN f (n+1)=sumN f n+f n:=rfl
   have hn:=h0 n (by omega)
   rw [e]
   by_cases hp:p=n
   · subst hp
     have:0≤sumN f p:=by
       have hz:=h0
       clear h0 e h hn
       induction p with
       | zero => exact Int.le_refl _
       | succ p ih =>
         have:=ih fun i hi=>hz i (by omega)
         have:=hz p (by omega)
         show 0≤sumN f p+f p
         omega
     omega
   · have:=q10s (n:=n) (p:=p) (f:=f) (by omega) fun i hi=>h0 i (by omega)
     omega
def bdO (n:Net) (m:List Int) (p:Nat):Int:=if (boO n m (p:Int)).2=0 then (boO n m (p:Int)).1 else -1
theorem bd_ok {n:Net} (hf:FewN n) {m now fired:List Int} (hm:markB n.1 m=true) (he:(outP n).2=0) {i:Nat} (hR:RunI n m now fired i) {p:Nat} (hp:p < n.1.toNat) (h:0≤bdO n m p):now.getD p 0≤bdO n m p:=by
 obtain ⟨hv,hlg,p1,p2,p3⟩:=qb8 hf he
 unfold bdO boO at h ⊢
 rw [hv,hm,decide_eq_true he] at h ⊢
 have d1:decide ((p:Int) < 0)=false:=decide_eq_false (by omega)
 have d2:decide (n.1≤(p:Int))=false:=decide_eq_false (by omega)
 rw [d1,d2,Int.toNat_natCast] at h ⊢
 cases hb:decide (bestE m p (outP n).1 < 0) with
 | true => rw [hb] at h; exact absurd (show (0:Int) ≤ -1 from h) (by decide)
 | false =>
   have hb':=of_decide_eq_false hb
   rcases q11z m p (outP n).1 (-1) with hx | ⟨y,hy,h1,h2⟩
   · exact absurd (show bestE m p (outP n).1 < 0 by unfold bestE; rw [hx]; decide) hb'
   · show now.getD p 0≤bestE m p (outP n).1
     have h2:bestE m p (outP n).1=Int.tdiv (dotE y m) (y.getD p 0):=h2
     have hM:=qxr hf he
     obtain ⟨r1,r2⟩:=qdd.row y hy
     rw [h2,← hR.val r1 (hM.min y hy).1]
     have hy0:=(r2 p).1
     have hpos:0 < y.getD p 0:=by omega
     obtain ⟨m1,m2⟩:=q4v.1 hR.mark
     have hd:y.getD p 0*now.getD p 0≤dotE y now:=by
       unfold dotE
       rw [r1]
       exact q10s (f:=fun i=>y.getD i 0*now.getD i 0) hp fun i hi=>Int.mul_nonneg (r2 i).1 (m2 i (by omega)).1
     have hn0:=(m2 p (by omega)).1
     have hd0:0≤dotE y now:=Int.le_trans (Int.mul_nonneg hy0 hn0) hd
     rw [Int.tdiv_eq_ediv_of_nonneg hd0]
     refine (Int.le_ediv_iff_mul_le hpos).2 ?_
     rw [Int.mul_comm]
     exact hd
section
variable {n:Net} (h:Small n) (hf:FewN n) (he:(outP n).2=0) {m:List Int} (hm:markB n.1 m=true)
include h hf he hm in
theorem keeps2 {now fired:List Int} {i:Nat} (hR:RunI n m now fired i) (a b:List Int) (v1:List Int) (v2 v3:Int) :
   qjj m (outP n).1 ((outP n).1.map fun y=>dotE y m) a now v1 v2 v3 (outP n).1 ((outP n).1.length:Int) n.1 n.2.1 n.2.2.1 n.2.2.2.1 b 0=some (.inl ()):=by
 obtain ⟨hv,hlg,p1,p2,p3⟩:=qb8 hf he
 have hl:=(qdd (n:=n)).len
 have hM:=qxr hf he
 obtain ⟨m1,m2⟩:=q4v.1 hR.mark
 refine q1r (fun k:Nat=>(k:Int)) (outP n).1.length (q13 (by omega)) _ (fun i hi=>?_) ?_ _ rfl
 · have hy:=qq ([]:List Int) hi
   obtain ⟨r1,r2⟩:=qdd.row _ hy
   have e:q7s (n.1,n.2.1,n.2.2.1,n.2.2.2.1,()) ((outP n).1.getD i []) now=some (dotE ((outP n).1.getD i []) now,0):=qza h _ _ (by omega) (by omega) hv hR.mark (qvw (by omega) r2)
   rw [hR.val r1 (hM.min _ hy).1] at e
   have e2:((outP n).1.map fun y=>dotE y m).getD i 0=dotE ((outP n).1.getD i []) m:=by
     rw [List.getD_eq_getElem?_getD,List.getElem?_map,List.getD_eq_getElem?_getD,List.getElem?_eq_getElem hi]
     rfl
   have e3:((outP n).1.map fun y=>dotE y m).length=(outP n).1.length:=List.length_map _
   simp (disch:=omega) only [q9h,e,e2,e3,ckB_ix,q6,q5,qc,ckB_mk,ckB_ne,bif_lt,q8,bif_le,qa,bif_eq,q9,bif_ne,q7,qb,q4,q0,bnd_ok,lk_inl,lk_inr,Int.toNat_natCast,decide_true]
   rw [qg]
 · simp (disch:=omega) only [q9h,ckB_ix,q6,q5,qc,ckB_mk,ckB_ne,bif_lt,q8,bif_le,qa,bif_eq,q9,bif_ne,q7,qb,q4,q0,bnd_ok,lk_inl,lk_inr,Int.toNat_natCast,decide_true]
include hf he hm in
theorem keeps3 {now fired:List Int} {i:Nat} (hR:RunI n m now fired i) (l:Rw) (a b:List Int) (v1:List Int) (v2 v3:Int) :
   qjl m l a (tab n.1.toNat fun p=>bdO n m p) now v1 v2 v3 now (now.length:Int) n.1 n.2.1 n.2.2.1 n.2.2.2.1 b 0=some (.inl ()):=by
 obtain ⟨hv,hlg,p1,p2,p3⟩:=qb8 hf he
 obtain ⟨m1,m2⟩:=q4v.1 hR.mark
 have hlen:(tab n.1.toNat fun p=>bdO n m p).length=n.1.toNat:=q2f _ _
 refine q1r (fun k:Nat=>(k:Int)) now.length (q13 (by omega)) _ (fun i hi=>?_) ?_ _ rfl
 · have hp:i < n.1.toNat:=by omega
   have e:(tab n.1.toNat fun p=>bdO n m p).getD i 0=bdO n m i:=q6f hp
   by_cases h0:0≤bdO n m i
   · have h1:=bd_ok hf hm he hR hp h0
     simp (disch:=omega) only [q6x,e,hlen,ckB_ix,q6,q5,qc,ckB_mk,ckB_ne,bif_lt,q8,bif_le,qa,bif_eq,q9,bif_ne,q7,qb,q4,q0,bnd_ok,lk_inl,lk_inr,Int.toNat_natCast,decide_true]
     rw [qg]
   · simp (disch:=omega) only [q6x,e,hlen,ckB_ix,q6,q5,qc,ckB_mk,ckB_ne,bif_lt,q8,bif_le,qa,bif_eq,q9,bif_ne,q7,qb,q4,q0,bnd_ok,lk_inl,lk_inr,Int.toNat_natCast,decide_true]
     rw [qg]
 · simp (disch:=omega) only [q6x,ckB_ix,q6,q5,qc,ckB_mk,ckB_ne,bif_lt,q8,bif_le,qa,bif_eq,q9,bif_ne,q7,qb,q4,q0,bnd_ok,lk_inl,lk_inr,Int.toNat_natCast,decide_true]
include h hf in
theorem keeps1 (hml:m.length≤1000) (hN:1≤n.1∧n.1≤12) (l:Rw) (a v:List Int):qjp m v l a n.1 n.1 n.2.1 n.2.2.1 n.2.2.2.1 (0,[])=some (.inl (tab n.1.toNat fun p=>bdO n m p)):=by
 refine q1r (fun k:Nat=>((k:Int),tab k fun p=>bdO n m p)) n.1.toNat (q13 (by omega)) _ (fun i hi=>?_) ?_ _ rfl
 · have e:qdy (n.1,n.2.1,n.2.2.1,n.2.2.2.1,()) m (i:Int)=some (boO n m (i:Int)):=q15m h hf m (by omega) (i:Int)
   have hl:(tab i fun p=>bdO n m p).length=i:=q2f _ _
   have e2:bdO n m i=if (boO n m (i:Int)).2=0 then (boO n m (i:Int)).1 else -1:=rfl
   rw [qkf,e2]
   by_cases h0:(boO n m (i:Int)).2=0
   · rw [if_pos h0]
     simp (disch:=omega) only [q6w,e,hl,ckB_ix,q6,q5,qc,ckB_mk,ckB_ne,bif_lt,q8,bif_le,qa,bif_eq,q9,bif_ne,q7,qb,q4,q0,bnd_ok,lk_inl,lk_inr,Int.toNat_natCast,decide_true]
     rw [qg]
   · rw [if_neg h0]
     simp (disch:=omega) only [q6w,e,hl,ckB_ix,q6,q5,qc,ckB_mk,ckB_ne,bif_lt,q8,bif_le,qa,bif_eq,q9,bif_ne,q7,qb,q4,q0,bnd_ok,lk_inl,lk_inr,Int.toNat_natCast,decide_true]
     rw [qg]
 · simp (disch:=omega) only [q6w,ckB_ix,q6,q5,qc,ckB_mk,ckB_ne,bif_lt,q8,bif_le,qa,bif_eq,q9,bif_ne,q7,qb,q4,q0,bnd_ok,lk_inl,lk_inr,Int.toNat_natCast,decide_true]
end
theorem q13h (x y:List Int) (hx:x.length≤9223372036854775806):q2r x y=some (decide (x=y)):=by
 unfold q2r
 by_cases hl:x.length=y.length
 · rw [qoa (by simp [hl])]
   have hloop:q9o x y (x.length:Int) 0=some (bif (List.range x.length).all (fun i=>decide (x.getD i 0=y.getD i 0)) then .inl () else .inr false):=by
     refine qky (fun i:Nat=>(i:Int)) x.length (q13 (by omega)) _ () false ?_ ?_ ?_
     · intro i hi hp
       have hp':x.getD i 0=y.getD i 0:=of_decide_eq_true hp
       simp (disch:=omega) only [q1y,ckB_ix,q6,q5,qc,ckB_mk,ckB_ne,bif_lt,q8,bif_le,qa,bif_eq,q9,bif_ne,q7,qb,q4,q0,bnd_ok,lk_inl,lk_inr,Int.toNat_natCast,decide_true]
       rw [qg]
     · intro i hi hp
       have hp':x.getD i 0≠y.getD i 0:=of_decide_eq_false hp
       simp (disch:=omega) only [q1y,ckB_ix,q6,q5,qc,ckB_mk,ckB_ne,bif_lt,q8,bif_le,qa,bif_eq,q9,bif_ne,q7,qb,q4,q0,bnd_ok,lk_inl,lk_inr,Int.toNat_natCast,decide_true]
     · simp (disch:=omega) only [q1y,ckB_ix,q6,q5,qc,ckB_mk,ckB_ne,bif_lt,q8,bif_le,qa,bif_eq,q9,bif_ne,q7,qb,q4,q0,bnd_ok,lk_inl,lk_inr,Int.toNat_natCast,decide_true]
   rw [hloop,bnd_ok]
   have hall:(List.range x.length).all (fun i=>decide (x.getD i 0=y.getD i 0))=decide (x=y):=by
     rw [Bool.eq_iff_iff,List.all_eq_true,decide_eq_true_iff]
     constructor
     · intro h
       refine List.ext_getElem hl fun i h1 h2=>?_
       have:=of_decide_eq_true (h i (List.mem_range.2 h1))
       rw [qb3 x i 0 h1,qb3 y i 0 h2] at this
       exact this
     · rintro rfl i _
       simp
   rw [hall]
   cases decide (x=y)<;>rfl
 · have:¬ x=y:=fun h=>hl (by rw [h])
   rw [qol (by simp; omega),decide_eq_false this]
section
variable {n:Net} (h:Small n) (hf:FewN n) (he:(outP n).2=0) {m:List Int} (hm:markB n.1 m=true)
include h hf he hm in
theorem keeps4 (run:List Int) (hr:run.length≤40) (hb:∀ i,0≤run.getD i 0∧run.getD i 0≤255):∃ o,qdt m (outP n).1 ((outP n).1.map fun y=>dotE y m) (tab n.1.toNat fun p=>bdO n m p) run (run.length:Int) n.1 n.2.1 n.2.2.1 n.2.2.2.1 (m,0,List.replicate n.2.1.length (0:Int))=some o∧(o=.inl ()∨o=.inr true):=by
 obtain ⟨hv,hlg,p1,p2,p3⟩:=qb8 hf he
 obtain ⟨m1,m2⟩:=q4v.1 hm
 refine q3e (fun (st:List Int×Int×List Int)=>∃ i:Nat,st.2.1=(i:Int)∧i≤run.length∧RunI n m st.1 st.2.2 i) (fun st=>((run.length:Int) - st.2.1).toNat) _ _ ⟨0,rfl,Nat.zero_le _,hm,List.length_replicate,fun t=>?_,fun p hp=>?_⟩ (by show ((run.length:Int) - 0).toNat < many; unfold many; omega) ?_
 · show 0≤(List.replicate n.2.1.length (0:Int)).getD t 0∧(List.replicate n.2.1.length (0:Int)).getD t 0≤_
   rw [rep0]
   exact ⟨Int.le_refl _,Int.le_refl _⟩
 · show m.getD p 0=m.getD p 0+esum n (List.replicate n.2.1.length 0) p n.2.1.length
   have:esum n (List.replicate n.2.1.length 0) p n.2.1.length=0:=q6q fun t _=>by rw [rep0,Int.zero_mul]
   omega
 · rintro ⟨now,_,fired⟩ ⟨i,rfl,hi,hR⟩
   have hR:RunI n m now fired i:=hR
   have hi:i≤run.length:=hi
   show ∃ x,q1q m (outP n).1 ((outP n).1.map fun y=>dotE y m) (tab n.1.toNat fun p=>bdO n m p) run (run.length:Int) n.1 n.2.1 n.2.2.1 n.2.2.2.1 now (i:Int) fired (fun a'=>some (LR.next a')) (fun e=>some (LR.done e)) (fun r=>some (LR.ret r))=some x∧_
   by_cases hlt:i < run.length
   · obtain ⟨w1,w2⟩:=q4v.1 hR.mark
     have hc:=hb i
     have e1:q7l (n.1,n.2.1,n.2.2.1,n.2.2.2.1,()) now=some (0,enL n now):=by
       have:=qpl h now (by omega)
       rw [hv,hR.mark] at this
       exact this
     by_cases h0:(enL n now).length=0
     · exact ⟨.done (),by simp (disch:=omega) only [q1q,e1,ckB_ix,q6,q5,qc,ckB_mk,ckB_ne,bif_lt,q8,bif_le,qa,bif_eq,q9,bif_ne,q7,qb,q4,q0,bnd_ok,lk_inl,lk_inr,Int.toNat_natCast,decide_true],.inl rfl⟩
     · have hq1:=Int.tmod_nonneg ((enL n now).length:Int) hc.1
       have hq2:=Int.tmod_lt_of_pos (run.getD i 0) (show (0:Int) < ((enL n now).length:Int) by omega)
       obtain ⟨q,hq⟩:∃ q:Nat,Int.tmod (run.getD i 0) ((enL n now).length:Int)=(q:Int):=⟨_,(Int.toNat_of_nonneg hq1).symm⟩
       obtain ⟨t,ht1,ht2,ht3⟩:=enL_at (n:=n) (m:=now) (i:=q) (by omega)
       obtain ⟨r,e2,hF⟩:=q164 h hv now (by omega) hR.mark t ht2 ht3
       have e2:qgb (n.1,n.2.1,n.2.2.1,n.2.2.2.1,()) now (t:Int)=some r:=e2
       rcases hF with ⟨r0,hF⟩ | r5
       · have hR':=hR.step hv ht2 hF
         have hfl:=hR.len
         have hft:=hR.nn t
         have hxl:=hF.len
         obtain ⟨x1,x2⟩:=q4v.1 hF.mark
         have e3:=keeps2 h hf he hm hR' (tab n.1.toNat fun p=>bdO n m p) (fired.set t (fired.getD t 0+1)) run (run.length:Int) (i:Int)
         have e4:=keeps3 hf he hm hR' (outP n).1 ((outP n).1.map fun y=>dotE y m) (fired.set t (fired.getD t 0+1)) run (run.length:Int) (i:Int)
         have hnb:numB (n.2.1.length:Int) (fired.set t (fired.getD t 0+1))=true:=qvw (by have:=hR'.len; omega) (fun s=>by have:=hR'.nn s; omega)
         have heq:eqL n m (fired.set t (fired.getD t 0+1))=r.2:=by
           refine q158 (n:=n.1.toNat) (q2f _ _) (by omega) fun p hp=>?_
           show (eqL n m (fired.set t (fired.getD t 0+1))).getD p 0=r.2.getD p 0
           unfold eqL
           rw [q6f hp,hR'.eq p hp]
           omega
         have e5:qbi (n.1,n.2.1,n.2.2.1,n.2.2.2.1,()) m (fired.set t (fired.getD t 0+1))=some (0,r.2):=by
           have:=q10f h m (fired.set t (fired.getD t 0+1)) (by omega) (by have:=hR'.len; omega)
           unfold equO at this
           have hk:r.2.any tokB=false:=by
             have hk:=hF.mark
             unfold markB at hk
             rw [Bool.and_eq_true,Bool.not_eq_true'] at hk
             exact hk.2
           rw [hv,hm,hnb,heq,hk] at this
           exact this
         have e6:=q126 r.2 (by omega)
         have e7:=q13h r.2 m (by omega)
         generalize hfd:fired.set t (fired.getD t 0+1)=fd at *
         by_cases hx:r.2=m
         · have e8:q6t (n.1,n.2.1,n.2.2.1,n.2.2.2.1,()) fd=some (isT n fd):=qu5 h fd (by have:=hR'.len; omega)
           have hz:isT n fd=(true,0):=by
             have hs:Sol n.2.1.length n.1.toNat (AT n) (fn fd):=⟨fun s _=>(hR'.nn s).1,fun p hp=>by
               have:=hR'.eq p hp
               rw [hx] at this
               have h2:esum n fd p n.2.1.length=0:=by omega
               exact h2⟩
             have hsm:someB fd=true:=qrx.2 ⟨t,by have:=hR'.len; omega,by
               unfold fn
               rw [← hfd,List.getD_eq_getElem?_getD,List.getElem?_set_self (by omega)]
               show fired.getD t 0+1≠0
               omega⟩
             unfold isT
             rw [hv,hnb,(q15h fun s=>(hR'.nn s).1).2 hs,hsm]
             rfl
           rw [hz] at e8
           rw [decide_eq_true hx] at e7
           simp (disch:=omega) only [q1q,e1,hq,ht1,e2,hfd,e3,e4,e5,e6,e7,e8,Bool.not_true,ckB_ix,q6,q5,qc,ckB_mk,ckB_ne,bif_lt,q8,bif_le,qa,bif_eq,q9,bif_ne,q7,qb,q4,q0,bnd_ok,lk_inl,lk_inr,Int.toNat_natCast,decide_true]
           rw [qg]
           exact ⟨_,rfl,⟨i+1,rfl,hlt,hR'⟩,by show ((run.length:Int) - ((i+1:Nat):Int)).toNat < ((run.length:Int) - (i:Int)).toNat; omega⟩
         · rw [decide_eq_false hx] at e7
           simp (disch:=omega) only [q1q,e1,hq,ht1,e2,hfd,e3,e4,e5,e6,e7,Bool.not_true,ckB_ix,q6,q5,qc,ckB_mk,ckB_ne,bif_lt,q8,bif_le,qa,bif_eq,q9,bif_ne,q7,qb,q4,q0,bnd_ok,lk_inl,lk_inr,Int.toNat_natCast,decide_true]
           rw [qg]
           exact ⟨_,rfl,⟨i+1,rfl,hlt,hR'⟩,by show ((run.length:Int) - ((i+1:Nat):Int)).toNat < ((run.length:Int) - (i:Int)).toNat; omega⟩
       · refine ⟨.ret true,?_,.inr rfl⟩
         simp (disch:=omega) only [q1q,e1,hq,ht1,e2,ckB_ix,q6,q5,qc,ckB_mk,ckB_ne,bif_lt,q8,bif_le,qa,bif_eq,q9,bif_ne,q7,qb,q4,q0,bnd_ok,lk_inl,lk_inr,Int.toNat_natCast,decide_true]
         rw [r5]
         rfl
   · exact ⟨.done (),by simp (disch:=omega) only [q1q,ckB_ix,q6,q5,qc,ckB_mk,ckB_ne,bif_lt,q8,bif_le,qa,bif_eq,q9,bif_ne,q7,qb,q4,q0,bnd_ok,lk_inl,lk_inr,Int.toNat_natCast,decide_true],.inl rfl⟩
include h hf he in
theorem keeps0 (hml:m.length≤60) (run:List Int) (b:List Int):qjq m run (outP n).1 (outP n).1 ((outP n).1.length:Int) n.1 n.2.1 n.2.2.1 n.2.2.2.1 b (0,[])=some (bif markB n.1 m||decide ((outP n).1.length=0) then .inl ((outP n).1.map fun y=>dotE y m) else .inr true):=by
 obtain ⟨hv,hlg,p1,p2,p3⟩:=qb8 hf he
 have hl:=(qdd (n:=n)).len
 cases hk:markB n.1 m with
 | true =>
   have e:(outP n).1.map (fun y=>dotE y m)=tab (outP n).1.length fun i=>dotE ((outP n).1.getD i []) m:=by
     conv=>lhs; rw [tab_of (outP n).1 []]
     unfold tab
     rw [List.map_map]
     rfl
   rw [Bool.true_or,e]
   refine q1r (fun k:Nat=>((k:Int),tab k fun i=>dotE ((outP n).1.getD i []) m)) (outP n).1.length (q13 (by omega)) _ (fun i hi=>?_) ?_ _ rfl
   · have hy:=qq ([]:List Int) hi
     obtain ⟨r1,r2⟩:=qdd.row _ hy
     have e:q7s (n.1,n.2.1,n.2.2.1,n.2.2.2.1,()) ((outP n).1.getD i []) m=some (dotE ((outP n).1.getD i []) m,0):=qza h _ _ (by omega) (by omega) hv hk (qvw (by omega) r2)
     have e3:(tab i fun i=>dotE ((outP n).1.getD i []) m).length=i:=q2f _ _
     rw [qkf]
     simp (disch:=omega) only [q3k,e,e3,ckB_ix,q6,q5,qc,ckB_mk,ckB_ne,bif_lt,q8,bif_le,qa,bif_eq,q9,bif_ne,q7,qb,q4,q0,bnd_ok,lk_inl,lk_inr,Int.toNat_natCast,decide_true]
     rw [qg]
   · simp (disch:=omega) only [q3k,ckB_ix,q6,q5,qc,ckB_mk,ckB_ne,bif_lt,q8,bif_le,qa,bif_eq,q9,bif_ne,q7,qb,q4,q0,bnd_ok,lk_inl,lk_inr,Int.toNat_natCast,decide_true]
 | false =>
   cases hz:decide ((outP n).1.length=0) with
   | true =>
     have hz:=of_decide_eq_true hz
     have e:(outP n).1=[]:=List.length_eq_zero_iff.1 hz
     rw [e]
     refine q1r (fun k:Nat=>((k:Int),([]:List Int))) 0 (q13 (by omega)) _ (fun i hi=>by omega) ?_ _ rfl
     simp (disch:=omega) only [q3k,ckB_ix,q6,q5,qc,ckB_mk,ckB_ne,bif_lt,q8,bif_le,qa,bif_eq,q9,bif_ne,q7,qb,q4,q0,bnd_ok,lk_inl,lk_inr,Int.toNat_natCast,decide_true]
     rfl
   | false =>
     have hz:=of_decide_eq_false hz
     have hy:=qq ([]:List Int) (show 0 < (outP n).1.length by omega)
     obtain ⟨r1,r2⟩:=qdd.row _ hy
     have e:q7s (n.1,n.2.1,n.2.2.1,n.2.2.2.1,()) ((outP n).1.getD 0 []) m=some (0,1):=by
       have:=qyt h ((outP n).1.getD 0 []) m (by omega) (by omega)
       unfold valO at this
       rw [hk,Bool.and_false] at this
       exact this
     have hg:=q3e (step:=fun a:Int×List Int=>q3k m run (outP n).1 (outP n).1 ((outP n).1.length:Int) n.1 n.2.1 n.2.2.1 n.2.2.2.1 b a.1 a.2 (fun a'=>some (LR.next a')) (fun e=>some (LR.done e)) (fun r=>some (LR.ret r))) (fun (st:Int×List Int)=>st=(0,[])) (fun _=>0) (fun (o:List Int⊕Bool)=>o=.inr true) (0,[]) rfl (by unfold many; omega) (fun s hs=>by
       subst hs
       refine ⟨.ret true,?_,rfl⟩
       have hpos:(0:Int) < ((outP n).1.length:Int):=by omega
       have h0:Int.toNat (0:Int)=0:=rfl
       simp (disch:=omega) only [q3k,h0,e,ckB_ix,q6,q5,qc,ckB_mk,ckB_ne,bif_lt,q8,bif_le,qa,bif_eq,q9,bif_ne,q7,qb,q4,q0,bnd_ok,lk_inl,lk_inr,Int.toNat_natCast,decide_true])
     obtain ⟨o,h1,rfl⟩:=hg
     exact h1
end
theorem qw4 (n:Net) (m run:List Int) (hl:n.2.1.length≤9223372036854775807) (hb:∀ i,0≤run.getD i 0∧run.getD i 0≤255):qg9 n m run=some true:=by
 obtain ⟨b,hbb,hF⟩:=few_eq n hl
 unfold qg9
 rw [q136,hbb]
 cases b with
 | false => rfl
 | true =>
   obtain ⟨h,hf⟩:=hF rfl
   have hf:FewN n:=hf
   by_cases h1:(60:Int) < (m.length:Int)
   · simp (disch:=omega) only [Bool.not_true,ckB_ix,q6,q5,qc,ckB_mk,ckB_ne,bif_lt,q8,bif_le,qa,bif_eq,q9,bif_ne,q7,qb,q4,q0,bnd_ok,lk_inl,lk_inr,Int.toNat_natCast,decide_true]
   · by_cases h2:(40:Int) < (run.length:Int)
     · simp (disch:=omega) only [Bool.not_true,ckB_ix,q6,q5,qc,ckB_mk,ckB_ne,bif_lt,q8,bif_le,qa,bif_eq,q9,bif_ne,q7,qb,q4,q0,bnd_ok,lk_inl,lk_inr,Int.toNat_natCast,decide_true]
     · have eP:=qrd h hf
       by_cases c1:(outP n).2=0
       · obtain ⟨hv,hlg,p1,p2,p3⟩:=qb8 hf c1
         have k0:=keeps0 h hf c1 (m:=m) (by omega) run []
         by_cases hml:(m.length:Int)=n.1
         · have k1:=keeps1 h hf (m:=m) (by omega) ⟨p1,p2⟩ (outP n).1 ((outP n).1.map fun y=>dotE y m) run
           cases hk:markB n.1 m with
           | true =>
             rw [hk] at k0
             obtain ⟨o,k4,ho⟩:=keeps4 h hf c1 hk run (by omega) hb
             rw [eP]
             rw [Bool.true_or,cond_true] at k0
             simp (disch:=omega) only [Bool.not_true,decide_eq_true c1,k0,k1,k4,ckB_ix,q6,q5,qc,ckB_mk,ckB_ne,bif_lt,q8,bif_le,qa,bif_eq,q9,bif_ne,q7,qb,q4,q0,bnd_ok,lk_inl,lk_inr,Int.toNat_natCast,decide_true]
             rcases ho with rfl | rfl<;>rfl
           | false =>
             rw [hk] at k0
             cases hz:decide ((outP n).1.length=0) with
             | false =>
               rw [hz] at k0
               rw [eP]
               simp (disch:=omega) only [Bool.not_true,decide_eq_true c1,k0,Bool.or_self,cond_false,ckB_ix,q6,q5,qc,ckB_mk,ckB_ne,bif_lt,q8,bif_le,qa,bif_eq,q9,bif_ne,q7,qb,q4,q0,bnd_ok,lk_inl,lk_inr,Int.toNat_natCast,decide_true]
             | true =>
               rw [hz] at k0
               have k4:∃ o,qdt m (outP n).1 ((outP n).1.map fun y=>dotE y m) (tab n.1.toNat fun p=>bdO n m p) run (run.length:Int) n.1 n.2.1 n.2.2.1 n.2.2.2.1 (m,0,List.replicate n.2.1.length (0:Int))=some o∧(o=.inl ()∨o=.inr true):=by
                 refine q3e (fun (st:List Int×Int×List Int)=>st.1=m∧st.2.1=0) (fun st=>0) _ _ ⟨rfl,rfl⟩ (by unfold many; omega) ?_
                 rintro ⟨_,_,fired⟩ ⟨rfl,rfl⟩
                 by_cases hr:(0:Int) < (run.length:Int)
                 · refine ⟨.ret true,?_,.inr rfl⟩
                   rename_i m
                   have e1:q7l (n.1,n.2.1,n.2.2.1,n.2.2.2.1,()) m=some (1,[]):=by
                     have hml':(m.length:Int)=n.1:=hml
                     have:=qpl h m (by omega)
                     rw [hk,Bool.and_false] at this
                     exact this
                   simp (disch:=omega) only [q1q,e1,ckB_ix,q6,q5,qc,ckB_mk,ckB_ne,bif_lt,q8,bif_le,qa,bif_eq,q9,bif_ne,q7,qb,q4,q0,bnd_ok,lk_inl,lk_inr,Int.toNat_natCast,decide_true]
                 · exact ⟨.done (),by simp (disch:=omega) only [q1q,ckB_ix,q6,q5,qc,ckB_mk,ckB_ne,bif_lt,q8,bif_le,qa,bif_eq,q9,bif_ne,q7,qb,q4,q0,bnd_ok,lk_inl,lk_inr,Int.toNat_natCast,decide_true],.inl rfl⟩
               obtain ⟨o,k4,ho⟩:=k4
               rw [eP]
               rw [Bool.or_true,cond_true] at k0
               simp (disch:=omega) only [Bool.not_true,decide_eq_true c1,k0,k1,k4,ckB_ix,q6,q5,qc,ckB_mk,ckB_ne,bif_lt,q8,bif_le,qa,bif_eq,q9,bif_ne,q7,qb,q4,q0,bnd_ok,lk_inl,lk_inr,Int.toNat_natCast,decide_true]
               rcases ho with rfl | rfl<;>rfl
         · rw [eP]
           cases hc:markB n.1 m||decide ((outP n).1.length=0) with
           | true =>
             rw [hc] at k0
             simp (disch:=omega) only [Bool.not_true,decide_eq_true c1,k0,cond_true,ckB_ix,q6,q5,qc,ckB_mk,ckB_ne,bif_lt,q8,bif_le,qa,bif_eq,q9,bif_ne,q7,qb,q4,q0,bnd_ok,lk_inl,lk_inr,Int.toNat_natCast,decide_true]
           | false =>
             rw [hc] at k0
             simp (disch:=omega) only [Bool.not_true,decide_eq_true c1,k0,cond_false,ckB_ix,q6,q5,qc,ckB_mk,ckB_ne,bif_lt,q8,bif_le,qa,bif_eq,q9,bif_ne,q7,qb,q4,q0,bnd_ok,lk_inl,lk_inr,Int.toNat_natCast,decide_true]
       · have z1:=(qdd (n:=n)).err c1
         have d1:decide (((outP n).1.length:Int)=0)=true:=by rw [z1]; rfl
         rw [eP]
         simp (disch:=omega) only [Bool.not_true,decide_eq_false c1,d1,ckB_ix,q6,q5,qc,ckB_mk,ckB_ne,bif_lt,q8,bif_le,qa,bif_eq,q9,bif_ne,q7,qb,q4,q0,bnd_ok,lk_inl,lk_inr,Int.toNat_natCast,decide_true]
end Go.Proofs.Ythakmiiaejhlbaa
