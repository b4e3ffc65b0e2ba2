/-
  Siphon: Commoner; the law SiphonCommoner.
-/
import Derived.Test.YtclbndfjhjladaaGreatZ6W4
set_option linter.all false
namespace Go.Proofs.YtclbndfjhjladaaGreat
open Go.K Go.M
theorem jxw(l m:List Int)(hl:l.length≤1000000)(hb:∀p∈l,0≤p∧p<m.length):qod l m=some (jue m l):=by
 have hL:wd l m (l.length:Int) 0=some (q6l (fun i=>(i:Int)) (qas (fun p=>decide (0<m.getD p.toNat 0)) l)):=by
  refine ny l 0 (fun p=>decide (0<m.getD p.toNat 0)) (fun i=>(i:Int)) (by omega) (fun i hi=> ?_) ?_
  ·have:=hb _ (cr 0 hi);simp(disch:=omega)only[im,qpy,ba,aj,ai,ar,ax,bc,a8,am,a7,al,az,ak,a9,ao,aq,af,ae,ag,au,ay,Int.toNat_natCast,decide_true];rw[bq];cases decide (0<m.getD (l.getD i 0).toNat 0)<;>rfl
  ·simp(disch:=omega)only[im,ba,aj,ai,ar,ax,bc,a8,am,a7,al,az,ak,a9,ao,aq,af,ae,ag,au,ay,Int.toNat_natCast,decide_true]
 unfold qod l8 ov jue;rw[hL,ag,qiv,ag,ag,qny]
def enN(n:ff)(m:List Int)(i:Nat):List Nat:=(List.range i).filter fun j=>joz (n.2.1.getD j ab.z) m
def enL(n:ff)(m:List Int):List Int:=(enN n m n.2.1.length).map fun(j:Nat)=>(j:Int)
theorem jtb{n:ff}(h:Small n)(m:List Int)(hm:m.length≤1000000):qn0 n m=some (bif zw n&&qqk n.1 m then(0,enL n m)else(1,[])):=by
 unfold qn0;rw[jgy h m hm];cases hv:zw n with
 |false=>rfl
 |true=>
  cases hk:qqk n.1 m with
  |false=>rfl
  |true=>
   have hlen:=h.trans;have hL:qzj m n.2.1 (n.2.1.length:Int) (0,[])=some (.inl (enL n m)):=by
    unfold enL;refine qa4 (fun i:Nat=>((i:Int),(enN n m i).map fun(j:Nat)=>(j:Int))) n.2.1.length (ic (by omega)) _ (fun i hi=> ?_) ?_ _ rfl
    ·have ht:=cr ab.z hi;have hb:=(jlt.1 (jl7 hv ht).1).1;have hml:=(jch.1 hk).1;have e1:=jtv (n.2.1.getD i ab.z) m (Nat.le_trans (h.ins _ ht) (by omega)) (fun p hp=>by have:=hb p hp;omega);have e2:enN n m (i+1)=bif joz (n.2.1.getD i ab.z) m then enN n m i++[i]else enN n m i:=by
      unfold enN;rw[List.range_succ,List.filter_append];cases hc:joz (n.2.1.getD i ab.z) m with
      |true=>rw[jzc (p:=fun j=>joz (n.2.1.getD j ab.z) m) hc];rfl
      |false=>rw[jty (p:=fun j=>joz (n.2.1.getD j ab.z) m) hc,List.append_nil];rfl
     have hle:((enN n m i).map fun(j:Nat)=>(j:Int)).length≤i:=by
      rw[List.length_map];have:=List.length_filter_le (fun j=>joz (n.2.1.getD j ab.z) m) (List.range i);rw[List.length_range]at this;exact this
     rw[e2];cases hc:joz (n.2.1.getD i ab.z) m with
     |true=>
      rw[hc]at e1;simp only[vb,Int.toNat_natCast,e1,ag];simp(disch:=omega)only[ba,aj,ai,ar,ax,bc,a8,am,a7,al,az,ak,a9,ao,aq,af,ae,ag,au,ay,Int.toNat_natCast,decide_true];rw[bq,List.map_append];rfl
     |false=>
      rw[hc]at e1;simp only[vb,Int.toNat_natCast,e1,ag];simp(disch:=omega)only[ba,aj,ai,ar,ax,bc,a8,am,a7,al,az,ak,a9,ao,aq,af,ae,ag,au,ay,Int.toNat_natCast,decide_true];rw[bq]
    ·simp(disch:=omega)only[vb,ba,aj,ai,ar,ax,bc,a8,am,a7,al,az,ak,a9,ao,aq,af,ae,ag,au,ay,Int.toNat_natCast,decide_true]
   simp only[Bool.and_self,ag,Bool.not_true,cond_false,hL,au,cond_true]
theorem jyj{n:ff}(h:Small n)(m:List Int)(hm:m.length≤1000000):qq4 n m=some (zw n&&qqk n.1 m):=by
 unfold qq4;rw[jtb h m hm];cases zw n&&qqk n.1 m<;>rfl
noncomputable def qyu(n:ff)(h:Small n)(l:List Int):List Int:= @dite _ (l.length≤1000000) (Classical.propDecidable _) (fun hl=>Classical.choose (je8 h.T l hl true)) fun _=>[]
theorem jer{n:ff}(h:Small n)(l:List Int)(hl:l.length≤1000000):rq n l true=some (qyu n h l)∧qun n.2.1 true l (qyu n h l):=by
 unfold qyu;rw[dif_pos hl];exact Classical.choose_spec (je8 h.T l hl true)
theorem jqd{n:ff}(h:Small n)(l:List Int)(hl:l.length≤1000000):qm2 n l=some (qyu n h l):=by
 obtain⟨G,e,hG⟩:=jut (n:=n) h.T l hl;rw[e,jpd hG (jer h l hl).2]
noncomputable def jow(n:ff)(h:Small n)(m l:List Int):Bool:= !jue m (qyu n h l)
noncomputable def jw2(n:ff)(h:Small n)(m:List Int)(rows:Rw):Bool×List Int×Int:=match qas (jow n h m) rows with|none=>(true,[],0)|some i=>(false,rows.getD i [],0)
section
variable (n : ff) (h : Small n) (m : List Int) (hm : qqk n.1 m = true) (rows : Rw) (hl : rows.length ≤ 1000000) (hr : ∀ i, i < rows.length → (rows.getD i []).length ≤ 1000 ∧ ∀ p ∈ rows.getD i [], 0 ≤ p ∧ p < n.1)
include hm hl hr
theorem j1i:qtd m rows (rows.length:Int) n.1 n.2.1 n.2.2.1 n.2.2.2.1 0=some (q6l (fun i=>(false,rows.getD i [],0)) (qas (jow n h m) rows)):=by
 refine ny rows [] (jow n h m) (fun i=>(false,rows.getD i [],0)) (by omega) (fun i hi=> ?_) ?_
 ·obtain⟨h1,h2⟩:=hr i hi;obtain⟨e1,hG⟩:=jer h (rows.getD i []) (by omega);have hml:=(jch.1 hm).1;have hgl:=jn0 hG;have e2:=jxw (qyu n h (rows.getD i [])) m (by omega) (fun p hp=>by have:=h2 p (jcc hG p hp);omega);have e1' :rq (n.1,n.2.1,n.2.2.1,n.2.2.2.1,()) (rows.getD i []) true=_:=e1;unfold jow;simp only[zi,Int.toNat_natCast,e1',e2,ag];simp(disch:=omega)only[ba,aj,ai,ar,ax,bc,a8,am,a7,al,az,ak,a9,ao,aq,af,ae,ag,au,ay,Int.toNat_natCast,decide_true];rw[bq];cases jue m (qyu n h (rows.getD i []))<;>rfl
 ·simp(disch:=omega)only[zi,ba,aj,ai,ar,ax,bc,a8,am,a7,al,az,ak,a9,ao,aq,af,ae,ag,au,ay,Int.toNat_natCast,decide_true]
theorem jus:qv4 m rows n.1 n.2.1 n.2.2.1 n.2.2.2.1 0=some (q6l (fun i=>(false,rows.getD i [],0)) (qas (jow n h m) rows)):=by
 refine ny rows [] (jow n h m) (fun i=>(false,rows.getD i [],0)) (by omega) (fun i hi=> ?_) ?_
 ·obtain⟨h1,h2⟩:=hr i hi;obtain⟨_,hG⟩:=jer h (rows.getD i []) (by omega);have e1:=jqd h (rows.getD i []) (by omega);have hml:=(jch.1 hm).1;have hgl:=jn0 hG;have e2:=jwt m (qyu n h (rows.getD i [])) (by omega) (fun p hp=>by have:=h2 p (jcc hG p hp);omega);have e1' :qm2 (n.1,n.2.1,n.2.2.1,n.2.2.2.1,()) (rows.getD i [])=_:=e1;unfold jow;simp only[qa5,Int.toNat_natCast,e1',e2,ag];simp(disch:=omega)only[ba,aj,ai,ar,ax,bc,a8,am,a7,al,az,ak,a9,ao,aq,af,ae,ag,au,ay,Int.toNat_natCast,decide_true];rw[bq];cases jue m (qyu n h (rows.getD i []))<;>rfl
 ·simp(disch:=omega)only[qa5,ba,aj,ai,ar,ax,bc,a8,am,a7,al,az,ak,a9,ao,aq,af,ae,ag,au,ay,Int.toNat_natCast,decide_true]
end
section
variable (n : ff) (N : Nat) (hn : n.1 = (N : Int)) (hN : N ≤ 12) (h : Small n) (hv : zw n = true)
include hn hN
theorem jen:(srt (fh n N)).length≤1000000∧∀i,i<(srt (fh n N)).length→((srt (fh n N)).getD i []).length≤1000∧∀p∈(srt (fh n N)).getD i [],0≤p∧p<n.1:=by
 have hp:=List.mergeSort_perm (fh n N) (fun x y=> !d5 y x);have hpw:2 ^ N≤2 ^ 12:=Nat.pow_le_pow_right (by omega) (by omega);have h1:(srt (fh n N)).length=_:=hp.length_eq;have h2:(fh n N).length=_:=List.length_map ..;have h3:=jpc n N (2 ^ N);refine⟨by omega,fun i hi=> ?_⟩;have hm:=hp.mem_iff.1 (cr [] hi);obtain⟨j,_,hj⟩:=List.mem_map.1 hm;have e:(srt (fh n N)).getD i []=cu N j:=hj.symm;rw[e];have:=qof N j;refine⟨by omega,fun p hp=> ?_⟩;obtain⟨q,hq,_,rfl⟩:=zx.1 hp;omega
include hv
theorem jqy(m:List Int)(hm:qqk n.1 m=true)(hml:m.length≤1000000):qff n m=some (jw2 n h m (srt (fh n N))):=by
 obtain⟨f1,f2⟩:=jen n N hn hN;have e1:=jyj h m hml;rw[hv,hm]at e1;have e2:=jq1 n N hn (by omega) h hv hN;have e3:=j1i n h m hm (srt (fh n N)) f1 f2;unfold qff jw2;simp only[e1,ag,e2,e3];cases qas (jow n h m) (srt (fh n N))<;>rfl
theorem jlp(m:List Int)(hm:qqk n.1 m=true):qi7 n m=some (jw2 n h m (srt (fh n N))):=by
 obtain⟨f1,f2⟩:=jen n N hn hN;have e2:=jnc n N hn (by omega) h hv hN;have e3:=jus n h m hm (srt (fh n N)) f1 f2;unfold qi7 jw2;simp only[ag,e2,e3];cases qas (jow n h m) (srt (fh n N))<;>rfl
end
end Go.Proofs.YtclbndfjhjladaaGreat
