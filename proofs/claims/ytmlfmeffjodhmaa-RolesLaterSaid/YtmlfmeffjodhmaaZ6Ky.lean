/-
  The contract of slices.Delete at duties.
-/
import Derived.Test.YtmlfmeffjodhmaaZ6Dl
import Derived.Test.YtmlfmeffjodhmaaZ6Md
set_option linter.all false
namespace Go.Proofs.Ytmlfmeffjodhmaa
open Go.RowKit Go.K Go.M
theorem qxr(fr:Bool):MdlOK Try.prog 25 (aw (.cons (.own 0) (.cons (.d false (.int .i64)) (.cons (.d false (.int .i64)) .nil))) [.arr 48 (.fz fr) [0,0,0] ak.ty] [false] 1 ⟨[(0, .own 0)],[.arr 48 (.fz fr) [0,0,0] ak.ty]⟩ (B:=List ak.ty.den) (fun b=>(((),()),(b,()))) (fun a=>qpb a.1.2.1 a.1.2.2.1 a.2.1)):=by
 refine qvw Try.func25 (by kernel_rfl) (by kernel_rfl) (u:=ak.ty) (by kernel_rfl) (by decide) (fun w g o c n i j cur e hh hthere hone hnc hcm hij hj hgl=> ?_) fun w a=> ?_
 ·have hsz:ak.ty.sz=3:=by kernel_rfl
  rw[hsz]at hthere hone⊢;have hc:c≤9223372036854775807:=by unfold maxLen at hcm;omega
  rcases Nat.lt_or_ge i j with hlt|hge
  ·have hnl:((List.range ((n-j)*3)).map fun t=>(w.cell? ⟨g,o+j*3+t,none⟩).getD undef).length=(n-j)*3:=by rw[List.length_map,List.length_range]
   have hget:∀t u,((List.range ((n-j)*3)).map fun t=>(w.cell? ⟨g,o+j*3+t,none⟩).getD undef)[t]? =some u→w.cell? ⟨g,o+j*3+t,none⟩=some u∧u.oneCell' =true:=fun t u hu=>by
    have htl:=(List.getElem?_eq_some_iff.1 hu).1;rw[hnl]at htl;rw[List.getElem?_map,List.getElem?_range htl]at hu;obtain⟨v,v1,v2⟩:=hone (j*3+t) (by omega);rw[←Nat.add_assoc]at v1;have hu:(w.cell? ⟨g,o+j*3+t,none⟩).getD undef=u:=Option.some.inj hu;rw[v1]at hu;have hu:v=u:=hu;rw[←hu];exact⟨v1,v2⟩
   generalize(List.range ((n-j)*3)).map (fun t=>(w.cell? ⟨g,o+j*3+t,none⟩).getD undef)=news at hnl hget;refine(qvn w g o c n i j hthere news hnl (fun t u hu=>(hget t u hu).1) (fun u hu=>by
    obtain⟨t,ht⟩:=List.getElem?_of_mem hu;exact(hget t u ht).2) hnc hc hlt hj).mono ?_
   rintro e' w' ⟨rfl,rfl⟩;have b1:=Lib.below_setCells_w (Nat.zero_le g) news (o+i*3) w.drew;have b2:=Lib.below_setCells_w (Nat.zero_le g) (zs3 (j-i)) (o+(i+(n-j))*3) (w.drew.setCells g (o+i*3) news);have hs1:w.heap.size≤(w.drew.setCells g (o+i*3) news).heap.size:=b1.size;have hzl:=qiv (j-i);refine⟨by rw[show n-(j-i)=i+(n-j) by omega],b2.os.trans b1.os,b2.tape.trans b1.tape,b2.output.trans b1.output,Nat.le_trans b1.size b2.size,fun b hb hbl=> ?_,?_,fun t ht=> ?_⟩
   ·rw[World.heap_setCells_other _ g _ _ (by omega) hb,World.heap_setCells_other w.drew g _ _ (show b<w.drew.heap.size from hbl) hb];rfl
   ·obtain⟨c1,d1,d2⟩:=xe g e news (o+i*3) w.drew cur hh;obtain⟨c2,d3,d4⟩:=xe g e (zs3 (j-i)) (o+(i+(n-j))*3) _ c1 d1;exact⟨c2,d3,d4.trans d2⟩
   ·have ht' :t<(i+(n-j))*3:=by omega
    rw[World.cell?_setCells_out g (zs3 (j-i)) _ _ ⟨g,o+t,none⟩ (fun _ _=>Or.inl (by show o+t<_;omega))];by_cases hti:t<i*3
    ·rw[if_pos hti,World.cell?_setCells_out g news _ _ ⟨g,o+t,none⟩ (fun _ _=>Or.inl (by show o+t<_;omega))];rfl
    ·rw[if_neg hti];have hk:t-i*3<news.length:=by omega
     have hin:=World.cell?_setCells_in g news (o+i*3) w.drew (fun k hk=>(hthere (i*3+k) (by omega)).1|>fun h=>by rw[Nat.add_assoc];exact h) (t-i*3) hk;have e1:o+i*3+(t-i*3)=o+t:=by omega
     rw[e1]at hin;rw[hin];have h9:=(hget (t-i*3) _ (List.getElem?_eq_getElem hk)).1;have e2:o+j*3+(t-i*3)=o+(t+(j-i)*3):=by omega
     rw[e2]at h9;exact h9.symm
  ·obtain rfl:i=j:=by omega
   refine(qpc w _ c n i hnc hc hj).mono ?_;rintro e' w' ⟨rfl,rfl⟩;refine⟨by rw[Nat.sub_self,Nat.sub_zero],rfl,rfl,rfl,Nat.le_refl _,fun _ _ _=>rfl,⟨cur,hh,rfl⟩,fun t ht=> ?_⟩;congr 3;split<;>omega
 ·exact qpc w a 0 0 0 (by omega) (by omega) (by omega)
end Go.Proofs.Ytmlfmeffjodhmaa
