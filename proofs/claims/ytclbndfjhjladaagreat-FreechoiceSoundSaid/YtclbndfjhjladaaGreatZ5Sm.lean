/-
  slices.Compare of rows of numbers, walked.
-/
import Derived.Shelf.SlSortCmp.NoneTotal
import Derived.Lib.Small
import Derived.WalkKit
import Derived.BigCall
import Derived.Deep.Draws
import Derived.KernelRfl
import Derived.Test.YtclbndfjhjladaaGreatChecked
set_option linter.all false
namespace Go.Proofs.YtclbndfjhjladaaGreat
open Go.RowKit Go.Shelf
def qi6:List Int→List Int→Int
 |[],[]=>0
 |[],_::_=> -1
 |_::_,[]=>1
 |a::l,b::m=>if a<b then-1 else if a>b then 1 else qi6 l m
theorem jqg(x:Int)(w:World):Calls Tryz.prog 179 #[.int .i64 x] w fun e w' =>e= .returned (.bool false)∧w' =w:=by
 have t4:=Tryz.underlying4;have a4:=Tryz.isAgg4;have z4:=Tryz.sizeOf4;have v4:=Tryz.zeroValue4;have t3:=Tryz.underlying3;have a3:=Tryz.isAgg3;have z3:=Tryz.sizeOf3;have v3:=Tryz.zeroValue3
 go_enter Tryz.func179,Tryz.ntmps179
 go_wp2
 go_ret
 exact⟨by simp,rfl⟩
set_option maxHeartbeats 4000000 in
set_option maxRecDepth 1000000 in
theorem jlx(x y:Int)(w:World):Calls Tryz.prog 149 #[.int .i64 x, .int .i64 y] w fun e w' =>e= .returned (.int .i64 (Lib.compareInt x y))∧w' =w:=by
 have t4:=Tryz.underlying4;have a4:=Tryz.isAgg4;have z4:=Tryz.sizeOf4;have v4:=Tryz.zeroValue4;have t3:=Tryz.underlying3;have a3:=Tryz.isAgg3;have z3:=Tryz.sizeOf3;have v3:=Tryz.zeroValue3;have e179:∀args w,(callFunc 179 args).run Tryz.prog w= .ok (.enter 179 args) w:=enters_of Tryz.func179 (by kernel_rfl) rfl
 go_enter Tryz.func149,Tryz.ntmps149
 go_wp2_with (go_at_fn 179;refine(jqg _ _).mono ?_;rintro e w' ⟨rfl,hw⟩;rw[hw])
 all_goals (go_ret;refine⟨?_,rfl⟩;unfold Lib.compareInt;(repeat' split)<;>first|rfl|(exfalso;omega))
theorem jlz(a b:Int)(l m:List Int):qi6 (a::l) (b::m)=if Lib.compareInt a b=0 then qi6 l m else Lib.compareInt a b:=by
 rw[qi6];unfold Lib.compareInt;by_cases h1:a<b
 ·simp[h1]
 ·by_cases h2:a>b
  ·simp[h1,h2]
  ·simp[h1,h2]
theorem jsp(xs ys:List Int)(k:Nat)(h1:k<xs.length)(h2:k<ys.length):qi6 (xs.drop k) (ys.drop k)=if Lib.compareInt (xs.getD k 0) (ys.getD k 0)=0 then qi6 (xs.drop (k+1)) (ys.drop (k+1))else Lib.compareInt (xs.getD k 0) (ys.getD k 0):=by
 rw[List.drop_eq_getElem_cons h1,List.drop_eq_getElem_cons h2,jlz];simp[List.getD_eq_getElem?_getD,h1,h2]
theorem jov(ys:List Int):qi6 [] ys=if 0<ys.length then-1 else 0:=by cases ys<;>simp[qi6]
theorem jl0(xs:List Int)(h:0<xs.length):qi6 xs []=1:=by cases xs with
 |nil=>simp at h
 |cons a l=>rfl
set_option maxHeartbeats 4000000 in
set_option maxRecDepth 1000000 in
theorem jef(xs ys:List Int)(a1 a2:Option Addr)(c1 c2:Nat)(w:World)(hx:xs.length≤9223372036854775807)(hy:ys.length≤9223372036854775807)
  (hr1:0<xs.length→∃b o,a1=some ⟨b,o,none⟩∧∀i,i<xs.length→w.cell? ⟨b,o+i,none⟩=some (.int .i64 (xs.getD i 0)))
  (hr2:0<ys.length→∃b o,a2=some ⟨b,o,none⟩∧∀i,i<ys.length→w.cell? ⟨b,o+i,none⟩=some (.int .i64 (ys.getD i 0))):
  Calls Tryz.prog 110 #[.slice a1 xs.length c1, .slice a2 ys.length c2] w fun e w' =>e= .returned (.int .i64 (qi6 xs ys))∧∃q,w' =w.drewN q:=by
 have t4:=Tryz.underlying4;have a4:=Tryz.isAgg4;have z4:=Tryz.sizeOf4;have v4:=Tryz.zeroValue4;have t3:=Tryz.underlying3;have a3:=Tryz.isAgg3;have z3:=Tryz.sizeOf3;have v3:=Tryz.zeroValue3;have t48:=Tryz.underlying48;have a48:=Tryz.isAgg48;have z48:=Tryz.sizeOf48;have v48:=Tryz.zeroValue48;have e149:∀args w,(callFunc 149 args).run Tryz.prog w= .ok (.enter 149 args) w:=enters_of Tryz.func149 (by kernel_rfl) rfl
 go_enter Tryz.func110,Tryz.ntmps110
 go_wp2
 go_loopw [11] (fun i wr=>∃k:Nat,k≤xs.length∧k≤ys.length∧i= .int .i64 k∧qi6 xs ys=qi6 (xs.drop k) (ys.drop k)∧∃q,wr=w.drewN q) (fun i _=>xs.length-(intOf i).toNat)
 case atStart=>
  exact⟨0,Nat.zero_le _,Nat.zero_le _,rfl,rfl,0,rfl⟩
 case round=>
  obtain⟨k,hk,hk2,rfl,hc,q,rfl⟩:=hrel;by_cases hkn:k<xs.length
  ·obtain⟨b,o,rfl,hcell⟩:=hr1 (by omega);have hcw:(w.drewN q).cell? ⟨b,o+k,none⟩=some (.int .i64 (xs.getD k 0)):=hcell k hkn;by_cases hky:k<ys.length
   ·obtain⟨b2,o2,rfl,hcell2⟩:=hr2 (by omega);have hcw2:(w.drewN q).cell? ⟨b2,o2+k,none⟩=some (.int .i64 (ys.getD k 0)):=hcell2 k hky;have hat:=jsp xs ys k hkn hky;clear hcell hcell2 hr1 hr2;generalize xs.getD k 0=x at*;generalize ys.getD k 0=y at*
    go_wp2_with (go_at_fn 149;refine(jlx _ _ _).mono ?_;rintro e w' ⟨rfl,hw⟩;rw[hw])
    ·rename_i hne
     go_ret
     exact⟨by rw[hc,hat,if_neg (by simpa using hne)];rfl,q,rfl⟩
    ·rename_i hne
     go_roundw
     case rel=>exact⟨k+1,by omega,by omega,by simp,hc.trans (hat.trans (if_pos (by simpa using hne))),q,rfl⟩
     case measure=>
      simp only[intOf];omega
   ·obtain rfl:k=ys.length:=by omega
    go_wp2
    go_ret
    refine⟨?_,q,rfl⟩;rw[hc,List.drop_length,jl0 _ (by rw[List.length_drop];omega)];rfl
  ·obtain rfl:k=xs.length:=by omega
   have hz:qi6 xs ys=if xs.length<ys.length then-1 else 0:=by
    rw[hc,List.drop_length,jov,List.length_drop];congr 1;simp;omega
   go_wp2
   all_goals go_ret
   ·exact⟨by rw[hz,if_pos (by omega)];rfl,q,rfl⟩
   ·exact⟨by rw[hz,if_neg (by omega)];rfl,q,rfl⟩
theorem jly(xs ys:List Int)(a1 a2:Option Addr)(c1 c2:Nat)(w:World)(hx:xs.length≤9223372036854775807)(hy:ys.length≤9223372036854775807)
  (hr1:0<xs.length→∃b o,a1=some ⟨b,o,none⟩∧∀i,i<xs.length→w.cell? ⟨b,o+i,none⟩=some (.int .i64 (xs.getD i 0)))
  (hr2:0<ys.length→∃b o,a2=some ⟨b,o,none⟩∧∀i,i<ys.length→w.cell? ⟨b,o+i,none⟩=some (.int .i64 (ys.getD i 0))):
  Calls Tryz.prog 109 #[.slice a1 xs.length c1, .slice a2 ys.length c2] w fun e w' =>e= .returned (.int .i64 (qi6 xs ys))∧∃q,w' =w.drewN q:=by
 have t3:=Tryz.underlying3;have a3:=Tryz.isAgg3;have z3:=Tryz.sizeOf3;have v3:=Tryz.zeroValue3;have t48:=Tryz.underlying48;have a48:=Tryz.isAgg48;have z48:=Tryz.sizeOf48;have v48:=Tryz.zeroValue48;have e110:∀args w,(callFunc 110 args).run Tryz.prog w= .ok (.enter 110 args) w:=enters_of Tryz.func110 (by kernel_rfl) rfl;have hcon:=jef xs ys a1 a2 c1 c2 w hx hy hr1 hr2;clear hr1 hr2;generalize qi6 xs ys=r at*
 go_enter Tryz.func109,Tryz.ntmps109
 go_wp2_with (go_at_fn 110;refine hcon.mono ?_;rintro e w' ⟨rfl,q,hw⟩;rw[hw])
 go_ret
 exact⟨rfl,q,rfl⟩
end Go.Proofs.YtclbndfjhjladaaGreat
