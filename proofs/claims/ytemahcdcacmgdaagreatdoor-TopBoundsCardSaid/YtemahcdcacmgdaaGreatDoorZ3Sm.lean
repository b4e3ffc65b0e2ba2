/-
  slices.Compare of rows of numbers, walked.
-/
import Derived.Shelf.SlSortCmp.NoneTotal
import Derived.Lib.Small
import Derived.WalkKit
import Derived.BigCall
import Derived.Deep.Draws
import Derived.KernelRfl
import Derived.Test.YtemahcdcacmgdaaGreatDoorChecked
set_option linter.all false
namespace Go.Proofs.YtemahcdcacmgdaaGreatDoor
open Go.RowKit Go.Shelf
def qkj:List Int→List Int→Int
 |[],[]=>0
 |[],_::_=> -1
 |_::_,[]=>1
 |a::l,b::m=>if a<b then-1 else if a>b then 1 else qkj l m
theorem jtx(x:Int)(w:World):Calls Tryz.prog 204 #[.int .i64 x] w fun e w' =>e= .returned (.bool false)∧w' =w:=by
 have t4:=Tryz.underlying4;have a4:=Tryz.isAgg4;have z4:=Tryz.sizeOf4;have v4:=Tryz.zeroValue4;have t3:=Tryz.underlying3;have a3:=Tryz.isAgg3;have z3:=Tryz.sizeOf3;have v3:=Tryz.zeroValue3
 go_enter Tryz.func204,Tryz.ntmps204
 go_wp2
 go_ret
 exact⟨by simp,rfl⟩
set_option maxHeartbeats 4000000 in
set_option maxRecDepth 1000000 in
theorem jpf(x y:Int)(w:World):Calls Tryz.prog 160 #[.int .i64 x, .int .i64 y] w fun e w' =>e= .returned (.int .i64 (Lib.compareInt x y))∧w' =w:=by
 have t4:=Tryz.underlying4;have a4:=Tryz.isAgg4;have z4:=Tryz.sizeOf4;have v4:=Tryz.zeroValue4;have t3:=Tryz.underlying3;have a3:=Tryz.isAgg3;have z3:=Tryz.sizeOf3;have v3:=Tryz.zeroValue3;have e204:∀args w,(callFunc 204 args).run Tryz.prog w= .ok (.enter 204 args) w:=enters_of Tryz.func204 (by kernel_rfl) rfl
 go_enter Tryz.func160,Tryz.ntmps160
 go_wp2_with (go_at_fn 204;refine(jtx _ _).mono ?_;rintro e w' ⟨rfl,hw⟩;rw[hw])
 all_goals (go_ret;refine⟨?_,rfl⟩;unfold Lib.compareInt;(repeat' split)<;>first|rfl|(exfalso;omega))
theorem jph(a b:Int)(l m:List Int):qkj (a::l) (b::m)=if Lib.compareInt a b=0 then qkj l m else Lib.compareInt a b:=by
 rw[qkj];unfold Lib.compareInt;by_cases h1:a<b
 ·simp[h1]
 ·by_cases h2:a>b
  ·simp[h1,h2]
  ·simp[h1,h2]
theorem jvu(xs ys:List Int)(k:Nat)(h1:k<xs.length)(h2:k<ys.length):qkj (xs.drop k) (ys.drop k)=if Lib.compareInt (xs.getD k 0) (ys.getD k 0)=0 then qkj (xs.drop (k+1)) (ys.drop (k+1))else Lib.compareInt (xs.getD k 0) (ys.getD k 0):=by
 rw[List.drop_eq_getElem_cons h1,List.drop_eq_getElem_cons h2,jph];simp[List.getD_eq_getElem?_getD,h1,h2]
theorem jr8(ys:List Int):qkj [] ys=if 0<ys.length then-1 else 0:=by cases ys<;>simp[qkj]
theorem jpi(xs:List Int)(h:0<xs.length):qkj xs []=1:=by cases xs with
 |nil=>simp at h
 |cons a l=>rfl
set_option maxHeartbeats 4000000 in
set_option maxRecDepth 1000000 in
theorem jhs(xs ys:List Int)(a1 a2:Option Addr)(c1 c2:Nat)(w:World)(hx:xs.length≤9223372036854775807)(hy:ys.length≤9223372036854775807)
  (hr1:0<xs.length→∃b o,a1=some ⟨b,o,none⟩∧∀i,i<xs.length→w.cell? ⟨b,o+i,none⟩=some (.int .i64 (xs.getD i 0)))
  (hr2:0<ys.length→∃b o,a2=some ⟨b,o,none⟩∧∀i,i<ys.length→w.cell? ⟨b,o+i,none⟩=some (.int .i64 (ys.getD i 0))):
  Calls Tryz.prog 108 #[.slice a1 xs.length c1, .slice a2 ys.length c2] w fun e w' =>e= .returned (.int .i64 (qkj xs ys))∧∃q,w' =w.drewN q:=by
 have t4:=Tryz.underlying4;have a4:=Tryz.isAgg4;have z4:=Tryz.sizeOf4;have v4:=Tryz.zeroValue4;have t3:=Tryz.underlying3;have a3:=Tryz.isAgg3;have z3:=Tryz.sizeOf3;have v3:=Tryz.zeroValue3;have t25:=Tryz.underlying25;have a25:=Tryz.isAgg25;have z25:=Tryz.sizeOf25;have v25:=Tryz.zeroValue25;have e160:∀args w,(callFunc 160 args).run Tryz.prog w= .ok (.enter 160 args) w:=enters_of Tryz.func160 (by kernel_rfl) rfl
 go_enter Tryz.func108,Tryz.ntmps108
 go_wp2
 go_loopw [11] (fun i wr=>∃k:Nat,k≤xs.length∧k≤ys.length∧i= .int .i64 k∧qkj xs ys=qkj (xs.drop k) (ys.drop k)∧∃q,wr=w.drewN q) (fun i _=>xs.length-(intOf i).toNat)
 case atStart=>
  exact⟨0,Nat.zero_le _,Nat.zero_le _,rfl,rfl,0,rfl⟩
 case round=>
  obtain⟨k,hk,hk2,rfl,hc,q,rfl⟩:=hrel;by_cases hkn:k<xs.length
  ·obtain⟨b,o,rfl,hcell⟩:=hr1 (by omega);have hcw:(w.drewN q).cell? ⟨b,o+k,none⟩=some (.int .i64 (xs.getD k 0)):=hcell k hkn;by_cases hky:k<ys.length
   ·obtain⟨b2,o2,rfl,hcell2⟩:=hr2 (by omega);have hcw2:(w.drewN q).cell? ⟨b2,o2+k,none⟩=some (.int .i64 (ys.getD k 0)):=hcell2 k hky;have hat:=jvu xs ys k hkn hky;clear hcell hcell2 hr1 hr2;generalize xs.getD k 0=x at*;generalize ys.getD k 0=y at*
    go_wp2_with (go_at_fn 160;refine(jpf _ _ _).mono ?_;rintro e w' ⟨rfl,hw⟩;rw[hw])
    ·rename_i hne
     go_ret
     exact⟨by rw[hc,hat,if_neg (by simpa using hne)];rfl,q,rfl⟩
    ·rename_i hne
     go_roundw
     case rel=>exact⟨k+1,by omega,by omega,by simp,hc.trans (hat.trans (if_pos (by simpa using hne))),q,rfl⟩
     case measure=>
      simp only[intOf];omega
   ·obtain rfl:k=ys.length:=by omega
    go_wp2
    go_ret
    refine⟨?_,q,rfl⟩;rw[hc,List.drop_length,jpi _ (by rw[List.length_drop];omega)];rfl
  ·obtain rfl:k=xs.length:=by omega
   have hz:qkj xs ys=if xs.length<ys.length then-1 else 0:=by
    rw[hc,List.drop_length,jr8,List.length_drop];congr 1;simp;omega
   go_wp2
   all_goals go_ret
   ·exact⟨by rw[hz,if_pos (by omega)];rfl,q,rfl⟩
   ·exact⟨by rw[hz,if_neg (by omega)];rfl,q,rfl⟩
theorem jpg(xs ys:List Int)(a1 a2:Option Addr)(c1 c2:Nat)(w:World)(hx:xs.length≤9223372036854775807)(hy:ys.length≤9223372036854775807)
  (hr1:0<xs.length→∃b o,a1=some ⟨b,o,none⟩∧∀i,i<xs.length→w.cell? ⟨b,o+i,none⟩=some (.int .i64 (xs.getD i 0)))
  (hr2:0<ys.length→∃b o,a2=some ⟨b,o,none⟩∧∀i,i<ys.length→w.cell? ⟨b,o+i,none⟩=some (.int .i64 (ys.getD i 0))):
  Calls Tryz.prog 107 #[.slice a1 xs.length c1, .slice a2 ys.length c2] w fun e w' =>e= .returned (.int .i64 (qkj xs ys))∧∃q,w' =w.drewN q:=by
 have t3:=Tryz.underlying3;have a3:=Tryz.isAgg3;have z3:=Tryz.sizeOf3;have v3:=Tryz.zeroValue3;have t25:=Tryz.underlying25;have a25:=Tryz.isAgg25;have z25:=Tryz.sizeOf25;have v25:=Tryz.zeroValue25;have e108:∀args w,(callFunc 108 args).run Tryz.prog w= .ok (.enter 108 args) w:=enters_of Tryz.func108 (by kernel_rfl) rfl;have hcon:=jhs xs ys a1 a2 c1 c2 w hx hy hr1 hr2;clear hr1 hr2;generalize qkj xs ys=r at*
 go_enter Tryz.func107,Tryz.ntmps107
 go_wp2_with (go_at_fn 108;refine hcon.mono ?_;rintro e w' ⟨rfl,q,hw⟩;rw[hw])
 go_ret
 exact⟨rfl,q,rfl⟩
end Go.Proofs.YtemahcdcacmgdaaGreatDoor
