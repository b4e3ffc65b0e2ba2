/-
  slices.Compare of rows of numbers, walked.
-/
import Derived.Shelf.SlSortCmp.NoneTotal
import Derived.Lib.Small
import Derived.WalkKit
import Derived.BigCall
import Derived.Deep.Draws
import Derived.KernelRfl
import Derived.Test.YtocndcbobdnagaaGreatDoorChecked
set_option linter.all false
namespace Go.Proofs.YtocndcbobdnagaaGreatDoor
open Go.RowKit Go.Shelf
def qom:List Int->List Int->Int
 |[],[]=>0
 |[],_::_=> -1
 |_::_,[]=>1
 |a::l,b::m=>if a<b then-1 else if a>b then 1 else qom l m
theorem jze(x:Int)(w:World):Calls Tryz.prog 258 #[.int .i64 x] w fun e w' =>e= .returned (.bool false)/\w' =w:=by
 have t4:=Tryz.underlying4;have a4:=Tryz.isAgg4;have z4:=Tryz.sizeOf4;have v4:=Tryz.zeroValue4;have t3:=Tryz.underlying3;have a3:=Tryz.isAgg3;have z3:=Tryz.sizeOf3;have v3:=Tryz.zeroValue3
 go_enter Tryz.func258,Tryz.ntmps258
 go_wp2
 go_ret
 exact⟨by simp,rfl⟩
set_option maxHeartbeats 4000000 in
set_option maxRecDepth 1000000 in
theorem jut(x y:Int)(w:World):Calls Tryz.prog 212 #[.int .i64 x, .int .i64 y] w fun e w' =>e= .returned (.int .i64 (Lib.compareInt x y))/\w' =w:=by
 have t4:=Tryz.underlying4;have a4:=Tryz.isAgg4;have z4:=Tryz.sizeOf4;have v4:=Tryz.zeroValue4;have t3:=Tryz.underlying3;have a3:=Tryz.isAgg3;have z3:=Tryz.sizeOf3;have v3:=Tryz.zeroValue3;have e258:∀args w,(callFunc 258 args).run Tryz.prog w= .ok (.enter 258 args) w:=enters_of Tryz.func258 (by kernel_rfl) rfl
 go_enter Tryz.func212,Tryz.ntmps212
 go_wp2_with (go_at_fn 258;refine(jze _ _).mono ?_;rintro e w' ⟨rfl,hw⟩;rw[hw])
 all_goals (go_ret;refine⟨?_,rfl⟩;unfold Lib.compareInt;(repeat' split)<;>first|rfl|(exfalso;omega))
theorem juv(a b:Int)(l m:List Int):qom (a::l) (b::m)=if Lib.compareInt a b=0 then qom l m else Lib.compareInt a b:=by
 rw[qom];unfold Lib.compareInt;by_cases h1:a<b
 ·simp[h1]
 ·by_cases h2:a>b
  ·simp[h1,h2]
  ·simp[h1,h2]
theorem j1s(xs ys:List Int)(k:Nat)(h1:k<xs.length)(h2:k<ys.length):qom (xs.drop k) (ys.drop k)=if Lib.compareInt (xs.getD k 0) (ys.getD k 0)=0 then qom (xs.drop (k+1)) (ys.drop (k+1))else Lib.compareInt (xs.getD k 0) (ys.getD k 0):=by
 rw[List.drop_eq_getElem_cons h1,List.drop_eq_getElem_cons h2,juv];simp[List.getD_eq_getElem?_getD,h1,h2]
theorem jxq(ys:List Int):qom [] ys=if 0<ys.length then-1 else 0:=by cases ys<;>simp[qom]
theorem juw(xs:List Int)(h:0<xs.length):qom xs []=1:=by cases xs with
 |nil=>simp at h
 |cons a l=>rfl
set_option maxHeartbeats 4000000 in
set_option maxRecDepth 1000000 in
theorem jm8(xs ys:List Int)(a1 a2:Option Addr)(c1 c2:Nat)(w:World)(hx:xs.length<=9223372036854775807)(hy:ys.length<=9223372036854775807)
  (hr1:0<xs.length->∃b o,a1=some ⟨b,o,none⟩/\∀i,i<xs.length->w.cell? ⟨b,o+i,none⟩=some (.int .i64 (xs.getD i 0)))
  (hr2:0<ys.length->∃b o,a2=some ⟨b,o,none⟩/\∀i,i<ys.length->w.cell? ⟨b,o+i,none⟩=some (.int .i64 (ys.getD i 0))):
  Calls Tryz.prog 144 #[.slice a1 xs.length c1, .slice a2 ys.length c2] w fun e w' =>e= .returned (.int .i64 (qom xs ys))/\∃q,w' =w.drewN q:=by
 have t4:=Tryz.underlying4;have a4:=Tryz.isAgg4;have z4:=Tryz.sizeOf4;have v4:=Tryz.zeroValue4;have t3:=Tryz.underlying3;have a3:=Tryz.isAgg3;have z3:=Tryz.sizeOf3;have v3:=Tryz.zeroValue3;have t27:=Tryz.underlying27;have a27:=Tryz.isAgg27;have z27:=Tryz.sizeOf27;have v27:=Tryz.zeroValue27;have e212:∀args w,(callFunc 212 args).run Tryz.prog w= .ok (.enter 212 args) w:=enters_of Tryz.func212 (by kernel_rfl) rfl
 go_enter Tryz.func144,Tryz.ntmps144
 go_wp2
 go_loopw [11] (fun i wr=>∃k:Nat,k<=xs.length/\k<=ys.length/\i= .int .i64 k/\qom xs ys=qom (xs.drop k) (ys.drop k)/\∃q,wr=w.drewN q) (fun i _=>xs.length-(intOf i).toNat)
 case atStart=>
  exact⟨0,Nat.zero_le _,Nat.zero_le _,rfl,rfl,0,rfl⟩
 case round=>
  obtain⟨k,hk,hk2,rfl,hc,q,rfl⟩:=hrel;by_cases hkn:k<xs.length
  ·obtain⟨b,o,rfl,hcell⟩:=hr1 (by omega);have hcw:(w.drewN q).cell? ⟨b,o+k,none⟩=some (.int .i64 (xs.getD k 0)):=hcell k hkn;by_cases hky:k<ys.length
   ·obtain⟨b2,o2,rfl,hcell2⟩:=hr2 (by omega);have hcw2:(w.drewN q).cell? ⟨b2,o2+k,none⟩=some (.int .i64 (ys.getD k 0)):=hcell2 k hky;have hat:=j1s xs ys k hkn hky;clear hcell hcell2 hr1 hr2;generalize xs.getD k 0=x at*;generalize ys.getD k 0=y at*
    go_wp2_with (go_at_fn 212;refine(jut _ _ _).mono ?_;rintro e w' ⟨rfl,hw⟩;rw[hw])
    ·rename_i hne
     go_ret
     exact⟨by rw[hc,hat,if_neg (by simpa using hne)];rfl,q,rfl⟩
    ·rename_i hne
     go_roundw
     case rel=>exact⟨k+1,by omega,by omega,by simp,hc.trans (hat.trans (if_pos (by simpa using hne))),q,rfl⟩
     case measure=>
      simp only[intOf];omega
   ·obtain rfl:k=ys.length:=by omega
    go_wp2
    go_ret
    refine⟨?_,q,rfl⟩;rw[hc,List.drop_length,juw _ (by rw[List.length_drop];omega)];rfl
  ·obtain rfl:k=xs.length:=by omega
   have hz:qom xs ys=if xs.length<ys.length then-1 else 0:=by
    rw[hc,List.drop_length,jxq,List.length_drop];congr 1;simp;omega
   go_wp2
   all_goals go_ret
   ·exact⟨by rw[hz,if_pos (by omega)];rfl,q,rfl⟩
   ·exact⟨by rw[hz,if_neg (by omega)];rfl,q,rfl⟩
theorem juu(xs ys:List Int)(a1 a2:Option Addr)(c1 c2:Nat)(w:World)(hx:xs.length<=9223372036854775807)(hy:ys.length<=9223372036854775807)
  (hr1:0<xs.length->∃b o,a1=some ⟨b,o,none⟩/\∀i,i<xs.length->w.cell? ⟨b,o+i,none⟩=some (.int .i64 (xs.getD i 0)))
  (hr2:0<ys.length->∃b o,a2=some ⟨b,o,none⟩/\∀i,i<ys.length->w.cell? ⟨b,o+i,none⟩=some (.int .i64 (ys.getD i 0))):
  Calls Tryz.prog 143 #[.slice a1 xs.length c1, .slice a2 ys.length c2] w fun e w' =>e= .returned (.int .i64 (qom xs ys))/\∃q,w' =w.drewN q:=by
 have t3:=Tryz.underlying3;have a3:=Tryz.isAgg3;have z3:=Tryz.sizeOf3;have v3:=Tryz.zeroValue3;have t27:=Tryz.underlying27;have a27:=Tryz.isAgg27;have z27:=Tryz.sizeOf27;have v27:=Tryz.zeroValue27;have e144:∀args w,(callFunc 144 args).run Tryz.prog w= .ok (.enter 144 args) w:=enters_of Tryz.func144 (by kernel_rfl) rfl;have hcon:=jm8 xs ys a1 a2 c1 c2 w hx hy hr1 hr2;clear hr1 hr2;generalize qom xs ys=r at*
 go_enter Tryz.func143,Tryz.ntmps143
 go_wp2_with (go_at_fn 144;refine hcon.mono ?_;rintro e w' ⟨rfl,q,hw⟩;rw[hw])
 go_ret
 exact⟨rfl,q,rfl⟩
end Go.Proofs.YtocndcbobdnagaaGreatDoor
