/-
  ptree.Text of a row of two activities: the builder's text.
-/
import Derived.Test.YtocndcbobdnagaaGreatDoorZ3Kk
set_option linter.all false
namespace Go.Proofs.YtocndcbobdnagaaGreatDoor
open Go.RowKit Go.K Go.M Go.Sort
set_option maxHeartbeats 4000000 in
set_option maxRecDepth 1000000 in
theorem jig(B b:Nat)(bs:List Value)(s:ByteArray)(v:Value)(w:World)(h:Lib.IsBuilderF 138 5 B b bs w)(hl:bs.length+s.size<=140737488355328)(hB:B<=w.heap.size):
  Calls Tryz.prog 70 #[.pointer (some ⟨b,0,none⟩), .agg #[.int .i64 1, .string s,v]] w fun e w' =>e= .returned (.tuple #[])/\(Lib.IsBuilderF 138 5 B b (bs++Lib.strCells s) w' /\Below B w w' /\Lib.OthersKept 5 (some b) w w'):=by
 have t63:=Tryz.underlying63;have a63:=Tryz.isAgg63;have z63:=Tryz.sizeOf63;have v63:=Tryz.zeroValue63;have t3:=Tryz.underlying3;have a3:=Tryz.isAgg3;have z3:=Tryz.sizeOf3;have v3:=Tryz.zeroValue3;have t9:=Tryz.underlying9;have a9:=Tryz.isAgg9;have z9:=Tryz.sizeOf9;have v9:=Tryz.zeroValue9
 go_enter Tryz.func70,Tryz.ntmps70
 have hA:∀o,Lib.IsBuilderF 138 5 B b bs (w.alloc o):=fun o=>qvd h 0 #[o]
 have hS:∀o,B<=(w.alloc o).heap.size:=fun o=>Kb hB ((HX B w).alloc hB o).size
 go_wp2_with (go_at_call 153;refine(j0w B b bs s _ (hA _) hl (hS _)).mono ?_)
 rintro e W1 ⟨rfl,h1,b1,o1⟩
 go_wp2
 refine bodyPost_ret (results_none rfl _ _ _) rfl ?_;exact⟨rfl,Or.inr h1,((HX B w).alloc hB _).trans b1,((Lib.OthersKept.refl 5 (some b) w).alloc _).trans o1⟩
theorem jwp(w:World):Calls Tryz.prog 154 #[.int .i64 3] w fun e w' =>e= .returned (.string ⟨#[115,101,113]⟩)/\w' =w:=by
 have t3:=Tryz.underlying3;have a3:=Tryz.isAgg3;have z3:=Tryz.sizeOf3;have v3:=Tryz.zeroValue3;have t4:=Tryz.underlying4;have a4:=Tryz.isAgg4;have z4:=Tryz.sizeOf4;have v4:=Tryz.zeroValue4
 go_enter Tryz.func154,Tryz.ntmps154
 go_wp2
 go_ret
 exact⟨rfl,rfl⟩
theorem jcz(w:World)(o:Obj):(w.alloc o).heap[w.heap.size]? =some o:=by
 show(w.heap.push o)[w.heap.size]? =some o;simp
def qur(s1 s2:List UInt8):Nat->List UInt8
 |0=>[115,101,113,40]
 |1=>[115,101,113,40]++s1
 |_=>[115,101,113,40]++s1++[44,32]++s2
theorem jj0(l m:List UInt8):Lib.byteCells (l++m)=Lib.byteCells l++Lib.strCells ⟨m.toArray⟩:=by
 rw[Lib.byteCells_append];rfl
set_option maxHeartbeats 4000000 in
set_option maxRecDepth 1000000 in
theorem jz9(B b:Nat)(s1 s2:List UInt8)(s0:ByteArray)(g o c:Nat)(a1 a2:Option Addr)(e1 e2:Nat)(w:World)(h:Lib.IsBuilderF 138 5 B b [] w)(h1:s1.length<=100)(h2:s2.length<=100)(hB:B<=w.heap.size)(hg:g<B)
  (hc:w.cell? ⟨g,o+0,none⟩=some (.int .i64 1)/\w.cell? ⟨g,o+1,none⟩=some (.string ⟨s1.toArray⟩)/\w.cell? ⟨g,o+2,none⟩=some (.slice a1 0 e1)/\w.cell? ⟨g,o+3,none⟩=some (.int .i64 1)/\w.cell? ⟨g,o+4,none⟩=some (.string ⟨s2.toArray⟩)/\w.cell? ⟨g,o+5,none⟩=some (.slice a2 0 e2)):
  Calls Tryz.prog 70 #[.pointer (some ⟨b,0,none⟩), .agg #[.int .i64 3, .string s0, .slice (some ⟨g,o,none⟩) 2 c]] w fun e w' =>e= .returned (.tuple #[])/\(Lib.IsBuilderF 138 5 B b (Lib.byteCells (qur s1 s2 2++[41])) w' /\Below B w w'):=by
 have t63:=Tryz.underlying63;have a63:=Tryz.isAgg63;have z63:=Tryz.sizeOf63;have v63:=Tryz.zeroValue63;have t3:=Tryz.underlying3;have a3:=Tryz.isAgg3;have z3:=Tryz.sizeOf3;have v3:=Tryz.zeroValue3;have t9:=Tryz.underlying9;have a9:=Tryz.isAgg9;have z9:=Tryz.sizeOf9;have v9:=Tryz.zeroValue9;have t61:=Tryz.underlying61;have a61:=Tryz.isAgg61;have z61:=Tryz.sizeOf61;have v61:=Tryz.zeroValue61
 go_enter Tryz.func70,Tryz.ntmps70
 have hA:∀o,Lib.IsBuilderF 138 5 B b [] (w.alloc o):=fun o=>qvd h 0 #[o]
 have hblt:b<w.heap.size:=by
  obtain⟨_,v,hq,_⟩|⟨_,v,hq,_⟩:=h<;>exact(W4.1 hq).1
 have hL:∀o,Below B w (w.alloc o):=fun o=>(HX B w).alloc hB o
 have hS:∀o,B<=(w.alloc o).heap.size:=fun o=>Kb hB (hL o).size
 go_wp2_with (first|(go_at_call 154;refine(jwp _).mono ?_;rintro e w' ⟨rfl,hw⟩;rw[hw])|(go_at_call 153;refine(j0w B b [] _ _ (hA _) (by decide) (hS _)).mono ?_))
 rintro e W1 ⟨rfl,q1,b1,o1⟩;have hB1:Below B w W1:=(hL _).trans b1;have hb1:Lib.IsBuilderF 138 5 B b (Lib.byteCells (qur s1 s2 0)) W1:=Or.inr q1;have ho1:Lib.OthersKept 5 (some b) w W1:=((Lib.OthersKept.refl 5 (some b) w).alloc _).trans o1;have hbx:W1.heap[w.heap.size]? =some (.cells #[Value.int .i64 3, .string s0, .slice (some ⟨g,o,none⟩) 2 c] 63 (0,0)):=
  o1 w.heap.size _ (jcz w _) (by intro hq;cases hq;exact absurd hblt (by omega)) (by intro c fz hq;cases hq)
 have hb2:W1.cell? ⟨w.heap.size,2,none⟩=some (.slice (some ⟨g,o,none⟩) 2 c):=by simp[World.cell?,hbx]
 clear q1 b1 o1
 go_wp2
 go_loopw [27] (fun i wr=>∃k:Nat,k<=2/\i= .int .i64 k/\Lib.IsBuilderF 138 5 B b (Lib.byteCells (qur s1 s2 k)) wr/\Below B w wr) (fun i _=>2-(intOf i).toNat)
 case atStart=>exact⟨0,by omega,rfl,hb1,hB1⟩
 case round=>
  obtain⟨k,hk,rfl,hI,hbw⟩:=hrel;have hk3:k=0\/k=1\/k=2:=by omega
  have hcw:∀i u,w.cell? ⟨g,o+i,none⟩=some u->wr.cell? ⟨g,o+i,none⟩=some u:=fun i u h=>(hbw.cell (p:=⟨g,o+i,none⟩) hg).trans h
  obtain⟨c0,c1,c2,c3,c4,c5⟩:=hc;have d0:=hcw _ _ c0;have d1:=hcw _ _ c1;have d2:=hcw _ _ c2;have d3:=hcw _ _ c3;have d4:=hcw _ _ c4;have d5:=hcw _ _ c5;clear hcw c0 c1 c2 c3 c4 c5;rw[KU]at d0;rcases hk3 with rfl|rfl|rfl
  ·have hBr:=Kb hB hbw.size;have hI2:∀o,Lib.IsBuilderF 138 5 B b (Lib.byteCells (qur s1 s2 0)) (wr.alloc o):=fun o=>qvd hI 0 #[o]
   have hS2:∀o,B<=(wr.alloc o).heap.size:=fun o=>Kb hB (hbw.alloc hBr o).size
   go_wp2_with (go_at_call 70;refine(jig B b _ ⟨s1.toArray⟩ _ _ (hI2 _) (by simp[Lib.byteCells_length,qur,ByteArray.size];omega) (hS2 _)).mono ?_)
   rintro e W2 ⟨rfl,q2,b2,o2⟩
   go_wp2
   go_roundw
   case rel=>exact⟨1,by omega,rfl,by rw[qur,jj0];exact q2,(hbw.alloc hBr _).trans b2⟩
   case measure=>
    simp only[intOf];omega
  ·have hBr:=Kb hB hbw.size;have hI2:∀o,Lib.IsBuilderF 138 5 B b (Lib.byteCells (qur s1 s2 1)) (wr.alloc o):=fun o=>qvd hI 0 #[o]
   have hS2:∀o,B<=(wr.alloc o).heap.size:=fun o=>Kb hB (hbw.alloc hBr o).size
   go_wp2_with (go_at_call 153;refine(j0w B b _ _ _ (hI2 _) (by simp[Lib.byteCells_length,qur,ByteArray.size];omega) (hS2 _)).mono ?_)
   rintro e W2 ⟨rfl,q2,b2,o2⟩;have k2:=o2 wr.heap.size _ (jcz wr _) (by intro hq;cases hq;exact absurd (WL hblt hbw.size) (Nat.lt_irrefl _)) (by intro c fz hq;cases hq);have m0:W2.cell? ⟨wr.heap.size,0,none⟩=some (.int .i64 1):=by simp[World.cell?,k2]
   have m1:W2.cell? ⟨wr.heap.size,1,none⟩=some (.string ⟨s2.toArray⟩):=by simp[World.cell?,k2]
   have m2:W2.cell? ⟨wr.heap.size,2,none⟩=some (.slice a2 0 e2):=by simp[World.cell?,k2]
   have hb2:Below B w W2:=(hbw.alloc hBr _).trans b2;have hS3:=Kb hB hb2.size;clear k2 o2 b2
   go_wp2_with (go_at_call 70;refine(jig B b _ ⟨s2.toArray⟩ _ _ (Or.inr q2) (by simp[Lib.byteCells_length,qur,ByteArray.size,Lib.strCells];omega) hS3).mono ?_)
   rintro e W3 ⟨rfl,q3,b3,o3⟩
   go_wp2
   go_roundw
   case rel=>exact⟨2,by omega,rfl,by rw[show qur s1 s2 2=qur s1 s2 1++[44,32]++s2 from rfl,jj0,jj0];exact q3,hb2.trans b3⟩
   case measure=>
    simp only[intOf];omega
  ·go_wp2_with (go_at_call 153;refine(j0w B b _ _ _ hI (by simp[Lib.byteCells_length,qur,ByteArray.size];omega) (Kb hB hbw.size)).mono ?_)
   rintro e W2 ⟨rfl,q2,b2,o2⟩
   go_wp2
   go_end0
   exact⟨rfl,by rw[jj0];exact Or.inr q2,hbw.trans b2⟩
end Go.Proofs.YtocndcbobdnagaaGreatDoor
