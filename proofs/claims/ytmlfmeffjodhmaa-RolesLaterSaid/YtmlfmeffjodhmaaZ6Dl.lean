/-
  slices.Delete at elements of three cells, walked.
-/
import Derived.Test.YtmlfmeffjodhmaaChecked
import Derived.Test.YtmlfmeffjodhmaaZ6KE
import Derived.KernelRfl
import Derived.WalkKit
import Derived.BigCall
import Derived.Deep.LoopGhost
import Derived.Deep.RegionLaw
import Derived.Deep.MidRow
import Derived.Deep.Upon
import Derived.Lib.Walk
import Derived.Lib.SliceRun
import Derived.Lib.EndianMore
set_option linter.all false
namespace Go.Proofs.Ytmlfmeffjodhmaa
open Go.RowKit Go.Lib
def dz:Value:= .agg #[.int .i64 0, .string ⟨#[]⟩, .string ⟨#[]⟩]
theorem qvj:∃i,Try.prog.info? 48=some i∧i.size=3∧i.zero=some dz:=by
 have h:(Try.prog.info? 48).map (fun i=>(i.zero,i.size))=some (some dz,3):=by kernel_rfl
 cases hi:Try.prog.info? 48 with
 |none=>rw[hi]at h;cases h
 |some i=>
  rw[hi]at h;injection h with h
  injection h with h1 h2
  exact⟨i,rfl,h2,h1⟩
theorem q0v(w:World):(zeroValue 48).run Try.prog w= .ok dz w:=by
 obtain⟨i,h1,h2,h3⟩:=qvj;simp[zeroValue,typeInfo,h1,h3]
theorem qys:Try.prog.underlying 24=some (.slice 48):=by kernel_rfl
def zs3(n:Nat):List Value:=(Builtin.zeroCells dz.cells n).toList
theorem qiv(n:Nat):(zs3 n).length=n*3:=by
 unfold zs3;simp[Builtin.zeroCells,dz,Value.cells]
theorem qyn(n:Nat):∀v∈zs3 n,v.oneCell' =true:=by
 intro v hv;obtain⟨t,ht⟩:=List.getElem?_of_mem hv;have hl:=(List.getElem?_eq_some_iff.1 ht).1;rw[qiv]at hl;have e:=Go.K.zeroCells_at dz.cells n 3 (t/3) (t % 3) rfl (by omega) (by omega);have et:t/3*3+t % 3=t:=by omega
 rw[et]at e;have e:(zs3 n)[t]? =dz.cells.toList[t % 3]? :=e;rw[ht]at e;have hm:v∈dz.cells.toList:=List.mem_of_getElem? e.symm;simp[dz,Value.cells]at hm;rcases hm with rfl|rfl|rfl<;>rfl
theorem q0n(w:World)(ty:TypeId)(b o n c:Nat)(hn:0<n)(hc:∀j,j<n*3→(w.cell? ⟨b,o+j,none⟩).isSome=true)(hf:∀j,j<n*3→w.frozen? ⟨b,o+j,none⟩=false):
  (Builtin.clear_ #[24] ty #[.slice (some ⟨b,o,none⟩) n c]).run Try.prog w= .ok (.tuple #[]) (w.setCells b o (zs3 n)):=by
 have hst:=run_storeCells_cells (P:=Try.prog) b o (zs3 n) 0 w (by simpa[qiv]using hc) (by simpa[qiv]using hf) (qyn n);simp only[Nat.add_zero]at hst;obtain⟨m,rfl⟩:∃m,n=m+1:=⟨n-1,by omega⟩;unfold zs3 dz at hst;have hz:=q0v;unfold dz at hz;simp only[Builtin.clear_,zs3,dz];simp[run_underlying qys,hz,hst]
set_option maxHeartbeats 4000000 in
set_option maxRecDepth 1000000 in
theorem qpc(w:World)(a:Option Addr)(c n i:Nat)(hnc:n≤c)(hc:c≤9223372036854775807)(hi:i≤n):
  Calls Try.prog 25 #[.slice a n c, .int .i64 i, .int .i64 i] w fun e w' =>e= .returned (.slice a n c)∧w' =w:=by
 go_enter Try.func25,Try.ntmps25
 go_wp2
 all_goals (go_ret;exact⟨rfl,rfl⟩)
set_option maxHeartbeats 4000000 in
set_option maxRecDepth 1000000 in
theorem qvn(w:World)(g o c n i j:Nat)(hthere:∀t,t<c*3→(w.cell? ⟨g,o+t,none⟩).isSome=true∧w.frozen? ⟨g,o+t,none⟩=false)
  (news:List Value) (hlen:news.length=(n-j)*3) (hnews:∀t u,news[t]? =some u→w.cell? ⟨g,o+j*3+t,none⟩=some u) (hone:∀u∈news,u.oneCell' =true)
  (hnc:n≤c) (hc:c≤9223372036854775807) (hij:i<j) (hj:j≤n):
  Calls Try.prog 25 #[.slice (some ⟨g,o,none⟩) n c, .int .i64 i, .int .i64 j] w fun e w' =>e= .returned (.slice (some ⟨g,o,none⟩) (i+(n-j)) c)∧w' =((w.drew).setCells g (o+i*3) news).setCells g (o+(i+(n-j))*3) (zs3 (j-i)):=by
 obtain⟨i0,hi0,hz1,hz0⟩:=qvj;obtain⟨A,hA,hsrc⟩:∃A:Addr,(if c=j then some (⟨g,o,none⟩:Addr)else some ⟨g,o+j*3,none⟩)=some A∧Hid (∀t u,news[t]? =some u→w.drew.cell? (A.add t)=some u):=by
  by_cases h:c=j
  ·refine⟨⟨g,o,none⟩,by simp[h],fun t u hu=> ?_⟩;have h0:news.length=0:=by rw[hlen];omega
   rw[List.length_eq_zero_iff.1 h0]at hu;simp at hu
  ·refine⟨⟨g,o+j*3,none⟩,by simp[h],fun t u hu=> ?_⟩;rw[Addr.add_lit];exact hnews t u hu
 have s1:Hid (news.length=(n-j)*3):=hlen;have s2:Hid (∀u∈news,u.oneCell' =true):=hone;have s3:Hid (∀t,t<news.length→(w.drew.cell? ⟨g,o+i*3+t,none⟩).isSome=true∧w.drew.frozen? ⟨g,o+i*3+t,none⟩=false):=by
  intro t ht;rw[hlen]at ht;rw[Nat.add_assoc];exact hthere (i*3+t) (by omega)
 obtain⟨W1,hW1⟩:∃W1,W1=w.drew.setCells g (o+i*3) news:=⟨_,rfl⟩;have hcl:∀ty,(Builtin.clear_ #[24] ty #[.slice (some ⟨g,o+(i+(n-j))*3,none⟩) (n-(i+(n-j))) (c-(i+(n-j)))]).run Try.prog W1= .ok (.tuple #[]) (W1.setCells g (o+(i+(n-j))*3) (zs3 (n-(i+(n-j))))):=fun ty=>by
  refine q0n W1 ty g _ _ _ (by omega) (fun t ht=> ?_) (fun t ht=> ?_)
  ·rw[hW1,Nat.add_assoc];exact World.isSome_setCells g news _ _ _ (hthere _ (by omega)).1
  ·rw[hW1,World.frozen?_setCells,Nat.add_assoc];exact(hthere _ (by omega)).2
 have X:Aside (W1=w.drew.setCells g (o+i*3) news):=hW1;have hW:Hid (W1=w.drew.setCells g (o+i*3) news):=hW1;have hic:i≤c:=by omega
 have hjc:j≤c:=by omega
 clear hW1 hthere hnews hlen hone
 go_enter Try.func25,Try.ntmps25
 go_wp2_with fail
 go_region_law (refine step_append_room rfl (.tmp 22) (.tmp 25) 24 rfl 48 i0 3 qys hi0 hz1 g o i c (by simp[Act.eval,Act.put]) A (n-j) (c-j) news (by simp[Act.eval,Act.put]) s1.out hsrc.out s2.out (by omega) s3.out ?_;rw[←hW.out])
 go_wp2
 go_ret
 refine⟨by rfl,?_⟩;rw[←X.out,show n-(i+(n-j))=j-i by omega]
theorem xe(g:Nat)(e:TypeId):∀(vs:List Value) (o:Nat) (w:World) (cur:Array Value),w.heap[g]? =some (.cells cur e (0,0))→∃cur',(w.setCells g o vs).heap[g]? =some (.cells cur' e (0,0))∧cur'.size=cur.size
 |[],_,w,cur,h=>⟨cur,h,rfl⟩
 |v::vs,o,w,cur,h=>by
  have h1:(w.setCell ⟨g,o,none⟩ v).heap[g]? =some (.cells (cur.setIfInBounds o v) e (0,0)):=by
   simp[World.setCell,Array.getElem?_modify,h]
  obtain⟨cur',h2,h3⟩:=xe g e vs (o+1) _ _ h1;exact⟨cur',h2,by rw[h3,Array.size_setIfInBounds]⟩
end Go.Proofs.Ytmlfmeffjodhmaa
