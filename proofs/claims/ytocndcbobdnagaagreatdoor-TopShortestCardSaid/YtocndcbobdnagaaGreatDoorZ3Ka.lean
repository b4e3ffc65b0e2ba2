/-
  align.key: numbers of at most 100, each with a space behind it, as text.
-/
import Derived.Test.YtocndcbobdnagaaGreatDoorZ3Kk
import Derived.Test.YtocndcbobdnagaaGreatDoorZ3KE
import Derived.Lib.AppendIntMem
import Derived.Lib.Slices
import Derived.Lib.Hide
import Derived.Laws.IdiomStrings
import Derived.OwnWalk
import Derived.WalkKit
import Derived.BigCall
set_option linter.all false
namespace Go.Proofs.YtocndcbobdnagaaGreatDoor
open Go.RowKit Go.K Go.M Go.Sort Go.Shelf
def jyv(l:List Int):Option ByteArray:=bif Nat.blt 0 l.length&&Nat.ble l.length 1000000&&q6d l then some ⟨(wy l).toArray⟩else none
theorem jxj:(Tryz.prog.info? 5).map (fun i=>(i.zero,i.size,i.bytes))=some (some (.int .u8 0),1,1):=by kernel_rfl
theorem jwl(l:List Int)(k:Nat)(h:k<l.length):wy (l.take (k+1))=wy (l.take k)++(tok l[k]++[32]):=by
 have e:l.take (k+1)=l.take k++[l[k]]:=by rw[List.take_succ,Wi h];rfl
 rw[e];unfold wy;rw[List.flatMap_append];simp
theorem j0s{l:List Int}(h:0<l.length):0<(wy l).length:=by
 cases l with
 |nil=>simp at h
 |cons k l=>simp only[wy,List.flatMap_cons,Wx,WA];omega
set_option maxHeartbeats 4000000 in
set_option maxRecDepth 1000000 in
theorem jvi(xs:List Int)(a:Option Addr)(c:Nat)(w:World)(hp:0<xs.length)(hn:xs.length<=1000000)(hk0:q6d xs=true)(ht:∀g c,jru g=some c->∃e f,w.heap[g]? =some (.cells c e f))
  (hr:0<xs.length->∃b o,a=some ⟨b,o,none⟩/\b<w.heap.size/\∀i,i<xs.length->w.cell? ⟨b,o+i,none⟩=some (.int .i64 (xs.getD i 0))):
  Calls Tryz.prog 174 #[.slice a xs.length c] w fun e w' =>e= .returned (.string ⟨(wy xs).toArray⟩)/\Below w.heap.size w w' :=by
 obtain⟨i0,hi,hz0,hz1,hz2⟩:=info_parts jxj;have hT:=Lib.tabBelow_of_tabIs (j0o ht)
 go_enter Tryz.func174,Tryz.ntmps174
 go_wp2
 go_loopw [3,8] (fun v i wr=>∃k:Nat,k<=xs.length/\i= .int .i64 k/\wr.ownsRow w.heap.size 5 1 v (wy (xs.take k)).length (Lib.byteCells (wy (xs.take k)))/\Below w.heap.size w wr) (fun _ i _=>xs.length-(intOf i).toNat)
 case atStart=>
  exact⟨0,W7 _,rfl,World.ownsRow_nil _ _ _ _,HX _ w⟩
 case round=>
  obtain⟨k,hk,rfl,hI,hbw⟩:=hrel;have hsz:w.heap.size<=wr.heap.size:=hbw.size;by_cases hkn:k<xs.length
  ·obtain⟨b,o,rfl,hb,hcell⟩:=hr (by omega);have hcw:wr.cell? ⟨b,o+k,none⟩=some (.int .i64 (xs.getD k 0)):=(hbw.cell (p:=⟨b,o+k,none⟩) hb).trans (hcell k hkn);clear hcell;have hlen:(wy (xs.take k)).length<=4000000:=by
    have:=jpd (xs.take k);rw[Kg]at this;omega
   have hx0:=jf8 hk0 _ (Hb hkn);have hit:=jpg _ hx0.1 hx0.2;have hstep:=jwl xs k hkn;have hgd:xs.getD k 0=xs[k]:=by rw[Wa,Wi hkn];rfl
   have htl:=jl9 xs[k];rw[hgd]at hcw;generalize xs[k]=x at*;generalize wy (xs.take k)=L at*
   go_wp2_with (go_at_call 232;refine(zbc w.heap.size _ x (by omega) (by omega) _ _ wr hI hsz (by omega) (hT.on hbw)).mono ?_;rintro e w1 ⟨v1,rfl,hown1,hnx1,-⟩;refine Hid.out ?_)
   refine Lib.hid ?_;rw[hit]at hown1
   go_wp2_with (at_builtin;refine wpList_append_own _ rfl _ _ 136 rfl w.heap.size 5 i0 (.int .u8 0) 1 1 Tryz.underlying136 hi hz0 hz1 hz2 rfl (by decide) _ _ _ rfl (hown1.alloc _) ⟨w1.heap.size,0,none⟩ 1 1 [Value.int .u8 32] rfl rfl (by intro j u' hj;match j,hj with|0,hj=>simp at hj;subst hj;simp[Addr.add]) (by intro u' hu';simp at hu';subst hu';rfl) (by unfold maxLen;omega) (by omega) (by have:=hnx1.size;simp;omega) ?_)
   intro v2 w2 hown2 hgrow _;have hnx2:Below w.heap.size w w2:=(((hbw.trans hnx1)).alloc (by have:=hnx1.size;omega) _).grown hgrow (by have:=hnx1.size;simp;omega) (fun k hk=>(hown1.lt k hk).1)
   go_wp2
   go_roundw
   case rel=>
    refine⟨k+1,by omega,by simp,?_,hnx2⟩;have e1:(wy (xs.take (k+1))).length=L.length+(tok x).length+1:=by rw[hstep];simp;omega
    have e2:Lib.byteCells (wy (xs.take (k+1)))=Lib.byteCells L++(Lib.byteCells (tok x)++[Value.int .u8 32]):=by rw[hstep];simp[Lib.byteCells]
    rw[e1,e2];exact hown2
   case measure=>
    simp only[intOf];omega
  ·obtain rfl:k=xs.length:=by omega
   rw[WW]at hI;have hpos:=j0s hp;obtain⟨l,hl⟩:∃l,l=wy xs:=⟨_,rfl⟩;rw[<-hl]at hI hpos;have HL:=Lib.hid hl;clear hl;rcases hI.2 with⟨-,h0⟩|⟨g,cap,cur,rfl,-,-,-,-,-,-⟩
   ·omega
   ·have hcv:=run_convert_bytes_back (P:=Tryz.prog) wr 136 9 5 ⟨g,0,none⟩ cap l Tryz.underlying136 Tryz.underlying5 Tryz.underlying9 (fun j hj=>hI.cells (g:=g) rfl j _ (by simp[Lib.byteCells,hj]))
    go_wp2
    go_ret
    have hl:=HL.out;subst hl;exact⟨rfl,hbw⟩
theorem j2m(fr:Bool):MdlOK Tryz.prog 174 (ar (.cons (.d fr (.slice (.int .i64))) .nil) [] [] 1 ⟨[(0, .d true .str)],[]⟩ (B:=ByteArray) (fun b=>((b,()),())) (fun a=>jyv a.1.1)):=by
 refine jie Tryz.func174 (by kernel_rfl) (by kernel_rfl) fun a b hm G vs ht hvs=> ?_
 obtain⟨⟨xs,_⟩,_⟩:=a;obtain⟨u,r,rfl,hu,hr⟩:=hvs;have hr:r=[]:=hr;subst hr;obtain⟨a,c,rfl,_,_,hc⟩:=hu;have hm:jyv xs=some b:=hm;unfold jyv at hm;obtain⟨h1,hm⟩:=ai hm;simp only[Wc]at h1;cases hm;refine jvi xs a c G.w (Ky h1.1.1) (Ky h1.1.2) h1.2 ht fun h0=> ?_
 obtain⟨b,o,rfl,hb,_,hcell⟩:=hc h0;refine⟨b,o,rfl,hb,fun i hi=> ?_⟩;obtain⟨u,h1,_,h2⟩:=hcell i 0 hi K8;have h2:u= .int .i64 (List.getD (α:=Int) xs i 0):=h2;have e:o+(i*1+0)=o+i:=by omega
 have h1:G.w.cell? ⟨b,o+(i*1+0),none⟩=some u:=h1;rw[e,h2]at h1;exact h1
end Go.Proofs.YtocndcbobdnagaaGreatDoor
