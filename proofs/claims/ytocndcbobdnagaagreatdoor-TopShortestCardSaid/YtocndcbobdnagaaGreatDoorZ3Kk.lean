/-
  cover.key: numbers of at most 100, or Omega, as text.
-/
import Derived.Test.YtocndcbobdnagaaGreatDoorZ3Kl
import Derived.Test.YtocndcbobdnagaaGreatDoorZ3KE
import Derived.WalkKit
import Derived.BigCall
set_option linter.all false
namespace Go.Proofs.YtocndcbobdnagaaGreatDoor
open Go.RowKit Go.K Go.M Go.Sort
def tok(k:Int):List UInt8:=bif decide (k<0)then [45,49]else bif decide (k<10)then [UInt8.ofNat (48+k.toNat)]else bif decide (k<100)then [UInt8.ofNat (48+k.toNat/10),UInt8.ofNat (48+k.toNat % 10)]else [49,48,48]
def wy(l:List Int):List UInt8:=l.flatMap fun k=>tok k++[32]
def q6d:List Int->Bool
 |[]=>true
 |k::l=>decide (-1<=k)&&decide (k<=100)&&q6d l
def j2n(l:List Int):Option ByteArray:=bif Nat.ble l.length 1000000&&q6d l then some ⟨(wy l).toArray⟩else none
theorem jf8:∀{l:List Int},q6d l=true->∀k∈l,-1<=k/\k<=100
 |[],_,k,hk=>by cases hk
 |x::l,h,k,hk=>by
  simp only[q6d,Wc,WH]at h;rcases Wr.1 hk with rfl|hk
  ·exact h.1
  ·exact jf8 h.2 k hk
theorem jpg(k:Int)(h0: -1<=k)(h1:k<=100):Lib.itoa k=tok k:=by
 unfold tok;by_cases h2:k<0
 ·have:k= -1:=by omega
  subst this;exact(Lib.itoa_neg 1 (by omega)).trans (by rw[Lib.decDigits_one (by omega)];rfl)
 ·obtain⟨n,rfl⟩:=Int.eq_ofNat_of_zero_le (show 0<=k by omega);rw[WD h2,W9,Lib.itoa_nonneg];by_cases h3:n<10
  ·rw[Ws (by omega),WQ,Lib.decDigits_one h3];rfl
  ·rw[WD (by omega),W9];by_cases h4:n<100
   ·rw[Ws (by omega),WQ,Lib.decDigits_two h3 h4];rfl
   ·have:n=100:=by omega
    subst this;rw[WD (by omega),W9,Lib.decDigits,dif_neg h3,Lib.decDigits_two (by omega) (by omega)];rfl
theorem jl9(k:Int):(tok k).length<=3:=by
 unfold tok;cases decide (k<0)<;>cases decide (k<10)<;>cases decide (k<100)<;>simp
theorem jpd(l:List Int):(wy l).length<=4*l.length:=by
 induction l with
 |nil=>exact Wg _
 |cons k l ih=>
  have:=jl9 k;simp only[wy,List.flatMap_cons,Wx,WA,KG]at ih⊢;omega
theorem j0t(l:List Int)(k:Nat)(h:k<l.length):Lib.byteCells (wy (l.take (k+1)))=Lib.byteCells (wy (l.take k))++Lib.strCells ⟨(tok l[k]++[32]).toArray⟩:=by
 have e:l.take (k+1)=l.take k++[l[k]]:=by rw[List.take_succ,Wi h];rfl
 have e2:wy (l.take k++[l[k]])=wy (l.take k)++(tok l[k]++[32]):=by unfold wy;rw[List.flatMap_append];simp
 rw[e,e2,Lib.byteCells_append];rfl
theorem qvd{T e:TypeId}{B b:Nat}{bs:List Value}{w:World}(h:Lib.IsBuilderF T e B b bs w)(k:Nat)(os:Array Obj):Lib.IsBuilderF T e B b bs (grow (w.drewN k) os):=by
 have ho:∀(g:Nat) (o:Obj),w.heap[g]? =some o->(grow (w.drewN k) os).heap[g]? =some o:=fun g o hg=>by
  have:g<w.heap.size:=(W4.1 hg).1;show(w.heap++os)[g]? =_;rw[Ku this,hg]
 have key:∀p,Lib.BuilderAtF T e B b p bs w->Lib.BuilderAtF T e B b p bs (grow (w.drewN k) os):=by
  rintro p ⟨hB,v,hb,⟨hl,h0|⟨g,cap,cur,fz,hv,hbg,hh,r⟩⟩,hne⟩
  ·exact⟨hB,v,ho _ _ hb,⟨hl, .inl h0⟩,hne⟩
  ·exact⟨hB,v,ho _ _ hb,⟨hl, .inr ⟨g,cap,cur,fz,hv,hbg,ho _ _ hh,r⟩⟩,hne⟩
 exact h.imp (key _) (key _)
theorem jmy(B:Nat)(w:World)(hB:B<=w.heap.size)(k:Nat)(os:Array Obj):Below B w (grow (w.drewN k) os):=
 ⟨rfl,rfl,rfl,by show w.heap.size<=(w.heap++os).size;rw[HF];omega,fun j hj=>by show(w.heap++os)[j]? =_;rw[Ku (by omega)]⟩
theorem j0o{w:World}(h:∀g c,jru g=some c->∃e f,w.heap[g]? =some (.cells c e f)):Lib.TabIs Tryz.prog w "internal/strconv.uint64pow10" .u64 Lib.pow10Tab:=by
 obtain⟨e,f,h0⟩:=h 0 joo rfl;unfold Lib.TabIs World.var?;rw[show Tryz.prog.globalNamed "internal/strconv.uint64pow10" =some 0 by kernel_rfl];simp only[Option.bind_some,h0];rfl
theorem jwj{w w' :World}{B:Nat}(hb:Below B w w')(hB:w.heap.size<=B)(h:∀g c,jru g=some c->∃e f,w.heap[g]? =some (.cells c e f)):∀g c,jru g=some c->∃e f,w'.heap[g]? =some (.cells c e f):=fun g c hc=>by
 obtain⟨e,f,h0⟩:=h g c hc;exact⟨e,f,(hb.block g (WL (W4.1 h0).1 hB)).trans h0⟩
set_option maxHeartbeats 4000000 in
set_option maxRecDepth 1000000 in
theorem jyx(xs:List Int)(a:Option Addr)(c:Nat)(w:World)(hn:xs.length<=1000000)(hk0:q6d xs=true)(ht:∀g c,jru g=some c->∃e f,w.heap[g]? =some (.cells c e f))
  (hr:0<xs.length->∃b o,a=some ⟨b,o,none⟩/\b<w.heap.size/\∀i,i<xs.length->w.cell? ⟨b,o+i,none⟩=some (.int .i64 (xs.getD i 0))):
  Calls Tryz.prog 226 #[.slice a xs.length c] w fun e w' =>e= .returned (.string ⟨(wy xs).toArray⟩)/\Below w.heap.size w w' :=by
 go_enter Tryz.func226,Tryz.ntmps226
 go_wp2
 go_loopw [8] (fun i wr=>∃k:Nat,k<=xs.length/\i= .int .i64 k/\Lib.IsBuilderF 138 5 w.heap.size w.heap.size (Lib.byteCells (wy (xs.take k))) wr/\Below w.heap.size w wr) (fun i _=>xs.length-(intOf i).toNat)
 case atStart=>
  exact⟨0,W7 _,rfl,Lib.IsBuilderF.of (Lib.fresh_isBuilder 138 5 w),(HX _ w).alloc (Wg _) _⟩
 case round=>
  obtain⟨k,hk,rfl,hI,hbw⟩:=hrel;have hsz:w.heap.size<=wr.heap.size:=hbw.size;by_cases hkn:k<xs.length
  ·obtain⟨b,o,rfl,hb,hcell⟩:=hr (by omega);have hcw:wr.cell? ⟨b,o+k,none⟩=some (.int .i64 (xs.getD k 0)):=(hbw.cell (p:=⟨b,o+k,none⟩) hb).trans (hcell k hkn);clear hcell;have hlen:(Lib.byteCells (wy (xs.take k))).length<=4000000:=by
    rw[Lib.byteCells_length];have:=jpd (xs.take k);rw[Kg]at this;omega
   have hx0:=jf8 hk0 _ (Hb hkn);have hit:=jpg _ hx0.1 hx0.2;have htab:=j0o (jwj hbw (Wg _) ht);have hstep:=j0t xs k hkn;have hgd:xs.getD k 0=xs[k]:=by rw[Wa,Wi hkn];rfl
   have htl:=jl9 xs[k];rw[hgd]at hcw;generalize xs[k]=x at*
   go_wp2_with (go_at_call 263;refine(zcx x (by omega) (by omega) _ htab).mono ?_)
   rintro e W1 ⟨rfl,q,os,rfl⟩;rw[hit]
   go_wp2_with (go_at_call 153;refine(j0w w.heap.size w.heap.size _ _ _ (qvd hI q os) (by simp[ByteArray.size];omega) (by have:=(jmy w.heap.size wr hsz q os).size;omega)).mono ?_)
   rintro e W2 ⟨rfl,h2,b2,_⟩
   go_wp2
   go_roundw
   case rel=>
    refine⟨k+1,by omega,by simp,Or.inr ?_,(hbw.trans (jmy w.heap.size wr hsz q os)).trans b2⟩;rw[hstep];exact h2
   case measure=>
    simp only[intOf];omega
  ·obtain rfl:k=xs.length:=by omega
   go_wp2_with (go_at_call 72;refine(jse w.heap.size w.heap.size (wy (xs.take xs.length)) _ hI hsz).mono ?_)
   rintro e W1 ⟨rfl,_,b1,_⟩
   go_wp2
   go_ret
   exact⟨rfl,hbw.trans b1⟩
theorem j2o(fr:Bool):MdlOK Tryz.prog 226 (ar (.cons (.d fr (.slice (.int .i64))) .nil) [] [] 1 ⟨[(0, .d true .str)],[]⟩ (B:=ByteArray) (fun b=>((b,()),())) (fun a=>j2n a.1.1)):=by
 refine jie Tryz.func226 (by kernel_rfl) (by kernel_rfl) fun a b hm G vs ht hvs=> ?_
 obtain⟨⟨xs,_⟩,_⟩:=a;obtain⟨u,r,rfl,hu,hr⟩:=hvs;have hr:r=[]:=hr;subst hr;obtain⟨a,c,rfl,_,_,hc⟩:=hu;have hm:j2n xs=some b:=hm;unfold j2n at hm;obtain⟨h1,hm⟩:=ai hm;simp only[Wc]at h1;cases hm;refine jyx xs a c G.w (Ky h1.1) h1.2 ht fun h0=> ?_
 obtain⟨b,o,rfl,hb,_,hcell⟩:=hc h0;refine⟨b,o,rfl,hb,fun i hi=> ?_⟩;obtain⟨u,h1,_,h2⟩:=hcell i 0 hi K8;have h2:u= .int .i64 (List.getD (α:=Int) xs i 0):=h2;have e:o+(i*1+0)=o+i:=by omega
 have h1:G.w.cell? ⟨b,o+(i*1+0),none⟩=some u:=h1;rw[e,h2]at h1;exact h1
end Go.Proofs.YtocndcbobdnagaaGreatDoor
