/-
  cover.key: numbers of at most 100, or Omega, as text.
-/
import Derived.Test.YtemahcdcacmgdaaGreatDoorZ3Kl
import Derived.Test.YtemahcdcacmgdaaGreatDoorZ3KE
import Derived.WalkKit
import Derived.BigCall
set_option linter.all false
namespace Go.Proofs.YtemahcdcacmgdaaGreatDoor
open Go.RowKit Go.K Go.M Go.Sort
def tok(k:Int):List UInt8:=bif decide (k<0)then [45,49]else bif decide (k<10)then [UInt8.ofNat (48+k.toNat)]else bif decide (k<100)then [UInt8.ofNat (48+k.toNat/10),UInt8.ofNat (48+k.toNat % 10)]else [49,48,48]
def qio(l:List Int):List UInt8:=l.flatMap fun k=>tok k++[32]
def jao:List Int→Bool
 |[]=>true
 |k::l=>decide (-1≤k)&&decide (k≤100)&&jao l
def js9(l:List Int):Option ByteArray:=bif Nat.ble l.length 1000000&&jao l then some ⟨(qio l).toArray⟩else none
theorem jj3:∀{l:List Int},jao l=true→∀k∈l,-1≤k∧k≤100
 |[],_,k,hk=>by cases hk
 |x::l,h,k,hk=>by
  simp only[jao,Bool.and_eq_true,decide_eq_true_eq]at h;rcases List.mem_cons.1 hk with rfl|hk
  ·exact h.1
  ·exact jj3 h.2 k hk
theorem ju3(k:Int)(h0: -1≤k)(h1:k≤100):Lib.itoa k=tok k:=by
 unfold tok;by_cases h2:k<0
 ·have:k= -1:=by omega
  subst this;exact(Lib.itoa_neg 1 (by omega)).trans (by rw[Lib.decDigits_one (by omega)];rfl)
 ·obtain⟨n,rfl⟩:=Int.eq_ofNat_of_zero_le (show 0≤k by omega);rw[decide_eq_false h2,cond_false,Lib.itoa_nonneg];by_cases h3:n<10
  ·rw[decide_eq_true (by omega),cond_true,Lib.decDigits_one h3];rfl
  ·rw[decide_eq_false (by omega),cond_false];by_cases h4:n<100
   ·rw[decide_eq_true (by omega),cond_true,Lib.decDigits_two h3 h4];rfl
   ·have:n=100:=by omega
    subst this;rw[decide_eq_false (by omega),cond_false,Lib.decDigits,dif_neg h3,Lib.decDigits_two (by omega) (by omega)];rfl
theorem jos(k:Int):(tok k).length≤3:=by
 unfold tok;cases decide (k<0)<;>cases decide (k<10)<;>cases decide (k<100)<;>simp
theorem ju2(l:List Int):(qio l).length≤4*l.length:=by
 induction l with
 |nil=>exact Nat.le_refl _
 |cons k l ih=>
  have:=jos k;simp only[qio,List.flatMap_cons,List.length_append,List.length_cons,List.length_nil]at ih⊢;omega
theorem ju4(l:List Int)(k:Nat)(h:k<l.length):Lib.byteCells (qio (l.take (k+1)))=Lib.byteCells (qio (l.take k))++Lib.strCells ⟨(tok l[k]++[32]).toArray⟩:=by
 have e:l.take (k+1)=l.take k++[l[k]]:=by rw[List.take_succ,List.getElem?_eq_getElem h];rfl
 have e2:qio (l.take k++[l[k]])=qio (l.take k)++(tok l[k]++[32]):=by unfold qio;rw[List.flatMap_append];simp
 rw[e,e2,Lib.byteCells_append];rfl
theorem qqs{T e:TypeId}{B b:Nat}{bs:List Value}{w:World}(h:Lib.IsBuilderF T e B b bs w)(k:Nat)(os:Array Obj):Lib.IsBuilderF T e B b bs (grow (w.drewN k) os):=by
 have ho:∀(g:Nat) (o:Obj),w.heap[g]? =some o→(grow (w.drewN k) os).heap[g]? =some o:=fun g o hg=>by
  have:g<w.heap.size:=(Array.getElem?_eq_some_iff.1 hg).1;show(w.heap++os)[g]? =_;rw[Array.getElem?_append_left this,hg]
 have key:∀p,Lib.BuilderAtF T e B b p bs w→Lib.BuilderAtF T e B b p bs (grow (w.drewN k) os):=by
  rintro p ⟨hB,v,hb,⟨hl,h0|⟨g,cap,cur,fz,hv,hbg,hh,r⟩⟩,hne⟩
  ·exact⟨hB,v,ho _ _ hb,⟨hl, .inl h0⟩,hne⟩
  ·exact⟨hB,v,ho _ _ hb,⟨hl, .inr ⟨g,cap,cur,fz,hv,hbg,ho _ _ hh,r⟩⟩,hne⟩
 exact h.imp (key _) (key _)
theorem jhk(B:Nat)(w:World)(hB:B≤w.heap.size)(k:Nat)(os:Array Obj):Below B w (grow (w.drewN k) os):=
 ⟨rfl,rfl,rfl,by show w.heap.size≤(w.heap++os).size;rw[Array.size_append];omega,fun j hj=>by show(w.heap++os)[j]? =_;rw[Array.getElem?_append_left (by omega)]⟩
theorem j3n{w:World}(h:∀g c,jq7 g=some c→∃e f,w.heap[g]? =some (.cells c e f)):Lib.TabIs Tryz.prog w "internal/strconv.uint64pow10" .u64 Lib.pow10Tab:=by
 obtain⟨e,f,h0⟩:=h 0 jjh rfl;unfold Lib.TabIs World.var?;rw[show Tryz.prog.globalNamed "internal/strconv.uint64pow10" =some 0 by kernel_rfl];simp only[Option.bind_some,h0];rfl
theorem jq8{w w' :World}{B:Nat}(hb:Below B w w')(hB:w.heap.size≤B)(h:∀g c,jq7 g=some c→∃e f,w.heap[g]? =some (.cells c e f)):∀g c,jq7 g=some c→∃e f,w'.heap[g]? =some (.cells c e f):=fun g c hc=>by
 obtain⟨e,f,h0⟩:=h g c hc;exact⟨e,f,(hb.block g (Nat.lt_of_lt_of_le (Array.getElem?_eq_some_iff.1 h0).1 hB)).trans h0⟩
set_option maxHeartbeats 4000000 in
set_option maxRecDepth 1000000 in
theorem jtc(xs:List Int)(a:Option Addr)(c:Nat)(w:World)(hn:xs.length≤1000000)(hk0:jao xs=true)(ht:∀g c,jq7 g=some c→∃e f,w.heap[g]? =some (.cells c e f))
  (hr:0<xs.length→∃b o,a=some ⟨b,o,none⟩∧b<w.heap.size∧∀i,i<xs.length→w.cell? ⟨b,o+i,none⟩=some (.int .i64 (xs.getD i 0))):
  Calls Tryz.prog 75 #[.slice a xs.length c] w fun e w' =>e= .returned (.string ⟨(qio xs).toArray⟩)∧Below w.heap.size w w' :=by
 go_enter Tryz.func75,Tryz.ntmps75
 go_wp2
 go_loopw [8] (fun i wr=>∃k:Nat,k≤xs.length∧i= .int .i64 k∧Lib.IsBuilderF 116 5 w.heap.size w.heap.size (Lib.byteCells (qio (xs.take k))) wr∧Below w.heap.size w wr) (fun i _=>xs.length-(intOf i).toNat)
 case atStart=>
  exact⟨0,Nat.zero_le _,rfl,Lib.IsBuilderF.of (Lib.fresh_isBuilder 116 5 w),(Below.refl _ w).alloc (Nat.le_refl _) _⟩
 case round=>
  obtain⟨k,hk,rfl,hI,hbw⟩:=hrel;have hsz:w.heap.size≤wr.heap.size:=hbw.size;by_cases hkn:k<xs.length
  ·obtain⟨b,o,rfl,hb,hcell⟩:=hr (by omega);have hcw:wr.cell? ⟨b,o+k,none⟩=some (.int .i64 (xs.getD k 0)):=(hbw.cell (p:=⟨b,o+k,none⟩) hb).trans (hcell k hkn);clear hcell;have hlen:(Lib.byteCells (qio (xs.take k))).length≤4000000:=by
    rw[Lib.byteCells_length];have:=ju2 (xs.take k);rw[List.length_take]at this;omega
   have hx0:=jj3 hk0 _ (List.getElem_mem hkn);have hit:=ju3 _ hx0.1 hx0.2;have htab:=j3n (jq8 hbw (Nat.le_refl _) ht);have hstep:=ju4 xs k hkn;have hgd:xs.getD k 0=xs[k]:=by rw[List.getD_eq_getElem?_getD,List.getElem?_eq_getElem hkn];rfl
   have htl:=jos xs[k];rw[hgd]at hcw;generalize xs[k]=x at*
   go_wp2_with (go_at_call 140;refine(j5g x (by omega) (by omega) _ htab).mono ?_)
   rintro e W1 ⟨rfl,q,os,rfl⟩;rw[hit]
   go_wp2_with (go_at_call 118;refine(ju9 w.heap.size w.heap.size _ _ _ (qqs hI q os) (by simp[ByteArray.size];omega) (by have:=(jhk w.heap.size wr hsz q os).size;omega)).mono ?_)
   rintro e W2 ⟨rfl,h2,b2,_⟩
   go_wp2
   go_roundw
   case rel=>
    refine⟨k+1,by omega,by simp,Or.inr ?_,(hbw.trans (jhk w.heap.size wr hsz q os)).trans b2⟩;rw[hstep];exact h2
   case measure=>
    simp only[intOf];omega
  ·obtain rfl:k=xs.length:=by omega
   go_wp2_with (go_at_call 59;refine(jmt w.heap.size w.heap.size (qio (xs.take xs.length)) _ hI hsz).mono ?_)
   rintro e W1 ⟨rfl,_,b1,_⟩
   go_wp2
   go_ret
   exact⟨rfl,hbw.trans b1⟩
theorem jwf(fr:Bool):MdlOK Tryz.prog 75 (ay (.cons (.d fr (.slice (.int .i64))) .nil) [] [] 1 ⟨[(0, .d true .str)],[]⟩ (B:=ByteArray) (fun b=>((b,()),())) (fun a=>js9 a.1.1)):=by
 refine jpz Tryz.func75 (by kernel_rfl) (by kernel_rfl) fun a b hm G vs ht hvs=> ?_
 obtain⟨⟨xs,_⟩,_⟩:=a;obtain⟨u,r,rfl,hu,hr⟩:=hvs;have hr:r=[]:=hr;subst hr;obtain⟨a,c,rfl,_,_,hc⟩:=hu;have hm:js9 xs=some b:=hm;unfold js9 at hm;obtain⟨h1,hm⟩:=ai hm;simp only[Bool.and_eq_true]at h1;cases hm;refine jtc xs a c G.w (Nat.le_of_ble_eq_true h1.1) h1.2 ht fun h0=> ?_
 obtain⟨b,o,rfl,hb,_,hcell⟩:=hc h0;refine⟨b,o,rfl,hb,fun i hi=> ?_⟩;obtain⟨u,h1,_,h2⟩:=hcell i 0 hi Nat.zero_lt_one;have h2:u= .int .i64 (List.getD (α:=Int) xs i 0):=h2;have e:o+(i*1+0)=o+i:=by omega
 have h1:G.w.cell? ⟨b,o+(i*1+0),none⟩=some u:=h1;rw[e,h2]at h1;exact h1
end Go.Proofs.YtemahcdcacmgdaaGreatDoor
