/-
  migrate.key: the bytes of numbers.
-/
import Derived.Test.YtdhfhpdadbopkaaGreatZ3Kl
import Derived.Test.YtdhfhpdadbopkaaGreatZ3KE
import Derived.WalkKit
import Derived.BigCall
set_option linter.all false
namespace Go.Proofs.YtdhfhpdadbopkaaGreat
open Go.RowKit Go.K Go.M
theorem q49(n:Int):(.int .u8 ((UInt8.ofNat (n % 256).toNat).toNat:Int):Value)= .int .u8 (n % 256):=by
 have h1:(n % 256).toNat<256:=by omega
 have h2:(UInt8.ofNat (n % 256).toNat).toNat=(n % 256).toNat:=by rw[UInt8.toNat_ofNat'];omega
 rw[h2,Int.toNat_of_nonneg (by omega)]
theorem jh6(l:List Int)(k:Nat)(h:k<l.length):Lib.byteCells (ya (l.take (k+1)))=Lib.byteCells (ya (l.take k))++[.int .u8 (l[k] % 256)]++[.int .u8 (l[k]/256 % 256)]:=by
 have e:l.take (k+1)=l.take k++[l[k]]:=by rw[List.take_succ,List.getElem?_eq_getElem h];rfl
 have e2:ya (l.take k++[l[k]])=ya (l.take k)++by2 l[k]:=by unfold ya;rw[List.flatMap_append];simp
 rw[e,e2,Lib.byteCells_append,List.append_assoc];congr 1;show [Value.int .u8 _,Value.int .u8 _]=_;rw[q49,q49];rfl
set_option maxHeartbeats 4000000 in
set_option maxRecDepth 1000000 in
theorem jh7(xs:List Int)(a:Option Addr)(c:Nat)(w:World)(hn:xs.length≤1000000)
  (hr:0<xs.length→∃b o,a=some ⟨b,o,none⟩∧b<w.heap.size∧∀i,i<xs.length→w.cell? ⟨b,o+i,none⟩=some (.int .i64 (xs.getD i 0))):
  Calls Tryz.prog 44 #[.slice a xs.length c] w fun e w' =>e= .returned (.string ⟨(ya xs).toArray⟩)∧Below w.heap.size w w' :=by
 go_enter Tryz.func44,Tryz.ntmps44
 go_wp2
 go_loopw [8] (fun i wr=>∃k:Nat,k≤xs.length∧i= .int .i64 k∧Lib.IsBuilder 120 5 w.heap.size w.heap.size (Lib.byteCells (ya (xs.take k))) wr∧Below w.heap.size w wr) (fun i _=>xs.length-(intOf i).toNat)
 case atStart=>
  exact⟨0,Nat.zero_le _,rfl,Lib.fresh_isBuilder 120 5 w,(Below.refl _ w).alloc (Nat.le_refl _) _⟩
 case round=>
  obtain⟨k,hk,rfl,hI,hbw⟩:=hrel;have hsz:w.heap.size≤wr.heap.size:=hbw.size;by_cases hkn:k<xs.length
  ·obtain⟨b,o,rfl,hb,hcell⟩:=hr (by omega);have hcw:wr.cell? ⟨b,o+k,none⟩=some (.int .i64 (xs.getD k 0)):=(hbw.cell (p:=⟨b,o+k,none⟩) hb).trans (hcell k hkn);clear hcell;have hlen:(Lib.byteCells (ya (xs.take k))).length≤140737488355320:=by rw[Lib.byteCells_length,va,List.length_take];omega
   go_wp2_with (go_at_call 77;refine(jnc w.heap.size w.heap.size _ _ _ hI (by omega) hsz).mono ?_)
   rintro e W1 ⟨rfl,h1,b1⟩;have hsz1:w.heap.size≤W1.heap.size:=Nat.le_trans hsz b1.size
   go_wp2_with (go_at_call 77;refine(jnc w.heap.size w.heap.size _ _ _ (Or.inr h1) (by simp;omega) hsz1).mono ?_)
   rintro e W2 ⟨rfl,h2,b2⟩
   go_wp2
   go_roundw
   case rel=>
    refine⟨k+1,by omega,by simp,Or.inr ?_,(hbw.trans b1).trans b2⟩;rw[jh6 xs k hkn];exact h2
   case measure=>
    simp only[intOf];omega
  ·obtain rfl:k=xs.length:=by omega
   go_wp2_with (go_at_call 78;refine(jj1 w.heap.size w.heap.size (ya (xs.take xs.length)) _ hI hsz).mono ?_)
   rintro e W1 ⟨rfl,b1⟩
   go_wp2
   go_ret
   exact⟨rfl,hbw.trans b1⟩
theorem jkl(fr:Bool):MdlOK Tryz.prog 44 (ay (.cons (.d fr (.slice (.int .i64))) .nil) [] [] 1 ⟨[(0, .d true .str)],[]⟩ (B:=ByteArray) (fun b=>((b,()),())) (fun a=>jkk a.1.1)):=by
 refine jht Tryz.func44 (by kernel_rfl) (by kernel_rfl) fun a b hm G vs hvs=> ?_
 obtain⟨⟨xs,_⟩,_⟩:=a;obtain⟨u,r,rfl,hu,hr⟩:=hvs;have hr:r=[]:=hr;subst hr;obtain⟨a,c,rfl,_,_,hc⟩:=hu;have hm:jkk xs=some b:=hm;unfold jkk at hm;split at hm
 ·rename_i hl;cases hm;refine jh7 xs a c G.w hl fun h0=> ?_
  obtain⟨b,o,rfl,hb,_,hcell⟩:=hc h0;refine⟨b,o,rfl,hb,fun i hi=> ?_⟩;obtain⟨u,h1,_,h2⟩:=hcell i 0 hi Nat.zero_lt_one;have h2:u= .int .i64 (List.getD (α:=Int) xs i 0):=h2;have e:o+(i*1+0)=o+i:=by omega
  have h1:G.w.cell? ⟨b,o+(i*1+0),none⟩=some u:=h1;rw[e,h2]at h1;exact h1
 ·cases hm
end Go.Proofs.YtdhfhpdadbopkaaGreat
