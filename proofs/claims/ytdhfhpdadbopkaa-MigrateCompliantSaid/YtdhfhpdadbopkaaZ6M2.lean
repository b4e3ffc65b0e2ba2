/-
  Migrate: keys of markings and pairs; sets of pairs.
-/
import Derived.Test.YtdhfhpdadbopkaaZ6M1
set_option linter.all false
namespace Go.Proofs.Ytdhfhpdadbopkaa
open Go.K Go.M
abbrev Pr:Type:=ae
abbrev Stp:Type:=ag
abbrev Mp:Type:=List (ByteArray×Bool)
theorem jch{a b:Int}(ha:0≤a∧a<65536)(hb:0≤b∧b<65536)(h:by2 a=by2 b):a=b:=by
 unfold by2 at h;simp only[List.cons.injEq,and_true]at h;obtain⟨h1,h2⟩:=h;have h1:=congrArg UInt8.toNat h1;have h2:=congrArg UInt8.toNat h2;rw[UInt8.toNat_ofNat',UInt8.toNat_ofNat']at h1 h2;omega
def Low(l:List Int):Prop:=∀x∈l,0≤x∧x<65536
theorem q3r:∀{a b:List Int},Low a→Low b→qdn a=qdn b→a=b
 |[],[],_,_,_=>rfl
 |[],y::b,_,_,h=>by
  have:=congrArg List.length h;rw[qdo,qdo]at this;simp at this
 |x::a,[],_,_,h=>by
  have:=congrArg List.length h;rw[qdo,qdo]at this;simp at this
 |x::a,y::b,ha,hb,h=>by
  have h' :by2 x++qdn a=by2 y++qdn b:=h;obtain⟨h1,h2⟩:=List.append_inj h' rfl;have e1:=jch (ha x List.mem_cons_self) (hb y List.mem_cons_self) h1;have e2:=q3r (fun z hz=>ha z (List.mem_cons_of_mem _ hz)) (fun z hz=>hb z (List.mem_cons_of_mem _ hz)) h2;rw[e1,e2]
theorem jar(l:List Int)(h:l.length≤1000000):ia l=some ⟨(qdn l).toArray⟩:=if_pos h
def qhw(l:List Int):ByteArray:=⟨(qdn l).toArray⟩
theorem jaq{a b:List Int}(ha:Low a)(hb:Low b)(h:qhw a=qhw b):a=b:=by
 refine q3r ha hb ?_;have:=congrArg (fun x=>x.data.toList) h;simpa[qhw]using this
def jlx(x y:List Int):List UInt8:=qdn x++124::qdn y
def jlw(x y:List Int):ByteArray:=⟨(jlx x y).toArray⟩
theorem jay{N:Int}{m:List Int}(h:fa N m=true):Low m:=fun x hx=>by
 obtain⟨i,hi,rfl⟩:=rx 0 hx;have:=(qds.1 h).2 i hi;omega
theorem qbc{N:Int}{m:List Int}(h:fa N m=true):(m.length:Int)=N:=(qds.1 h).1
def Tab(a b:Int)(S:Mp)(f:List Int→List Int→Bool):Prop:=∀x y,fa a x=true→fa b y=true→(pe .str (jlw x y) S).getD false=f x y
def inB(l:List Pr)(x y:List Int):Bool:=l.any fun p=>decide (p.1=x)&&decide (p.2.1=y)
theorem q75(x y:List Int)(h:x.length≤1000000):bc x y=some (decide (x=y)):=q9p x y h
end Go.Proofs.Ytdhfhpdadbopkaa
