/-
  A typed machine over the model's memory (part KA). No program is named.
-/
import Derived.WalkKit
import Derived.Maps.AppendAt
import Derived.Deep.Quiet
import Derived.MapKept
import Derived.Laws.BytesArg
abbrev Wa:=@List.getD_eq_getElem?_getD
abbrev Wb:=@Option.some.injEq
abbrev Wc:=@Bool.and_eq_true
abbrev Wd:=@Option.map_some
abbrev We:=@List.mem_cons_of_mem
abbrev Wf:=@List.mem_cons_self
abbrev Wg:=@Nat.le_refl
abbrev Wh:=@List.getElem?_eq_some_iff
abbrev Wi:=@List.getElem?_eq_getElem
abbrev Wj:=@Prod.mk.injEq
abbrev Wl:=@List.getElem?_set_self
abbrev Wm:=@List.mem_singleton
abbrev Wo:=@List.getElem?_append_left
abbrev Wp:=@List.getElem?_eq_none
abbrev Wq:=@Go.run_underlying
abbrev Wr:=@List.mem_cons
abbrev Ws:=@decide_eq_true
abbrev Wu:=@List.getElem?_append_right
abbrev Wv:=@Bool.not_true
abbrev Ww:=@List.length_map
abbrev Wx:=@List.length_append
abbrev Wy:=@Go.Result.andThen_ok
abbrev Wz:=@Nat.lt_or_ge
abbrev WA:=@List.length_cons
abbrev WB:=@List.length_set
abbrev WC:=@Nat.mul_le_mul_right
abbrev WD:=@decide_eq_false
abbrev WE:=@Bool.not_eq_true'
abbrev WF:=@List.getElem?_set_ne
abbrev WG:=@List.mem_map
abbrev WH:=@decide_eq_true_eq
abbrev WI:=@List.getElem?_drop
abbrev WJ:=@Go.Sem.run_bind
abbrev WL:=@Nat.lt_of_lt_of_le
abbrev WM:=@Nat.add_mul
abbrev WN:=@Int.toNat_natCast
abbrev WO:=@Array.length_toList
abbrev WP:=@Bool.not_false
abbrev WQ:=@cond_true
abbrev WR:=@Nat.zero_add
abbrev WS:=@List.mem_append
abbrev WT:=@List.length_replicate
abbrev WU:=@Go.Sem.run_pure
abbrev WV:=@List.mem_of_getElem?
abbrev WW:=@List.take_length
abbrev WX:=@Option.getD_some
abbrev WY:=@Array.getElem?_toList
abbrev WZ:=@List.getElem?_take
abbrev W0:=@congrArg
abbrev W4:=@Array.getElem?_eq_some_iff
abbrev W5:=@Nat.beq_refl
abbrev W6:=@List.getElem?_map
abbrev W7:=@Nat.zero_le
abbrev W8:=@of_decide_eq_true
abbrev W9:=@cond_false
abbrev Ka:=@Go.MapKept.run_getObj_map
abbrev Kb:=@Nat.le_trans
abbrev Kc:=@Int.le_refl
abbrev Kd:=@List.map_cons
abbrev Ke:=@List.mem_append_right
abbrev Kf:=@List.mem_filter
abbrev Kg:=@List.length_take
abbrev Kh:=@List.mem_append_left
abbrev Ki:=@Bool.eq_iff_iff
abbrev Kj:=@Bool.or_eq_true
abbrev Kk:=@List.mem_range
abbrev Kl:=@List.Perm.refl
abbrev Km:=@Nat.add_assoc
abbrev Kn:=@Go.MapKept.run_findKey
abbrev Ko:=@Ne.symm
abbrev Kp:=@Option.some.inj
abbrev Kq:=@List.map_append
abbrev Kr:=@List.length_filter_le
abbrev Ks:=@List.length_singleton
abbrev Kt:=@List.all_eq_true
abbrev Ku:=@Array.getElem?_append_left
abbrev Kv:=@List.foldl_append
abbrev Kw:=@if_true
abbrev Kx:=@List.append_nil
abbrev Ky:=@Nat.le_of_ble_eq_true
abbrev Kz:=@Array.getD_eq_getD_getElem?
abbrev KF:=@List.getElem?_replicate
abbrev KG:=@List.length_nil
abbrev KH:=@List.map_nil
abbrev KI:=@if_false
abbrev KJ:=@List.eq_nil_of_length_eq_zero
abbrev KL:=@Go.Addr.add_lit
abbrev KM:=@Go.heap_alloc_new
abbrev KN:=@Option.map_none
abbrev KO:=@Go.Obj.cells.injEq
abbrev KP:=@Bool.false_eq_true
abbrev KQ:=@List.filter_cons_of_neg
abbrev KR:=@List.pairwise_singleton
abbrev KS:=@Bool.or_eq_false_iff
abbrev KT:=@Bool.and_self
abbrev KU:=@Nat.add_zero
abbrev KV:=@Array.getElem?_eq_none
abbrev KW:=@List.any_eq_false
abbrev KX:=@List.ext_getElem?
abbrev KY:=@List.getElem?_set
abbrev KZ:=@Classical.byContradiction
abbrev K0:=@Go.Code.wp_mono
abbrev K2:=@List.mem_of_mem_take
abbrev K3:=@List.drop_zero
abbrev K4:=@Go.MapKept.run_checkKey
abbrev K5:=@decide_eq_false_iff_not
abbrev K6:=@List.filter_cons_of_pos
abbrev K7:=@LawfulMonad.pure_bind
abbrev K8:=@Nat.zero_lt_one
abbrev K9:=@List.getD_cons_zero
abbrev Ha:=@Go.MapKept.run_setObj_map
abbrev Hb:=@List.getElem_mem
abbrev Hc:=@Array.getElem?_modify
abbrev He:=@List.drop_eq_getElem_cons
abbrev Hf:=@Array.getElem?_setIfInBounds_ne
abbrev Hg:=@List.getElem?_append
abbrev Hh:=@getElem!_pos
abbrev Hi:=@List.length_range
abbrev Hj:=@List.nodup_append
abbrev Hk:=@List.length_drop
abbrev Hl:=@Nat.lt_succ_self
abbrev Hm:=@List.map_toArray
abbrev Hn:=@Go.RowKit.Below.heap_alloc
abbrev Ho:=@Int.le_trans
abbrev Hp:=@List.filter_append
abbrev Hq:=@Bool.true_and
abbrev Hr:=@Option.bind_assoc
abbrev Ht:=@Array.getElem?_eq_getElem
abbrev Hu:=@List.cons_append
abbrev Hw:=@List.not_mem_nil
abbrev Hx:=@List.map_map
abbrev Hy:=@Option.getD_none
abbrev Hz:=@List.map_congr_left
abbrev HA:=@List.getElem?_cons_succ
abbrev HB:=@List.cons.inj
abbrev HC:=@decide_eq_true_iff
abbrev HD:=@Nat.eq_zero_or_pos
abbrev HE:=@List.append_assoc
abbrev HF:=@Array.size_append
abbrev HG:=@List.perm_cons
abbrev HH:=@List.idxOf_lt_length_of_mem
abbrev HI:=@Nat.mul_le_mul_left
abbrev HJ:=@List.getElem?_range
abbrev HK:=@List.range_succ
abbrev HM:=@List.nodup_cons
abbrev HN:=@List.filter_nil
abbrev HO:=@List.pairwise_cons
abbrev HQ:=@Nat.sub_self
abbrev HS:=@Nat.add_sub_cancel
abbrev HT:=@Nat.mul_comm
abbrev HU:=@eq_of_heq
abbrev HV:=@Go.wpList_plain
abbrev HW:=@Nat.blt_eq
abbrev HX:=@Go.RowKit.Below.refl
set_option linter.all false
namespace Go.M
def bnd{α β:Type}(m:Option α)(k:α->Option β):Option β:=match m with|some a=>k a|none=>none
theorem q3h{α β:Type}{m:Option α}{k:α->Option β}{r:β}(h:bnd m k=some r):∃a,m=some a/\k a=some r:=by
 unfold bnd at h;split at h
 ·exact⟨_,rfl,h⟩
 ·cases h
theorem jj8{α β:Type}{m:Option α}{a:α}(h:m=some a)(k:α->Option β):bnd m k=k a:=by rw[h];rfl
@[simp] theorem df{α β:Type}(a:α)(k:α->Option β):bnd (some a) k=k a:=rfl
inductive LR (S E R : Type) where
 | next (s : S)
 | done (e : E)
 | ret (r : R)
def lk{E R β:Type}(o:E⊕R)(k1:E->β)(k2:R->β):β:=match o with| .inl e=>k1 e| .inr r=>k2 r
@[simp] theorem q7m{E R β:Type}(e:E)(k1:E->β)(k2:R->β):lk (.inl e) k1 k2=k1 e:=rfl
@[simp] theorem j99{E R β:Type}(e:R)(k1:E->β)(k2:R->β):lk (.inr e) k1 k2=k2 e:=rfl
def lr{S E R:Type}(x:LR S E R)(k:S->Option (E⊕R)):Option (E⊕R):=
 match x with
 | .next s=>k s
 | .done e=>some (.inl e)
 | .ret r=>some (.inr r)
def xh{S E R:Type}(step:S->Option (LR S E R))(n:Nat):S->Option (E⊕R):=
 Nat.rec (motive:=fun _=>S->Option (E⊕R)) (fun _=>none) (fun _ ih s=>bnd (step s) fun x=>lr x ih) n
theorem ce{S E R:Type}(step:S->Option (LR S E R))(n:Nat)(s:S):xh step (n+1) s=bnd (step s) fun x=>lr x (xh step n):=rfl
def many:Nat:=36893488147419103232
def b9{S E R:Type}(step:S->Option (LR S E R))(s:S):Option (E⊕R):=xh step many s
theorem jif{S E R:Type}{step:S->Option (LR S E R)}{o:E⊕R}:∀{n m:Nat} {s:S},xh step n s=some o->n<=m->xh step m s=some o:=by
 intro n
 induction n with
 |zero=>intro m s h _;cases h
 |succ n ih=>
  intro m s h hm;obtain⟨m,rfl⟩:∃k,m=k+1:=⟨m-1,by omega⟩;rw[ce]at h⊢;obtain⟨x,hx,h⟩:=q3h h;rw[jj8 hx];cases x with
  |next s' =>exact ih h (by omega)
  |done e=>exact h
  |ret r=>exact h
theorem jyr{S E R:Type}{step:S->Option (LR S E R)}(Inv:S->Prop)(μ:S->Nat)(post:E⊕R->Prop)
  (h:∀s,Inv s->∃x,step s=some x/\match x with| .next s' =>Inv s' /\μ s' <μ s| .done e=>post (.inl e)| .ret r=>post (.inr r)):
  ∀(n:Nat) (s:S),Inv s->μ s<n->∃o,xh step n s=some o/\post o:=by
 intro n
 induction n with
 |zero=>intro s _ h;omega
 |succ n ih=>
  intro s hs hn;obtain⟨x,hx,hp⟩:=h s hs;rw[ce,jj8 hx];cases x with
  |next s' =>exact ih s' hp.1 (by omega)
  |done e=>exact⟨_,rfl,hp⟩
  |ret r=>exact⟨_,rfl,hp⟩
theorem qdc{S E R:Type}{step:S->Option (LR S E R)}(Inv:S->Prop)(μ:S->Nat)(post:E⊕R->Prop)(s:S)(hs:Inv s)(hμ:μ s<many)
 (h:∀s,Inv s->∃x,step s=some x/\match x with| .next s' =>Inv s' /\μ s' <μ s| .done e=>post (.inl e)| .ret r=>post (.inr r)):
 ∃o,b9 step s=some o/\post o:=jyr Inv μ post h many s hs hμ
theorem qrl{S E R:Type}{step:S->Option (LR S E R)}(st:Nat->S)(n:Nat)(hn:n<many)(o:E⊕R)(h:∀i,i<n->step (st i)=some (.next (st (i+1))))(hl:step (st n)=some (match o with| .inl e=> .done e| .inr r=> .ret r)):
  b9 step (st 0)=some o:=by
 have key:∀k i,i+k=n->xh step (k+1) (st i)=some o:=by
  intro k
  induction k with
  |zero=>
   intro i hi;obtain rfl:i=n:=by omega
   rw[ce,jj8 hl];cases o<;>rfl
  |succ k ih=>
   intro i hi;rw[ce,jj8 (h i (by omega))];exact ih (i+1) (by omega)
 exact jif (key n 0 (by omega)) (by omega)
theorem jdx{S E R:Type}{step:S->Option (LR S E R)}(st:Nat->S)(n:Nat)(hn:n<many)(x:LR S E R)(o:E⊕R)(ho:lr x (fun _=>none)=some o)(h:∀i,i<n->step (st i)=some (.next (st (i+1))))(hl:step (st n)=some x):
  b9 step (st 0)=some o:=by
 refine qrl st n hn o h ?_;rw[hl];cases x with
 |next s=>cases ho
 |done e=>cases ho;rfl
 |ret r=>cases ho;rfl
end Go.M
namespace Go.K
open Go.M
inductive TK where
 | int (k : IntKind)
 | bool
 | slice (e : TypeId)
 | arr (c : Bool) (n : Nat) (e : TypeId)
 | strct (c : Bool) (fs : List (Nat × TypeId))
 | str
 | map (k e : TypeId)
 | ptr (e : TypeId)
 | other
structure TI where
 k : TK
 sz : Nat
 bytes : Nat
 zero : List Value
abbrev TT:=TypeId->Option TI
def TK.of:TypeDesc->TK
 | .int k=> .int k
 | .bool=> .bool
 | .string=> .str
 | .slice e=> .slice e
 | .array n e=> .arr false n e
 | .map k e=> .map k e
 | .pointer e=> .ptr e
 | .struct fs=> .strct false (fs.toList.map fun f=>(f.offset,f.type))
 |_=> .other
def TK.plain:TK->TK
 | .strct _ fs=> .strct false fs
 | .arr _ n e=> .arr false n e
 |k=>k
def TK.one:TK->Bool
 | .int _| .bool| .str| .slice _=>true
 |_=>false
def TK.cmp:TK->Bool
 | .strct c _=>c
 | .arr c _ _=>c
 |_=>false
def TK.agg:TK->Bool
 | .arr _ _ _| .strct _ _=>true
 |_=>false
structure Cmp (P : Program) (t : TypeId) : Prop where
 stood : P.stoodInHeld t = false
 guard : P.eqGuardType P.depth t = false
 names : (P.fieldsOf t).toList.all (fun f => f.name != "_") = true
def ao(P:Program)(t:TypeId)(x:TI):Prop:=
 (∃i d z,P.info? t=some i/\P.underlying t=some d/\TK.of d=x.k.plain/\i.size=x.sz/\i.bytes=x.bytes/\i.zero=some z/\z.cells.toList=x.zero)/\(x.k.cmp=true->Cmp P t)/\(x.k.one=true->∃i z,P.info? t=some i/\i.zero=some z/\x.zero=[z])
def dq(P:Program)(tt:TT):Prop:=∀t x,tt t=some x->ao P t x
structure Tre (α : Type) where
 a : α
 ks : List (Tre α)
mutual
inductive Ty where
 | int (k : IntKind)
 | bool
 | str
 | slice (t : Ty)
 | struct (l : TyL)
 | tree (l m : TyL)
inductive TyL where
 | nil
 | cons (t : Ty) (l : TyL)
end
mutual
def Ty.den:Ty->Type
 | .int _=>Int
 | .bool=>Bool
 | .str=>ByteArray
 | .slice t=>List t.den
 | .struct l=>l.den
 | .tree l m=>Tre (l.den×m.den)
def TyL.den:TyL->Type
 | .nil=>Unit
 | .cons t l=>t.den×l.den
end
mutual
def Ty.dft:(t:Ty)->t.den
 | .int _=>(0:Int)
 | .bool=>false
 | .str=>(⟨#[]⟩:ByteArray)
 | .slice t=>([]:List t.den)
 | .struct l=>l.dft
 | .tree l m=>(⟨(l.dft,m.dft),[]⟩:Tre (l.den×m.den))
def TyL.dft:(l:TyL)->l.den
 | .nil=>()
 | .cons t l=>(t.dft,l.dft)
end
mutual
def Ty.sz:Ty->Nat
 | .int _=>1
 | .bool=>1
 | .str=>1
 | .slice _=>1
 | .struct l=>l.sz
 | .tree l m=>l.sz+(m.sz+1)
def TyL.sz:TyL->Nat
 | .nil=>0
 | .cons t l=>t.sz+l.sz
end
mutual
def Ty.flat:Ty->Bool
 | .int _=>true
 | .bool=>true
 | .str=>true
 | .slice _=>false
 | .struct l=>l.flat
 | .tree _ _=>false
def TyL.flat:TyL->Bool
 | .nil=>true
 | .cons t l=>t.flat&&l.flat
end
inductive TG where
 | o (t : Nat)
 | r (t i f : Nat)
 deriving DecidableEq
inductive TV where
 | any
 | int (k : IntKind) (n : Int)
 | bool (b : Bool)
 | val (v : Value)
 | e0
 | sl (fr : Bool) (t : Ty) (xs : List t.den)
 | rptr (fr : Bool) (t : Ty) (xs : List t.den) (i : Int) (f : Nat)
 | own (T : TG)
 | ownS (T : TG) (off n : Nat)
 | ptr (T : TG) (i : Int) (f : Nat)
 | mp (T : TG)
 | dm (fr : Bool) (kt vt : Ty) (es : List (kt.den × vt.den))
 | fn (f : FuncId) (caps : List TV)
 | agg (cs : List TV)
 | tup (cs : List TV)
 | cond (c : Bool) (a : TV)
 | nl (b : Option Bool) (a : TV)
mutual
def Ty.cells(fr:Bool):(t:Ty)->t.den->List TV
 | .int k,n=>[.int k n]
 | .bool,b=>[.bool b]
 | .str,s=>[.val (.string s)]
 | .slice t,xs=>[.sl fr t xs]
 | .struct l,x=>l.cells fr x
 | .tree l m,x=>l.cells fr (Tre.a (α:=l.den×m.den) x).1++ .sl fr (.tree l m) (Tre.ks (α:=l.den×m.den) x)::m.cells fr (Tre.a (α:=l.den×m.den) x).2
def TyL.cells(fr:Bool):(l:TyL)->l.den->List TV
 | .nil,_=>[]
 | .cons t l,x=>t.cells fr x.1++l.cells fr x.2
end
mutual
def Ty.eq? :(a b:Ty)->Option (PLift (a=b))
 | .int k, .int k' =>if h:k=k' then some ⟨W0 Ty.int h⟩else none
 | .bool, .bool=>some ⟨rfl⟩
 | .str, .str=>some ⟨rfl⟩
 | .slice a, .slice b=>match a.eq? b with|some ⟨h⟩=>some ⟨W0 Ty.slice h⟩|none=>none
 | .struct a, .struct b=>match a.eq? b with|some ⟨h⟩=>some ⟨W0 Ty.struct h⟩|none=>none
 | .tree a a', .tree b b' =>
  match a.eq? b with
  |some ⟨h⟩=>match a'.eq? b' with|some ⟨h'⟩=>some ⟨by rw[h,h']⟩|none=>none
  |none=>none
 |_,_=>none
def TyL.eq? :(a b:TyL)->Option (PLift (a=b))
 | .nil, .nil=>some ⟨rfl⟩
 | .cons a l, .cons b m=>
  match a.eq? b with
  |some ⟨h⟩=>match l.eq? m with|some ⟨h'⟩=>some ⟨by rw[h,h']⟩|none=>none
  |none=>none
 |_,_=>none
end
def qc5{t u:Ty}(h:t=u)(xs:List t.den):List u.den:=h▸xs
def jit(t:Ty):List TV->Option (List t.den×Bool×List TV)
 | .sl fr t' xs::r=>match Ty.eq? t' t with|some ⟨h⟩=>some (qc5 h xs,fr,r)|none=>none
 | .val (.slice none 0 0)::r=>some ([],true,r)
 | .e0::r=>some ([],true,r)
 |_=>none
mutual
def Ty.pack:(t:Ty)->List TV->Option (t.den×Bool×List TV)
 | .int k,cs=>match cs with| .int k' n::r=>if k=k' then some ((n:Int),true,r)else none|_=>none
 | .bool,cs=>match cs with| .bool b::r=>some (b,true,r)|_=>none
 | .str,cs=>match cs with| .val (.string s)::r=>some (s,true,r)|_=>none
 | .slice t,cs=>jit t cs
 | .struct l,cs=>l.pack cs
 | .tree l m,cs=>
  match l.pack cs with
  |some (x,f,r)=>
   match jit (.tree l m) r with
   |some (y,g,r')=>match m.pack r' with|some (z,h,r2)=>some ((⟨(x,z),y⟩:Tre (l.den×m.den)),f&&(g&&h),r2)|none=>none
   |none=>none
  |none=>none
def TyL.pack:(l:TyL)->List TV->Option (l.den×Bool×List TV)
 | .nil,cs=>some ((),true,cs)
 | .cons t l,cs=>
  match t.pack cs with
  |some (x,f,r)=>match l.pack r with|some (y,g,r')=>some ((x,y),f&&g,r')|none=>none
  |none=>none
end
def Ty.pack1(t:Ty)(cs:List TV):Option (t.den×Bool):=
 match t.pack cs with
 |some (x,f,[])=>some (x,f)
 |_=>none
def Ty.packN(t:Ty):Nat->List TV->Option (List t.den×Bool)
 |0,[]=>some ([],true)
 |0,_=>none
 |n+1,cs=>
  match t.pack cs with
  |some (x,f,r)=>match t.packN n r with|some (xs,g)=>some (x::xs,f&&g)|none=>none
  |none=>none
inductive Md where
 | fz (fr : Bool)
 | own
 | hole (i f : Nat)
 | swap (i j : Nat)
inductive TOb where
 | arr (ty : TypeId) (md : Md) (its : List TypeId) (t : Ty) (xs : List t.den)
 | cs (ty : TypeId) (sz n : Nat) (cs : List TV)
 | mp (kt vt : Ty) (es : List (kt.den × vt.den))
 | mo (kt u : Ty) (ety : TypeId) (es : List (kt.den × List u.den)) (h : Option Nat)
 | gone
structure TS where
 S : List (Nat × TV)
 H : List TOb
def bu:List (Nat×TV)->Nat->TV
 |[],_=> .any
 |(a,v)::r,t=>bif Nat.beq a t then v else bu r t
def TS.put(s:TS)(d:Option Tmp)(v:TV):TS:=
 match d with
 |some d=>⟨(d,v)::s.S,s.H⟩
 |none=>s
def ofV:Value->TV
 | .int k n=> .int k n
 | .bool b=> .bool b
 |v=> .val v
def rd(N:Nat)(S:List (Nat×TV))(t:Nat):TV:=bif Nat.blt t N then bu S t else .any
def qcw:Nat:=1000000
def qc2:Nat:=2000000
def mtG:TypeId->String->Option (FuncId×Option TypeId)
 |152, "Len" =>some (89,some 156)
 |152, "Less" =>some (325,some 156)
 |152, "Swap" =>some (328,some 156)
 |152, "Pop" =>some (326,none)
 |152, "Push" =>some (327,none)
 |_,_=>none
def evT(N:Nat)(S:List (Nat×TV)):Operand->TV
 | .tmp t=>rd N S t
 | .const v=>ofV v
 | .func f=>bif Nat.blt f qcw then .fn f []else .any
 | .global _=> .any
def TV.gt:TV->TV
 | .cond _ a=>a.gt
 | .nl _ a=>a.gt
 |a=>a
def TV.nd:TV->List Bool
 | .cond c a=>c::a.nd
 | .nl _ a=>a.nd
 |_=>[]
def TV.st:TV->TV
 | .nl _ a=>a
 |a=>a
def al{α:Type}(c:Bool)(m:Option α):Option α:=bif c then m else none
def ckL{α:Type}:List Bool->Option α->Option α
 |[],m=>m
 |c::l,m=>al c (ckL l m)
def jdt(t i:Nat):Nat->List TV->List TV
 |_,[]=>[]
 |f, .sl _ _ _::l=> .own (.r t i f)::jdt t i (f+1) l
 |f,v::l=>v::jdt t i (f+1) l
def elC(t:Nat)(md:Md)(u:Ty)(x:u.den)(i:Nat):Option (List TV):=
 match md with
 | .fz fr=>some (u.cells fr x)
 | .own=>some (jdt t i 0 (u.cells true x))
 |_=>none
def Md.isOwn:Md->Bool
 | .fz _=>false
 |_=>true
def ek(u:Ty)(x:u.den)(f:Nat):Option ((v:Ty)×List v.den):=
 match(u.cells true x).getD f .any with
 | .sl _ v ys=>some ⟨v,ys⟩
 |_=>none
def jhl(H:List TOb):TG->Option (Bool×(v:Ty)×List v.den)
 | .o t=>
  match H[t]? with
  |some (.arr _ (.fz fr) _ u xs)=>some (fr||u.flat,⟨u,xs⟩)
  |_=>none
 | .r t i f=>
  match H[t]? with
  |some (.arr _ md _ u xs)=>
   bif md.isOwn then
    match ek u (xs.getD i u.dft) f with
    |some y=>some (true,y)
    |none=>none
   else none
  |_=>none
def Ty.v1:(t:Ty)->t.den->Value
 | .int k,n=> .int k n
 | .bool,b=> .bool b
 | .str,s=> .string s
 | .slice _,_=>undef
 | .struct _,_=>undef
 | .tree _ _,_=>undef
def Ty.one:Ty->Bool
 | .int _=>true
 | .bool=>true
 | .str=>true
 |_=>false
def tk1:TK->Ty->Bool
 | .int k, .int k' =>decide (k=k')
 | .bool, .bool=>true
 | .str, .str=>true
 |_,_=>false
def z1:Ty->List Value->Bool
 | .int k,[.int k' n]=>decide (k=k')&&decide (n=0)
 | .bool,[.bool b]=> !b
 | .str,[.string ⟨⟨[]⟩⟩]=>true
 |_,_=>false
def jkv:(t:Ty)->TV->Option t.den
 | .int k, .int k' n=>if k=k' then some (show Int from n)else none
 | .bool, .bool b=>some (show Bool from b)
 | .str, .val (.string s)=>some (show ByteArray from s)
 |_,_=>none
def jzm:(t:Ty)->t.den->TV
 | .int k,n=> .int k n
 | .bool,b=> .bool b
 | .str,s=> .val (.string s)
 | .slice _,_=> .any
 | .struct _,_=> .any
 | .tree _ _,_=> .any
def qsv(a b:Int):Bool:=a==b
def j69(a b:Bool):Bool:=a==b
def qay(a b:ByteArray):Bool:=a==b
def Ty.keyEq:(t:Ty)->t.den->t.den->Bool
 | .int _,a,b=>qsv a b
 | .bool,a,b=>j69 a b
 | .str,a,b=>qay a b
 | .slice _,_,_=>false
 | .struct _,_,_=>false
 | .tree _ _,_,_=>false
def bz(t:Ty){β:Type}(k:t.den):List (t.den×β)->Option β
 |[]=>none
 |e::l=>bif t.keyEq k e.1 then some e.2 else bz t k l
def qdf(t:Ty){β:Type}(k:t.den)(x:β):List (t.den×β)->List (t.den×β)
 |[]=>[(k,x)]
 |e::l=>bif t.keyEq k e.1 then(k,x)::l else e::qdf t k x l
def mIx(t:Ty){β:Type}(k:t.den):List (t.den×β)->Nat->Option Nat
 |[],_=>none
 |e::l,i=>bif t.keyEq k e.1 then some i else mIx t k l (i+1)
def quc{α β:Type}(es:List (α×β))(i:Nat)(x:β):List (α×β):=match es[i]? with|some e=>es.set i (e.1,x)|none=>es
def qeh{α β:Type}(es:List (α×List β))(i:Nat):List β:=match es[i]? with|some e=>e.2|none=>[]
def jk3(t:Ty){β:Type}(k:t.den):List (t.den×β)->List (t.den×β)
 |[]=>[]
 |e::l=>bif t.keyEq k e.1 then l else e::jk3 t k l
def jky(H:List TOb):TG->Option (Nat×Nat)
 | .o t=>
  match H[t]? with
  |some (.arr _ _ _ u xs)=>some (xs.length,u.sz)
  |some (.cs _ sz n _)=>some (n,sz)
  |_=>none
 | .r t i f=>
  match H[t]? with
  |some (.arr _ md _ u xs)=>
   bif md.isOwn then
    match ek u (xs.getD i u.dft) f with
    |some ⟨v,ys⟩=>some (ys.length,v.sz)
    |none=>none
   else none
  |_=>none
end Go.K
namespace Go.K
open Go.M
def leI:Int->Int->Bool
 | .ofNat a, .ofNat b=>Nat.ble a b
 | .negSucc _, .ofNat _=>true
 | .ofNat _, .negSucc _=>false
 | .negSucc a, .negSucc b=>Nat.ble b a
theorem js1{a b:Int}:leI a b=true↔a<=b:=by
 cases a<;>cases b<;>simp only[leI,Nat.ble_eq]<;>first|omega|(simp;done)|(simp;omega)
def dg:IntKind->Int->Bool
 | .i8,n=>leI (-128) n&&leI n 127
 | .i16,n=>leI (-32768) n&&leI n 32767
 | .i32,n=>leI (-2147483648) n&&leI n 2147483647
 | .i64,n=>leI (-9223372036854775808) n&&leI n 9223372036854775807
 | .u8,n=>leI (0) n&&leI n 255
 | .u16,n=>leI (0) n&&leI n 65535
 | .u32,n=>leI (0) n&&leI n 4294967295
 | .u64,n=>leI (0) n&&leI n 18446744073709551615
def ix(i:Int)(n:Nat):Bool:=decide (0<=i)&&decide (i<(n:Int))
def cut(l h:Int)(n:Nat):Bool:=decide (0<=l)&&decide (l<=h)&&decide (h<=(n:Int))
def room(n bytes:Nat):Bool:=decide (n<=9223372036854775807)&&decide (n*bytes<=140737488355328)
def qub(l c:Int)(bytes:Nat):Bool:=decide (0<=l)&&decide (l<=c)&&decide ((bytes:Int)*c<=281474976710656)&&decide (c<=9223372036854775807)
def arI(wr:Bool)(k:IntKind)(n:Int):Option (List Bool×TV):=
 bif wr|| !k.signed then some ([], .int k (k.wrap n))else some ([dg k n], .int k n)
def jaq(op:BinOp)(k:IntKind)(a b:Int):Int:=
 match op with
 | .and=>k.wrap (BitVec.ofInt k.bits a&&&BitVec.ofInt k.bits b).toNat
 | .or=>k.wrap (BitVec.ofInt k.bits a|||BitVec.ofInt k.bits b).toNat
 | .xor=>k.wrap (BitVec.ofInt k.bits a ^^^ BitVec.ofInt k.bits b).toNat
 |_=>k.wrap (BitVec.ofInt k.bits a&&& ~~~ BitVec.ofInt k.bits b).toNat
def zfd(k:IntKind)(a b:Int):Int:=k.wrap (a*2 ^ min b.toNat k.bits)
def q8s(k:IntKind)(a b:Int):Int:=a.fdiv (2 ^ min b.toNat k.bits)
def jxe(wr:Bool)(op:BinOp)(k:IntKind)(a b:Int):Option (List Bool×TV):=
 match op with
 | .add=>arI wr k (a+b)
 | .sub=>arI wr k (a-b)
 | .mul=>arI wr k (a*b)
 | .quo=>match arI wr k (a.tdiv b)with|some (l,v)=>some ((!decide (b=0))::l,v)|none=>none
 | .rem=>some ([!decide (b=0)], .int k (a.tmod b))
 | .and=>some ([], .int k (jaq .and k a b))
 | .or=>some ([], .int k (jaq .or k a b))
 | .xor=>some ([], .int k (jaq .xor k a b))
 | .andNot=>some ([], .int k (jaq .andNot k a b))
 | .eql=>some ([], .bool (decide (a=b)))
 | .neq=>some ([], .bool (!decide (a=b)))
 | .lss=>some ([], .bool (decide (a<b)))
 | .leq=>some ([], .bool (decide (a<=b)))
 | .gtr=>some ([], .bool (decide (b<a)))
 | .geq=>some ([], .bool (decide (b<=a)))
 |_=>none
def shT(op:BinOp)(k:IntKind)(a b:Int):Option (List Bool×TV):=
 match op with
 | .shl=>some ([decide (0<=b)], .int k (zfd k a b))
 | .shr=>some ([decide (0<=b)], .int k (q8s k a b))
 |_=>none
def zat(op:BinOp)(a b:ByteArray):Option (List Bool×TV):=
 match op with
 | .add=>some ([decide (((a.size+b.size:Nat):Int)<=9223372036854775807)], .val (.string (a++b)))
 | .eql=>some ([], .bool (a.toList==b.toList))
 | .neq=>some ([], .bool (!(a.toList==b.toList)))
 | .lss=>some ([], .bool (Op.bytesLess a.toList b.toList))
 | .leq=>some ([], .bool (Op.bytesLess a.toList b.toList||a.toList==b.toList))
 | .gtr=>some ([], .bool (!(Op.bytesLess a.toList b.toList||a.toList==b.toList)))
 | .geq=>some ([], .bool (!(Op.bytesLess a.toList b.toList)))
 |_=>none
def eqT(tt:TT)(cs cs' :List TV):List (Nat×TypeId)->Option Bool
 |[]=>some true
 |(o,t)::l=>
  match eqT tt cs cs' l with
  |some r=>
   match tt t,cs.getD o .any,cs'.getD o .any with
   |some ⟨.int _,_,_,_⟩, .int k a, .int k' b=>if k=k' then some (decide (a=b)&&r)else none
   |some ⟨.bool,_,_,_⟩, .bool a, .bool b=>some ((a==b)&&r)
   |some ⟨.str,_,_,_⟩, .val (.string a), .val (.string b)=>some ((a.toList==b.toList)&&r)
   |_,_,_=>none
  |none=>none
def q9e(sz:Nat)(el:TypeId):Nat->Nat->List (Nat×TypeId)
 |_,0=>[]
 |i,n+1=>(i*sz,el)::q9e sz el (i+1) n
def qf0(k:Nat):List (Nat×TypeId)->Bool
 |[]=>true
 |(o,_)::l=>Nat.blt o k&&qf0 k l
def eqF(tt:TT)(op:BinOp)(cs cs' :List TV)(fs:List (Nat×TypeId)):Option (List Bool×TV):=
 match eqT tt cs cs' fs with
 |some r=>
  match op with
  | .eql=>bif qf0 cs.length fs&&qf0 cs'.length fs then some ([], .bool r)else none
  | .neq=>bif qf0 cs.length fs&&qf0 cs'.length fs then some ([], .bool (!r))else none
  |_=>none
 |none=>none
def j68(wr:Bool)(tt:TT)(op:BinOp)(t:TypeId)(x y:TV):Option (List Bool×TV):=
 match x,y with
 | .int k a, .int k' b=>
  match op with
  | .shl=>shT .shl k a b
  | .shr=>shT .shr k a b
  |op=>if k=k' then jxe wr op k a b else none
 | .bool a, .bool b=>
  match tt t,op with
  |some ⟨.bool,_,_,_⟩, .eql=>some ([], .bool (a==b))
  |some ⟨.bool,_,_,_⟩, .neq=>some ([], .bool (!(a==b)))
  |_,_=>none
 | .val (.string a), .val (.string b)=>match tt t with|some ⟨.str,_,_,_⟩=>zat op a b|_=>none
 | .agg cs, .agg cs' =>
  match tt t with
  |some ⟨.strct true fs,_,_,_⟩=>eqF tt op cs cs' fs
  |some ⟨.arr true n el,_,_,_⟩=>match tt el with|some ei=>eqF tt op cs cs' (q9e ei.sz el 0 n)|none=>none
  |_=>none
 |_,_=>none
def unT(wr:Bool)(op:UnOp)(x:TV):Option (List Bool×TV):=
 match op,x with
 | .not, .bool b=>some ([], .bool (!b))
 | .neg, .int k n=>arI wr k (0-n)
 |_,_=>none
def jxr(wr:Bool)(tt:TT)(src dst:TypeId)(x:TV):Option (List Bool×TV):=
 match x,tt src,tt dst with
 | .int _ n,some ⟨.int _,_,_,_⟩,some ⟨.int k,_,_,_⟩=>arI wr k n
 |_,_,_=>none
def u8s:(u:Ty)->List u.den->Option (List Int)
 | .int .u8,xs=>some xs
 |_,_=>none
def jxf(tt:TT)(H:List TOb)(src dst:TypeId)(x:TV):Option (List Bool×TV):=
 match tt src,tt dst with
 |some ⟨.slice el,_,_,_⟩,some ⟨.str,_,_,_⟩=>
  match tt el with
  |some ⟨.int .u8,_,_,_⟩=>
   match x with
   | .sl _ u xs=>match u8s u xs with|some ys=>some ([], .val (.string (strOfNums ys)))|none=>none
   | .own (.o tg)=>
    match H[tg]? with
    |some (.arr _ (.fz _) _ u xs)=>match u8s u xs with|some ys=>some ([], .val (.string (strOfNums ys)))|none=>none
    |_=>none
   | .val (.slice none 0 0)=>some ([], .val (.string (strOfNums [])))
   |_=>none
  |_=>none
 |_,_=>none
def j7g(wr:Bool)(tt:TT)(H:List TOb)(src dst:TypeId)(x:TV):Option (List Bool×TV):=
 match jxr wr tt src dst x with
 |some r=>some r
 |none=>jxf tt H src dst x
def qz3(ti:TI)(cs:List TV)(f:Nat):Option TV:=
 match ti.k.agg with
 |true=>bif Nat.ble (f+ti.sz) cs.length then some (.agg ((cs.drop f).take ti.sz))else none
 |false=>bif Nat.blt f cs.length then some (cs.getD f .any)else none
def zbj(sz n:Nat)(cs:List TV)(i:Nat):Option (List TV):=
 bif Nat.blt i n&&Nat.beq cs.length (n*sz)then some ((cs.drop (i*sz)).take sz)else none
def jdv(tt:TT)(H:List TOb)(t:TypeId)(x:TV):Option (List Bool×TV):=
 match tt t with
 |none=>none
 |some ti=>
  match x with
  | .ptr (.o tg) i f=>
   match H[tg]? with
   |some (.arr _ md _ u xs)=>
    match elC tg md u (xs.getD i.toNat u.dft) i.toNat with
    |some cs=>match qz3 ti cs f with|some v=>some ([ix i xs.length],v)|none=>none
    |none=>none
   |some (.cs _ sz n cs)=>
    match i with
    | .ofNat i' =>match zbj sz n cs i' with|some l=>(match qz3 ti l f with|some v=>some ([],v)|none=>none)|none=>none
    |_=>none
   |_=>none
  | .ptr (.r tg i0 f0) i f=>
   match jhl H (.r tg i0 f0)with
   |some (fr,⟨u,ys⟩)=>match qz3 ti (u.cells fr (ys.getD i.toNat u.dft)) f with|some v=>some ([ix i ys.length],v)|none=>none
   |none=>none
  | .rptr fr u xs i f=>match qz3 ti (u.cells fr (xs.getD i.toNat u.dft)) f with|some v=>some ([ix i xs.length],v)|none=>none
  |_=>none
def jqj(tt:TT)(s:TypeId)(x:TV)(f:Nat):Option (List Bool×TV):=
 match tt s with
 |some ⟨.strct _ fs,_,_,_⟩=>
  match fs[f]? with
  |some (off,ft)=>
   match tt ft with
   |some fi=>
    match x with
    | .ptr t i f0=>bif Nat.beq fi.sz 0 then none else some ([], .ptr t i (f0+off))
    | .rptr fr u xs i f0=>bif Nat.beq fi.sz 0 then none else some ([], .rptr fr u xs i (f0+off))
    |_=>none
   |none=>none
  |none=>none
 |_=>none
def jqk(tt:TT)(s:TypeId)(x:TV)(f:Nat):Option (List Bool×TV):=
 match tt s with
 |some ⟨.strct _ fs,_,_,_⟩=>
  match fs[f]? with
  |some (off,ft)=>
   match tt ft,x with
   |some fi, .agg cs=>match qz3 fi cs off with|some v=>some ([],v)|none=>none
   |_,_=>none
  |none=>none
 |_=>none
def jqo(tt:TT)(H:List TOb)(t:TypeId)(x y:TV):Option (List Bool×TV):=
 match tt t with
 |some ⟨.slice el,_,_,_⟩=>
  match tt el with
  |some ei=>
   match x,y with
   | .sl fr u xs, .int _ i=>bif Nat.beq ei.sz u.sz then some ([ix i xs.length], .rptr fr u xs i 0)else none
   | .own T, .int _ i=>
    match jky H T with
    |some (n,sz)=>bif Nat.beq ei.sz sz then some ([ix i n], .ptr T i 0)else none
    |none=>none
   | .ownS T off m, .int _ i=>
    match jky H T with
    |some (_,sz)=>bif Nat.beq ei.sz sz then some ([ix i m,decide (0<=i)], .ptr T (off+i) 0)else none
    |none=>none
   |_,_=>none
  |none=>none
 |some ⟨.arr _ len el,_,_,_⟩=>
  match tt el with
  |some ei=>
   match x,y with
   | .ptr T i0 f0, .int _ (.ofNat i)=>bif Nat.blt i len then some ([], .ptr T i0 (f0+i*ei.sz))else none
   | .rptr fr u xs i0 f0, .int _ (.ofNat i)=>bif Nat.blt i len then some ([], .rptr fr u xs i0 (f0+i*ei.sz))else none
   |_,_=>none
  |none=>none
 |_=>none
def jqp(tt:TT)(t:TypeId)(x y:TV):Option (List Bool×TV):=
 match tt t with
 |some ⟨.arr _ len el,_,_,_⟩=>
  match tt el,x,y with
  |some ei, .agg cs, .int _ (.ofNat i)=>bif Nat.blt i len then(match qz3 ei cs (i*ei.sz)with|some v=>some ([],v)|none=>none)else none
  |_,_,_=>none
 |some ⟨.str,_,_,_⟩=>
  match x,y with
  | .val (.string s), .int _ i=>some ([ix i s.size], .int .u8 (s.data.getD i.toNat 0).toNat)
  |_,_=>none
 |_=>none
def jq8:Option TV->Option (Option Int)
 |none=>some none
 |some (.int _ i)=>some (some i)
 |some _=>none
def jrk(tt:TT)(H:List TOb)(t:TypeId)(x:TV)(lo hi:Option TV):Option (List Bool×TV):=
 match tt t with
 |some ⟨.slice el,_,_,_⟩=>
  match tt el,jq8 lo,jq8 hi with
  |some ei,some l,some h=>
   match x with
   | .sl fr u xs=>
    bif Nat.beq ei.sz u.sz then
     match l,h with
     |none,none=>some ([], .sl fr u xs)
     |none,some h=>some ([cut 0 h xs.length], .sl fr u (xs.take h.toNat))
     |some l,none=>some ([cut l xs.length xs.length], .sl fr u (xs.drop l.toNat))
     |some l,some h=>some ([cut l h xs.length], .sl fr u ((xs.take h.toNat).drop l.toNat))
    else none
   | .own T=>
    match jky H T with
    |some (n,sz)=>bif Nat.beq ei.sz sz then some ([cut (l.getD 0) (h.getD n) n], .ownS T (l.getD 0).toNat ((h.getD n).toNat-(l.getD 0).toNat))else none
    |none=>none
   | .ownS T off n=>
    match jky H T with
    |some (_,sz)=>bif Nat.beq ei.sz sz then some ([cut (l.getD 0) (h.getD n) n], .ownS T (off+(l.getD 0).toNat) ((h.getD n).toNat-(l.getD 0).toNat))else none
    |none=>none
   | .val (.slice none 0 0)=>some ([cut (l.getD 0) (h.getD 0) 0], .val (.slice none 0 0))
   |_=>none
  |_,_,_=>none
 |some ⟨.str,_,_,_⟩=>
  match x,jq8 lo,jq8 hi with
  | .val (.string s),some l,some h=>some ([cut (l.getD 0) (h.getD s.size) s.size], .val (.string (s.extract (l.getD 0).toNat (h.getD s.size).toNat)))
  |_,_,_=>none
 |_=>none
def jvl(tt:TT)(H:List TOb)(t:TypeId)(x:TV):Option (List Bool×TV):=
 match tt t with
 |some ⟨.slice _,_,_,_⟩=>
  match x with
  | .sl _ _ xs=>some ([], .int .i64 xs.length)
  | .own T=>match jky H T with|some (n,_)=>some ([], .int .i64 n)|none=>none
  | .ownS _ _ n=>some ([], .int .i64 n)
  | .val (.slice none 0 0)=>some ([], .int .i64 0)
  | .e0=>some ([], .int .i64 0)
  |_=>none
 |some ⟨.arr _ n _,_,_,_⟩=>some ([], .int .i64 n)
 |some ⟨.str,_,_,_⟩=>match x with| .val (.string s)=>some ([], .int .i64 s.size)|_=>none
 |_=>none
def jvt:List Value->Bool
 |[.slice none 0 0]=>true
 |_=>false
def oj(u:Ty)(o:Option (List u.den)):List u.den:=match o with|some x=>x|none=>[]
def jy8(tt:TT)(H:List TOb)(t:TypeId)(ok:Bool)(m k:TV):Option (List Bool×TV):=
 match tt t with
 |some ⟨.map kt et,_,_,_⟩=>
  match tt kt,tt et,m with
  |some ki,some ei, .mp (.o tg)=>
   match H[tg]? with
   |some (.mp ku vu es)=>
    match jkv ku k with
    |some key=>
     bif tk1 ki.k ku&&ei.k.one&&z1 vu ei.zero then
      some ([],bif ok then .tup [jzm vu ((bz ku key es).getD vu.dft), .bool (bz ku key es).isSome]else jzm vu ((bz ku key es).getD vu.dft))
     else none
    |none=>none
   |_=>none
  |some ki,some ei, .dm fr ku (.slice u) es=>
   match jkv ku k with
   |some key=>
    bif tk1 ki.k ku&&ei.k.one&&jvt ei.zero&& !ok then some ([], .sl fr u (oj u ((bz ku key es))))else none
   |none=>none
  |_,_,_=>none
 |_=>none
def j4m(H:List TOb)(x:TV):Option (List Bool×TV):=
 match x with
 | .mp (.o tg)=>match H[tg]? with|some (.mp _ _ es)=>some ([], .int .i64 es.length)|_=>none
 |_=>none
def j95(tt:TT)(H:List TOb)(t:TypeId)(x:TV):Option (List Bool×TV):=
 match tt t with
 |some ⟨.map _ _,_,_,_⟩=>j4m H x
 |_=>jvl tt H t x
def nnX(H:List TOb):TV->Option Bool
 | .sl _ _ xs=>some (Nat.blt 0 xs.length)
 | .own T=>match jky H T with|some (n,_)=>some (Nat.blt 0 n)|none=>none
 |_=>none
def zad(tt:TT)(H:List TOb)(op:BinOp)(t:TypeId)(x:TV):Option (List Bool×TV):=
 match tt t with
 |some ⟨.slice _,_,_,_⟩=>
  match x with
  | .val (.slice none 0 0)=>match op with| .eql=>some ([], .bool true)| .neq=>some ([], .bool false)|_=>none
  |x=>match nnX H x with
   |some c=>match op with| .eql=>some ([c], .bool false)| .neq=>some ([c], .bool true)|_=>none
   |none=>none
 |_=>none
def j1o(wr:Bool)(tt:TT)(H:List TOb)(op:BinOp)(t:TypeId)(x y:TV):Option (List Bool×TV):=
 match y with
 | .val (.slice none 0 0)=>zad tt H op t x
 |y=>j68 wr tt op t x y
def nlC(b:Option Bool)(n:Int):Bool:=match b with|none=> !decide (n=0)|some _=>true
def nlV(b:Option Bool)(n:Int):Bool:=match b with|some false=>decide (n=0)|_=>false
def nlT(b:Option Bool)(tt:TT)(H:List TOb)(op:BinOp)(t:TypeId)(x:TV):Option (List Bool×TV):=
 match tt t with
 |some ⟨.slice _,_,_,_⟩=>
  match jvl tt H t x with
  |some (cs, .int _ n)=>match op with| .eql=>some (nlC b n::cs, .bool (nlV b n))| .neq=>some (nlC b n::cs, .bool (!nlV b n))|_=>none
  |_=>none
 |_=>none
def TV.isNl:TV->Bool
 | .nl (some false) _=>true
 | .val (.slice none 0 0)=>true
 |_=>false
def TV.isNl' :TV->Bool
 | .nl _ _=>true
 |_=>false
def TV.nlB:TV->Option Bool
 | .nl b _=>b
 | .val (.slice none 0 0)=>some false
 |_=>none
def TV.isT:TV->Bool
 | .nl (some true) _=>true
 |_=>false
def TV.isN(b:Bool)(v:TV):Bool:=bif b then v.isT else v.isNl
def j67(wr:Bool)(tt:TT)(H:List TOb)(op:BinOp)(t:TypeId)(X y:TV):Option (List Bool×TV):=
 bif X.isNl' then
  match y with
  | .val (.slice none 0 0)=>nlT X.nlB tt H op t X.gt
  |y=>j1o wr tt H op t X.gt y
 else j1o wr tt H op t X.gt y
def jzo(g:Bool):TV->TV->TV
 | .bool x, .bool y=> .bool (bif g then x else y)
 | .int k x, .int k' y=>if k=k' then .int k (bif g then x else y)else .any
 |a,b=>bif g then a else b
def TV.scalar:TV->Bool
 | .int _ _| .bool _| .e0| .sl _ _ _| .rptr _ _ _ _ _| .fn _ _| .own _| .ownS _ _ _| .ptr _ _ _| .mp _| .dm _ _ _ _=>true
 | .val v=>v.oneCell'
 |_=>false
def qnh(sz:Nat):TV->Option (List TV)
 | .agg cs=>bif Nat.beq cs.length sz then some cs else none
 |v=>bif Nat.beq sz 1&&v.scalar then some [v]else none
def qzh(L:List TV)(off:Nat)(cs:List TV):Option (List TV):=
 bif Nat.ble (off+cs.length) L.length then some (L.take off++(cs++L.drop (off+cs.length)))else none
def qvo(place:Nat->Option (Nat×Nat)):List TV->List (Nat×TV)->Option (List TV)
 |L,[]=>some L
 |L,(i,v)::rest=>
  match place i with
  |some (off,sz)=>
   match qnh sz v with
   |some cs=>
    match qzh L off cs with
    |some L' =>qvo place L' rest
    |none=>none
   |none=>none
  |none=>none
def q48(tt:TT):List (Nat×TypeId)->Option (List (Nat×Nat))
 |[]=>some []
 |(o,t)::l=>
  match tt t,q48 tt l with
  |some x,some r=>some ((o,x.sz)::r)
  |_,_=>none
def zq(L:List Value):Bool:=L.all (·.oneCell')
def jp5(tt:TT)(t:TypeId)(ps:List (Nat×TV)):Option TV:=
 match tt t with
 |some ⟨.strct _ fs,sz,_,z⟩=>
  match q48 tt fs with
  |some pl=>bif Nat.beq z.length sz&&zq z then(match qvo (fun i=>pl[i]?) (z.map ofV) ps with|some L=>some (.agg L)|none=>none)else none
  |none=>none
 |some ⟨.arr _ _ el,sz,_,z⟩=>
  match tt el with
  |some ei=>bif Nat.beq z.length sz&&zq z then(match qvo (fun i=>some (i*ei.sz,ei.sz)) (z.map ofV) ps with|some L=>some (.agg L)|none=>none)else none
  |none=>none
 |_=>none
def jao(x:TV)(r:Option (List Bool×TV)):Option (List Bool×TV):=
 match r with
 |some (cs,v)=>some (x.nd++cs,v)
 |none=>none
def jje(x y:TV)(r:Option (List Bool×TV)):Option (List Bool×TV):=
 match r with
 |some (cs,v)=>some (x.nd++(y.nd++cs),v)
 |none=>none
def ndO(e:Operand->TV):Option Operand->List Bool
 |some y=>(e y).nd
 |none=>[]
def nds(e:Operand->TV):List Operand->List Bool
 |[]=>[]
 |x::l=>(e x).nd++nds e l
def e0T(tt:TT)(t:TypeId)(x hi mx:TV):Option TV:=
 match tt t with
 |some ⟨.slice el,_,_,_⟩=>
  match tt el with
  |some _=>
   match hi,mx with
   | .int _ 0, .int _ 0=>
    match x with
    | .sl _ _ _=>some .e0
    | .own _=>some .e0
    | .ownS _ _ _=>some .e0
    | .val (.slice none 0 0)=>some .e0
    |_=>none
   |_,_=>none
  |none=>none
 |_=>none
def j1u(tt:TT)(t:TypeId):Bool:=
 match tt t with
 |some ⟨.ptr _,_,_,_⟩=>true
 |some ⟨.strct _ _,_,_,_⟩=>true
 |_=>false
def pvT(wr:Bool)(tt:TT)(H:List TOb)(e:Operand->TV):Op->Option (List Bool×TV)
 | .move x=>some ([],e x)
 | .assign x=>some ([],e x)
 | .pick c a b=>
  match(e c).gt with
  | .bool g=>some ((e c).nd++((e a).nd.map (fun z=> !g||z)++(e b).nd.map (fun z=>g||z)),jzo g (e a).gt (e b).gt)
  |_=>none
 | .binOp op t x y _=>jje (e x) (e y) (j67 wr tt H op t (e x) (e y).gt)
 | .unOp op _ x=>jao (e x) (unT wr op (e x).gt)
 | .convert src dst x=>jao (e x) (j7g wr tt H src dst (e x).gt)
 | .load t x=>jao (e x) (jdv tt H t (e x).gt)
 | .fieldAddr s x f=>jao (e x) (jqj tt s (e x).gt f)
 | .field s x f=>jao (e x) (jqk tt s (e x).gt f)
 | .indexAddr t x y=>jje (e x) (e y) (jqo tt H t (e x).gt (e y).gt)
 | .index t x y=>jje (e x) (e y) (jqp tt t (e x).gt (e y).gt)
 | .slice t x lo hi none=>
  match jrk tt H t (e x).gt (lo.map fun y=>(e y).gt) (hi.map fun y=>(e y).gt)with
  |some (cs,v)=>some ((e x).nd++(ndO e lo++(ndO e hi++cs)),v)
  |none=>none
 | .slice t x none (some hi) (some mx)=>
  match e0T tt t (e x).gt (e hi).gt (e mx).gt with
  |some v=>some ((e x).nd++((e hi).nd++(e mx).nd),v)
  |none=>none
 | .lookup t x y ok=>jje (e x) (e y) (jy8 tt H t ok (e x).gt (e y).gt)
 | .extract x i=>
  match(e x).gt with
  | .tup cs=>bif Nat.blt i cs.length then some ((e x).nd,cs.getD i .any)else none
  |_=>none
 | .call ⟨.builtin .len,⟨[x]⟩,⟨[t]⟩⟩=>jao (e x) (j95 tt H t (e x).gt)
 | .call ⟨.builtin .cap,⟨[x]⟩,⟨[t]⟩⟩=>
  match tt t,(e x).gt with
  |some ⟨.slice _,_,_,_⟩, .val (.slice none 0 0)=>some ((e x).nd, .int .i64 0)
  |_,_=>none
 | .call ⟨.builtin .max,⟨[x,y]⟩,_⟩=>
  match(e x).gt,(e y).gt with
  | .int k a, .int _ b=>some ((e x).nd++(e y).nd, .int k (max a b))
  |_,_=>none
 | .call ⟨.builtin .min,⟨[x,y]⟩,_⟩=>
  match(e x).gt,(e y).gt with
  | .int k a, .int _ b=>some ((e x).nd++(e y).nd, .int k (min a b))
  |_,_=>none
 | .build t ps=>
  match jp5 tt t (ps.toList.map fun p=>(p.1,(e p.2).gt))with
  |some v=>some (nds e (ps.toList.map (·.2)),v)
  |none=>none
 | .makeFunc (.func f) ⟨[]⟩ caps=>bif Nat.blt f qcw then some ([], .fn f (caps.toList.map e))else none
 | .makeFunc (.func f) bs ⟨[]⟩=>bif Nat.blt f qcw then some ([], .fn (f+qcw) (bs.toList.map e))else none
 | .makeInterface t x=>bif j1u tt t then some ([], .fn (t+qc2) [e x])else none
 | .typeAssert x _ t false=>
  match(e x).gt with
  | .fn f [A]=>bif j1u tt t&&Nat.beq f (t+qc2)then some ((e x).nd,A)else none
  |_=>none
 | .nilCheck x=>
  match(e x).gt with
  | .ptr t i f=>some ((e x).nd, .ptr t i f)
  | .rptr fr u xs i f=>some ((e x).nd, .rptr fr u xs i f)
  | .fn f caps=>some ((e x).nd, .fn f caps)
  |_=>none
 |_=>none
end Go.K
namespace Go.K
open Go.M
def j32(f:TypeId->Option Ty):List (Nat×TypeId)->Option TyL
 |[]=>some .nil
 |(_,t)::l=>
  match f t with
  |some a=>match j32 f l with|some b=>some (.cons a b)|none=>none
  |none=>none
def zc4(t:Ty):Nat->TyL
 |0=> .nil
 |n+1=> .cons t (zc4 t n)
def j4r(tt:TT)(t:TypeId):List (Nat×TypeId)->Option (List (Nat×TypeId)×List (Nat×TypeId))
 |[]=>none
 |p::l=>
  bif (match tt p.2 with|some ⟨.slice e,_,_,_⟩=>Nat.beq e t|_=>false)then some ([],l)
  else match j4r tt t l with|some r=>some (p::r.1,r.2)|none=>none
def tyF(tt:TT):Nat->TypeId->Option Ty
 |0,_=>none
 |n+1,t=>
  match tt t with
  |some ⟨.int k,_,_,_⟩=>some (.int k)
  |some ⟨.bool,_,_,_⟩=>some .bool
  |some ⟨.slice e,_,_,_⟩=>match tyF tt n e with|some x=>some (.slice x)|none=>none
  |some ⟨.strct _ fs,_,_,_⟩=>
   match j4r tt t fs with
   |some r=>match j32 (tyF tt n) r.1,j32 (tyF tt n) r.2 with|some x,some y=>some (.tree x y)|_,_=>none
   |none=>match j32 (tyF tt n) fs with|some x=>some (.struct x)|none=>none
  |some ⟨.arr _ k e,_,_,_⟩=>match tyF tt n e with|some x=>some (.struct (zc4 x k))|none=>none
  |some ⟨.str,_,_,_⟩=>some .str
  |_=>none
abbrev zau(tt:TT)(t:TypeId):Option Ty:=tyF tt 12 t
def j4j(f:TypeId->List TypeId):List (Nat×TypeId)->List TypeId
 |[]=>[]
 |(_,t)::l=>f t++j4j f l
def jys(l:List TypeId):Nat->List TypeId
 |0=>[]
 |n+1=>l++jys l n
def j92(tt:TT):Nat->TypeId->List TypeId
 |0,_=>[]
 |n+1,t=>
  match tt t with
  |some ⟨.slice e,_,_,_⟩=>[e]
  |some ⟨.strct _ fs,_,_,_⟩=>j4j (j92 tt n) fs
  |some ⟨.arr _ k e,_,_,_⟩=>jys (j92 tt n e) k
  |_=>[0]
abbrev gh(tt:TT)(t:TypeId):List TypeId:=j92 tt 12 t
def q6q:List TV->List Value->Bool
 |[],[]=>true
 | .int k n::l, .int k' m::l' =>decide (k=k')&&decide (n=m)&&q6q l l'
 | .bool b::l, .bool b' ::l' =>(b==b')&&q6q l l'
 | .val (.string ⟨⟨[]⟩⟩)::l, .string ⟨⟨[]⟩⟩::l' =>q6q l l'
 | .sl _ _ []::l, .slice none 0 0::l' =>q6q l l'
 |_,_=>false
def elT(tt:TT)(el:TypeId):Option (Ty×TI):=
 match tt el,zau tt el with
 |some ei,some u=>bif Nat.beq u.sz ei.sz&&Nat.blt 0 ei.sz&&Nat.beq ei.zero.length ei.sz&&zq ei.zero&&q6q (u.cells true u.dft) ei.zero then some (u,ei)else none
 |_,_=>none
inductive Ac where
 | id
 | kill
 | to (T : TG)
 | fz (fr : Bool) (u : Ty) (xs : List u.den)
mutual
def TV.sb(θ:TG->Ac):TV->TV
 | .own T=>match θ T with| .id=> .own T| .kill=> .any| .to T' => .own T' | .fz fr u xs=> .sl fr u xs
 | .ownS T off n=>match θ T with| .id=> .ownS T off n| .kill=> .any| .to T' => .ownS T' off n| .fz fr u xs=> .sl fr u ((xs.drop off).take n)
 | .ptr T i f=>match θ T with| .id=> .ptr T i f| .kill=> .any| .to T' => .ptr T' i f| .fz fr u xs=> .rptr fr u xs i f
 | .mp T=>match θ T with| .id=> .mp T| .kill=> .any| .to T' => .mp T' | .fz _ _ _=> .any
 | .fn f cs=> .fn f (TV.sbL θ cs)
 | .agg cs=> .agg (TV.sbL θ cs)
 | .tup cs=> .tup (TV.sbL θ cs)
 | .cond c a=> .cond c (TV.sb θ a)
 | .nl b a=> .nl b (TV.sb θ a)
 |v=>v
def TV.sbL(θ:TG->Ac):List TV->List TV
 |[]=>[]
 |v::l=>TV.sb θ v::TV.sbL θ l
end
def sbS(θ:TG->Ac):List (Nat×TV)->List (Nat×TV)
 |[]=>[]
 |(a,v)::l=>(a,v.sb θ)::sbS θ l
def TOb.sb(θ:TG->Ac):TOb->TOb
 |TOb.cs ty sz n l=> .cs ty sz n (TV.sbL θ l)
 | .arr ty md its u xs=> .arr ty md its u xs
 | .mp kt vt es=> .mp kt vt es
 | .mo kt u ety es h=> .mo kt u ety es h
 | .gone=> .gone
def cx(θ:TG->Ac):List TOb->List TOb
 |[]=>[]
 |o::l=>o.sb θ::cx θ l
inductive St where
 | sb (θ : TG -> Ac)
 | set (t : Nat) (o : TOb)
 | new (t : Nat) (o : TOb)
def fq(H:List TOb)(t:Nat)(o:TOb):List TOb:=bif Nat.blt t H.length then H.set t o else H++[o]
def hAp(H:List TOb):St->List TOb
 | .sb θ=>cx θ H
 | .set t o=>H.set t o
 | .new t o=>fq H t o
def jt(H:List TOb):List St->List TOb
 |[]=>H
 |x::l=>jt (hAp H x) l
def sAp(S:List (Nat×TV)):St->List (Nat×TV)
 | .sb θ=>sbS θ S
 |_=>S
def vAp(v:TV):St->TV
 | .sb θ=>v.sb θ
 |_=>v
def vAps(v:TV):List St->TV
 |[]=>v
 |x::l=>vAps (vAp v x) l
def TS.ap(s:TS)(x:St):TS:=⟨sAp s.S x,hAp s.H x⟩
def TS.aps(s:TS):List St->TS
 |[]=>s
 |x::l=>(s.ap x).aps l
def bi(t:Nat):TG->Ac
 | .o t' =>bif Nat.beq t' t then .kill else .id
 | .r _ _ _=> .id
def ba(t:Nat):TG->Ac
 | .o _=> .id
 | .r t' _ _=>bif Nat.beq t' t then .kill else .id
def q6(t2 t i f:Nat):TG->Ac
 | .o t' =>bif Nat.beq t' t2 then .to (.r t i f)else .id
 | .r t' _ _=>bif Nat.beq t' t then .kill else .id
def jnu(u:Ty)(xs:List u.den)(i f:Nat):Ac:=
 match ek u (xs.getD i u.dft) f with
 |some ⟨v,ys⟩=> .fz true v ys
 |none=> .kill
def qfx(ob:TOb)(t:Nat):TG->Ac
 | .o t' =>
  bif Nat.beq t' t then
   match ob with
   | .arr _ (.fz fr) _ u xs=> .fz (fr||u.flat) u xs
   | .arr _ .own _ u xs=> .fz true u xs
   |_=> .kill
  else .id
 | .r t' i f=>
  bif Nat.beq t' t then
   match ob with
   | .arr _ .own _ u xs=>jnu u xs i f
   |_=> .kill
  else .id
def qh4(u:Ty)(xs:List u.den)(t:Nat):TG->Ac
 | .o _=> .id
 | .r t' i f=>bif Nat.beq t' t then jnu u xs i f else .id
def jau(H:List TOb)(t:Nat):List St:=[.sb (qfx (H.getD t .gone) t), .set t .gone]
def qeg(H:List TOb)(t:Nat):List St:=
 match H[t]? with
 |some (.arr ty .own its u xs)=>[.sb (qh4 u xs t), .set t (.arr ty (.fz true) its u xs)]
 |_=>[]
mutual
def TV.tags:TV->List TG
 | .own T=>[T]
 | .ownS T _ _=>[T]
 | .agg cs=>TV.tagsL cs
 |_=>[]
def TV.tagsL:List TV->List TG
 |[]=>[]
 |v::l=>v.tags++TV.tagsL l
end
def bt(kp:List Bool)(t:Nat):Bool:=kp.getD t false
def ov(kp:List Bool):List TG->List TOb->Option (List St)
 |[],_=>some []
 | .o t::l,H=>
  bif !bt kp t then
   match ov kp l (jt H (jau H t))with
   |some δ=>some (jau H t++δ)
   |none=>none
  else none
 | .r t _ _::l,H=>
  bif !bt kp t then
   match ov kp l (jt H (qeg H t))with
   |some δ=>some (qeg H t++δ)
   |none=>none
  else none
structure Mdl where
 A : Type
 B : Type
 dec : List TV -> List TOb -> Option (A × List Nat × List TG)
 args : A -> List TV
 objs : A -> List TOb
 m : A -> Option B
 res : A -> B -> TV
 outs : A -> B -> List TOb
 kp : List Bool
 cs : {R : Type} -> B -> (B -> Option R) -> Option R := fun b k => k b
 csn : ∀ {R R' : Type} (b : B) (k : B -> Option R) (f : R -> Option R'), cs b (fun b => (k b).bind f) = (cs b k).bind f := by intros; rfl
structure Summ (Rf : Type) where
 A : Type
 O : Type
 dec : TS -> Option A
 m : A -> Option O
 cont : {R : Type} -> A -> O -> (TS -> Option R) -> (Nat -> TS -> Option R) -> (Rf -> Option R) -> Option R
structure Ctx (Rf : Type) where
 N : Nat
 tt : TT
 wr : Bool
 dt : Bool
 kp : List Bool
 Γ : FuncId -> List Mdl
 Λ : Nat -> Option (Summ Rf)
 res : TS -> Option Rf
section
variable {R Rf : Type}
def j11:TOb->TOb->List Bool
 | .arr _ _ _ u xs, .arr _ _ _ v ys=>[Nat.beq u.sz v.sz,decide (xs.length=ys.length)]
 | .cs _ sz n _, .cs _ sz' n' _=>[Nat.beq sz sz',Nat.beq n n']
 | .mp _ _ _, .mp _ _ _=>[]
 | .mo _ _ _ _ _, .mo _ _ _ _ _=>[]
 |_,_=>[false]
def jgn:List Nat->List Bool->List TOb->List TOb->List Bool
 |[],_,_,_=>[]
 |_::_,_,[],_=>[false]
 |_::_,[],_::_,_=>[false]
 |t::ρ,true::kp,o::l,H=>j11 o (H.getD t .gone)++jgn ρ kp l H
 |_::ρ,false::kp,_::l,H=>jgn ρ kp l H
def upN(ρ:List Nat)(n:Nat)(j:Nat):Nat:=bif Nat.blt j ρ.length then ρ.getD j 0 else n+(j-ρ.length)
def upA(ρ:List Nat)(n:Nat):TG->Ac
 | .o j=> .to (.o (upN ρ n j))
 | .r j i f=> .to (.r (upN ρ n j) i f)
def inL(t:Nat):List Nat->Bool
 |[]=>false
 |a::l=>Nat.beq a t||inL t l
def q9l:List Nat->Bool
 |[]=>true
 |a::l=> !inL a l&&q9l l
def q9d(n:Nat):List Nat->Bool
 |[]=>true
 |a::l=>Nat.blt a n&&q9d n l
def q1r(ρ:List Nat)(kp:List Bool)(t:Nat):Bool:=
 match ρ,kp with
 |a::ρ,k::kp=>(Nat.beq a t&& !k)||q1r ρ kp t
 |_,_=>false
def qb7(ρ:List Nat)(kp:List Bool):TG->Ac
 | .o t=>bif q1r ρ kp t then .kill else .id
 | .r t _ _=>bif inL t ρ then .kill else .id
def qxe:List Nat->List TOb->List St
 |t::ρ,o::l=> .set t o::qxe ρ l
 |_,_=>[]
def q4r:Nat->List TOb->List St
 |_,[]=>[]
 |n,o::l=> .new n o::q4r (n+1) l
def qg0(n:Nat)(ρ:List Nat)(kp:List Bool)(outs:List TOb):List St:=
 .sb (qb7 ρ kp)::(qxe ρ (cx (upA ρ n) (outs.take ρ.length))++q4r n (cx (upA ρ n) (outs.drop ρ.length)))
def jp7(n:Nat)(ρ:List Nat)(kp:List Bool)(outs:List TOb):List St:=
 match ρ with
 |[]=>q4r n (cx (upA [] n) outs)
 |a::ρ=>qg0 n (a::ρ) kp outs
def q7l(ρ:List Nat):List TG->Bool
 |[]=>true
 | .o t::l=> !inL t ρ&&q7l ρ l
 | .r t _ _::l=> !inL t ρ&&q7l ρ l
def jdr(kp0:List Bool):List Nat->List Bool->Bool
 |t::ρ,k::kp=>(k|| !bt kp0 t)&&jdr kp0 ρ kp
 |_,_=>true
def q3j(X:Ctx Rf)(l:List Mdl)(args:List TV)(H:List TOb)(k:List St->TV->Option R):Option R:=
 match l with
 |[]=>none
 |M::r=>
  match M.dec args H with
  |some (a,ρ,bs)=>
   bif q9l ρ&&q9d H.length ρ&&q7l ρ bs&&jdr X.kp ρ M.kp&&Nat.beq M.kp.length ρ.length then
    bnd (M.m a) (fun b=>M.cs b fun b=>ckL (jgn ρ M.kp (M.outs a b) H) (k (jp7 H.length ρ M.kp (M.outs a b)) ((M.res a b).sb (upA ρ H.length))))
   else none
  |none=>q3j X r args H k
mutual
def TV.up:TV->TV
 | .sl _ t xs=> .sl true t xs
 | .rptr _ t xs i f=> .rptr true t xs i f
 | .dm _ kt vt es=> .dm true kt vt es
 | .own _=> .any
 | .ownS _ _ _=> .any
 | .ptr _ _ _=> .any
 | .mp _=> .any
 | .fn f cs=> .fn f (TV.upL cs)
 | .agg cs=> .agg (TV.upL cs)
 | .tup cs=> .tup (TV.upL cs)
 | .cond c a=> .cond c a.up
 | .nl b a=> .nl b a.up
 |v=>v
def TV.upL:List TV->List TV
 |[]=>[]
 |v::l=>v.up::TV.upL l
end
mutual
def TV.dw:TV->TV
 | .sl _ t xs=> .sl false t xs
 | .rptr _ t xs i f=> .rptr false t xs i f
 | .dm _ kt vt es=> .dm false kt vt es
 | .own _=> .any
 | .ownS _ _ _=> .any
 | .ptr _ _ _=> .any
 | .mp _=> .any
 | .fn f cs=> .fn f (TV.dwL cs)
 | .agg cs=> .agg (TV.dwL cs)
 | .tup cs=> .tup (TV.dwL cs)
 | .cond c a=> .cond c a.dw
 | .nl b a=> .nl b a.dw
 |v=>v
def TV.dwL:List TV->List TV
 |[]=>[]
 |v::l=>v.dw::TV.dwL l
end
def q9g(l:List Mdl)(args:List TV)(k:List St->TV->Option R):Option R:=
 match l with
 |[]=>none
 |M::r=>
  match M.dec (TV.upL args) []with
  |some (a,[],[])=>bnd (M.m a) (fun b=>match M.outs a b with|[]=>k [] (M.res a b).dw|_=>none)
  |_=>q9g r args k
def jkq:List Mdl->List TV->List TOb->Bool
 |[],_,_=>false
 |M::r,args,H=>(M.dec args H).isSome||jkq r args H
def j0u:List TV->List St->List TV
 |[],_=>[]
 |v::l,δ=>vAps v δ::j0u l δ
def jxk(X:Ctx Rf)(l:List Mdl)(args:List TV)(H:List TOb)(k:List St->TV->Option R):Option R:=
 match ov X.kp (TV.tagsL args) H with
 |some δ=>q3j X l (j0u args δ) (jt H δ) (fun δ' v=>k (δ++δ') v)
 |none=>none
def qzr(X:Ctx Rf)(l:List Mdl)(args:List TV)(H:List TOb)(k:List St->TV->Option R):Option R:=
 bif jkq l args H then q3j X l args H k else bif X.dt then jxk X l args H k else q9g l args k
def q0s(u:Ty)(x:u.den)(f:Nat)(v:Ty)(ys:List v.den):Option u.den:=
 match ek u x f with
 |some ⟨v',_⟩=>
  match v'.eq? v with
  |some _=>match u.pack1 ((u.cells true x).set f (.sl true v ys))with|some (y,_)=>some y|none=>none
  |none=>none
 |none=>none
def jku:Ty->Bool
 | .slice _=>true
 |_=>false
def q2l(H:List TOb)(tg:Nat)(i:Int)(f:Nat)(new:List TV)(k:List St->Option R):Option R:=
 match H[tg]? with
 |some (.arr ty (.fz fr) its u xs)=>
  match qzh (u.cells fr (xs.getD i.toNat u.dft)) f new with
  |some cs' =>match u.pack1 cs' with
   |some (x',g)=>al (ix i xs.length) (k [.set tg (.arr ty (.fz (fr&&g)) its u (xs.set i.toNat x'))])
   |none=>none
  |none=>none
 |_=>none
def q84(X:Ctx Rf)(H:List TOb)(ty:TypeId)(its:List TypeId)(u:Ty)(xs:List u.den)(tg:Nat)(i:Int)(f:Nat)(v:TV)(k:List St->Option R):Option R:=
 match v with
 | .own (.o t2)=>
  match H[t2]? with
  |some (.arr ty2 (.fz fr2) _ w ys)=>
   bif !Nat.beq t2 tg&& !bt X.kp t2&&(fr2||w.flat)&&Nat.beq ty2 (its.getD f 0)then
    match q0s u (xs.getD i.toNat u.dft) f w ys with
    |some x' =>al (ix i xs.length) (k [.sb (q6 t2 tg i.toNat f), .set tg (.arr ty .own its u (xs.set i.toNat x')), .set t2 .gone])
    |none=>none
   else none
  |_=>none
 | .own (.r t' i' f')=>
  bif Nat.beq t' tg&&jku u&&Nat.beq f 0&&Nat.beq f' 0 then
   al (ix i xs.length) (k [.set tg (.arr ty (.swap i.toNat i') its u xs)])
  else none
 | .val (.slice none 0 0)=>
  match ek u (xs.getD i.toNat u.dft) f with
  |some ⟨w,_⟩=>
   match q0s u (xs.getD i.toNat u.dft) f w []with
   |some x' =>al (ix i xs.length) (k [.sb (ba tg), .set tg (.arr ty .own its u (xs.set i.toNat x'))])
   |none=>none
  |none=>none
 |v=>
  match ek u (xs.getD i.toNat u.dft) f with
  |some _=>none
  |none=>
   match qzh (u.cells true (xs.getD i.toNat u.dft)) f [v]with
   |some cs' =>match u.pack1 cs' with
    |some (x',_)=>al (ix i xs.length) (k [.set tg (.arr ty .own its u (xs.set i.toNat x'))])
    |none=>none
   |none=>none
def jl8:TV->Bool
 | .own _=>true
 | .val (.slice none 0 0)=>true
 | .int _ _=>true
 | .bool _=>true
 | .val (.string _)=>true
 |_=>false
def q2k(X:Ctx Rf)(ti:TI)(H:List TOb)(tg:Nat)(i:Int)(f:Nat)(δ0:List St)(v:TV)(k:List St->Option R):Option R:=
 match ov X.kp v.tags H with
 |some δ=>match qnh ti.sz (vAps v δ)with
  |some new=>q2l (jt H δ) tg i f new (fun δ' =>k (δ0++(δ++δ')))
  |none=>none
 |none=>none
def q2m(X:Ctx Rf)(ti:TI)(p v:TV)(H:List TOb)(k:List St->Option R):Option R:=
 match p with
 | .ptr (.o tg) i f=>
  match H[tg]? with
  |some (.cs ty sz n cs)=>
   match i with
   | .ofNat i' =>
    match qnh ti.sz v with
    |some new=>
     bif Nat.blt i' n&&Nat.ble (f+ti.sz) sz&&Nat.beq cs.length (n*sz)then
      match qzh cs (i' *sz+f) new with
      |some cs' =>k [.set tg (.cs ty sz n cs')]
      |none=>none
     else none
    |none=>none
   |_=>none
  |some (.arr ty md its u xs)=>
   match md with
   | .fz _=>q2k X ti H tg i f [] v k
   | .own=>
    bif Nat.beq ti.sz 1&&jl8 v then q84 X H ty its u xs tg i f v k
    else
     bif !bt X.kp tg then q2k X ti (jt H (qeg H tg)) tg i f (qeg H tg) (vAps v (qeg H tg)) k else none
   | .hole i0 f0=>
    match v with
    | .own (.r t' i' f')=>
     bif Nat.beq ti.sz 1&&Nat.beq t' tg&&Nat.beq f f0&&Nat.beq f' f0 then
      ckL [ix i xs.length,decide (i.toNat=i0),decide (i' =i0)] (k [.set tg (.arr ty .own its u xs)])
     else none
    |_=>none
   | .swap i0 j0=>
    match v with
    | .own (.r t' i' f')=>
     bif Nat.beq ti.sz 1&&Nat.beq t' tg&&Nat.beq f 0&&Nat.beq f' 0&&jku u then
      ckL [ix i xs.length,decide (i.toNat=j0),decide (i' =i0)]
       (k [.sb (ba tg), .set tg (.arr ty .own its u ((xs.set i0 (xs.getD j0 u.dft)).set j0 (xs.getD i0 u.dft)))])
     else none
    |_=>none
  |_=>none
 | .ptr (.r tg i0 f0) i f=>
  match H[tg]? with
  |some (.arr ty md its u xs)=>
   bif md.isOwn then
    match ek u (xs.getD i0 u.dft) f0 with
    |some ⟨w,ys⟩=>
     match qnh ti.sz v with
     |some new=>
      match qzh (w.cells true (ys.getD i.toNat w.dft)) f new with
      |some cs' =>match w.pack1 cs' with
       |some (y',g)=>
        bif g||w.flat then
         match q0s u (xs.getD i0 u.dft) f0 w (ys.set i.toNat y')with
         |some x' =>al (ix i ys.length) (k [.set tg (.arr ty md its u (xs.set i0 x'))])
         |none=>none
        else none
       |none=>none
      |none=>none
     |none=>none
    |none=>none
   else none
  |_=>none
 |_=>none
inductive Src (u : Ty) where
 | row (t2 : Nat) (x : u.den)
 | nils (x : u.den)
def jqq:TV->Bool
 | .val (.slice none 0 0)=>true
 |_=>false
def j4i:TV->Bool
 | .sl _ _ _=>true
 |_=>false
def jn8:List TV->List TV->Bool
 |[],[]=>true
 |a::l,b::l' =>(!j4i a||jqq b)&&jn8 l l'
 |_,_=>false
def zar(X:Ctx Rf)(H:List TOb)(el:TypeId)(u:Ty)(cells:List TV):Option (Src u):=
 match u.flat with
 |true=>none
 |false=>
  bif jn8 (u.cells true u.dft) cells then
   match u.pack1 cells with
   |some (x,_)=>some (.nils x)
   |none=>none
  else
   match u,cells with
   | .slice v,[.own (.o t2)]=>
    match H[t2]? with
    |some (.arr ty2 (.fz fr2) _ w ys)=>
     match w.eq? v with
     |some ⟨h⟩=>bif !bt X.kp t2&&(fr2||w.flat)&&Nat.beq ty2 ((gh X.tt el).getD 0 0)then some (.row t2 (qc5 h ys))else none
     |none=>none
    |_=>none
   |_,_=>none
def j3u(X:Ctx Rf)(H:List TOb)(u:Ty)(x:TV):Option (List St×Bool×List u.den):=
 match x with
 | .sl fr v ys=>match v.eq? u with|some ⟨h⟩=>some ([],fr||v.flat,qc5 h ys)|none=>none
 | .val (.slice none 0 0)=>some ([],true,[])
 | .e0=>some ([],true,[])
 | .own (.o t)=>
  match H[t]? with
  |some (.cs _ _ n cs)=>
   match ov X.kp (TV.tagsL cs) H with
   |some δ=>
    match(jt H δ)[t]? with
    |some (.cs _ sz n' cs')=>bif Nat.beq n' n&&Nat.beq sz u.sz then(match u.packN n cs' with|some (ys,g)=>some (δ,g||u.flat,ys)|none=>none)else none
    |_=>none
   |none=>none
  |some (.arr _ .own _ v ys)=>bif !bt X.kp t then(match v.eq? u with|some ⟨h⟩=>some (qeg H t,true,qc5 h ys)|none=>none)else none
  |some (.arr _ (.fz fr) _ v ys)=>match v.eq? u with|some ⟨h⟩=>some ([],fr||v.flat,qc5 h ys)|none=>none
  |_=>none
 | .own T=>match jhl H T with|some (fr,⟨v,ys⟩)=>(match v.eq? u with|some ⟨h⟩=>some ([],fr,qc5 h ys)|none=>none)|none=>none
 | .ownS T off n=>
  match jhl H T with
  |some (fr,⟨v,ys⟩)=>match v.eq? u with
   |some ⟨h⟩=>bif v.flat then some ([],fr,qc5 h ((ys.drop off).take n))else none
   |none=>none
  |none=>none
 |_=>none
def jui(X:Ctx Rf)(el:TypeId)(u:Ty)(ei:TI)(d:TV)(H:List TOb)(fr' :Bool)(ys:List u.den)(k:List St->TV->Option R):Option R:=
 match d with
 | .val (.slice none 0 0)=>al (room ys.length ei.bytes) (k [.sb (bi H.length), .new H.length (.arr el (.fz fr') (gh X.tt el) u ys)] (.own (.o H.length)))
 | .e0=>al (room ys.length ei.bytes) (k [.sb (bi H.length), .new H.length (.arr el (.fz fr') (gh X.tt el) u ys)] (.own (.o H.length)))
 | .own (.o tg)=>
  match H[tg]? with
  |some (.arr ty md its u2 xs)=>
   match u.eq? u2 with
   |some ⟨h2⟩=>
    bif Nat.beq ty el&& !bt X.kp tg then
     match md with
     | .fz fr=>al (room (xs.length+ys.length) ei.bytes) (k [.sb (bi tg), .set tg (.arr ty (.fz (fr&&fr')) its u2 (xs++qc5 h2 ys))] (.own (.o tg)))
     | .own=>
      bif !bt X.kp tg then
       al (room (xs.length+ys.length) ei.bytes) (k (qeg H tg++[.sb (bi tg), .set tg (.arr ty (.fz fr') its u2 (xs++qc5 h2 ys))]) (.own (.o tg)))
      else none
     |_=>none
    else none
   |none=>none
  |_=>none
 | .ownS (.o tg) off n=>
  match H[tg]? with
  |some (.arr ty (.fz fr) its u2 xs)=>
   match u.eq? u2 with
   |some ⟨h2⟩=>
    bif Nat.beq ty el&& !bt X.kp tg then
     al (room (n+ys.length) ei.bytes) (k [.sb (bi tg), .set tg (.arr ty (.fz (fr&&fr')) its u2 ((xs.drop off).take n++qc5 h2 ys))] (.own (.o tg)))
    else none
   |none=>none
  |_=>none
 | .own (.r tg i f)=>
  match H[tg]? with
  |some (.arr ty .own its u2 xs)=>
   match ek u2 (xs.getD i u2.dft) f with
   |some ⟨v,zs⟩=>
    match u.eq? v with
    |some ⟨h2⟩=>
     bif Nat.beq (its.getD f 0) el&&fr' then
      match q0s u2 (xs.getD i u2.dft) f v (zs++qc5 h2 ys)with
      |some x' =>al (room (zs.length+ys.length) ei.bytes) (k [.sb (ba tg), .set tg (.arr ty (.hole i f) its u2 (xs.set i x'))] (.own (.r tg i f)))
      |none=>none
     else none
    |none=>none
   |none=>none
  |some (.mo kt v ety es none)=>
   match u.eq? v with
   |some ⟨h2⟩=>
    bif Nat.beq ety el&&fr' &&Nat.beq f 0 then
     ckL [Nat.blt i es.length,room ((qeh es i).length+ys.length) ei.bytes] (k [.sb (ba tg), .set tg (.mo kt v ety (quc es i (qeh es i++qc5 h2 ys)) (some i))] (.own (.r tg i 0)))
    else none
   |none=>none
  |_=>none
 |_=>none
def jjv(X:Ctx Rf)(el:TypeId)(u:Ty)(ei:TI)(d:TV)(H:List TOb)(t2:Option Nat)(x:u.den)(k:List St->TV->Option R):Option R:=
 match d with
 | .val (.slice none 0 0)=>
  match t2 with
  |none=>al (room 1 ei.bytes) (k [.sb (bi H.length), .new H.length (.arr el .own (gh X.tt el) u [x])] (.own (.o H.length)))
  |some t2=>al (room 1 ei.bytes) (k [.sb (bi H.length), .sb (q6 t2 H.length 0 0), .set t2 .gone, .new H.length (.arr el .own (gh X.tt el) u [x])] (.own (.o H.length)))
 | .own (.o tg)=>
  match H[tg]? with
  |some (.arr ty .own its u2 xs)=>
   match u.eq? u2 with
   |some ⟨h2⟩=>
    bif Nat.beq ty el&& !bt X.kp tg then
     match t2 with
     |none=>al (room (xs.length+1) ei.bytes) (k [.sb (bi tg), .set tg (.arr ty .own its u2 (xs++qc5 h2 [x]))] (.own (.o tg)))
     |some t2=>
      bif !Nat.beq t2 tg&&Nat.beq (its.getD 0 0) ((gh X.tt el).getD 0 0)then
       al (room (xs.length+1) ei.bytes) (k [.sb (bi tg), .sb (q6 t2 tg xs.length 0), .set tg (.arr ty .own its u2 (xs++qc5 h2 [x])), .set t2 .gone] (.own (.o tg)))
      else none
    else none
   |none=>none
  |_=>none
 |_=>none
def j4d(H:List TOb):TV->Bool
 | .val (.slice none 0 0)=>true
 | .own (.o tg)=>match H[tg]? with|some (.arr _ .own _ _ _)=>true|_=>false
 |_=>false
def qqy(X:Ctx Rf)(el:TypeId)(u:Ty)(ei:TI)(d x:TV)(H:List TOb)(k:List St->TV->Option R):Option R:=
 match j3u X H u x with
 |some (δ,fr',ys)=>jui X el u ei (vAps d δ) (jt H δ) fr' ys (fun δ' v=>k (δ++δ') v)
 |none=>none
def jjw(X:Ctx Rf)(el:TypeId)(u:Ty)(ei:TI)(d x:TV)(H:List TOb)(k:List St->TV->Option R):Option R:=
 match x with
 | .own (.o t)=>
  match H[t]? with
  |some (.cs _ sz n cs)=>
   bif j4d H d&&Nat.beq n 1&&Nat.beq sz u.sz then
    match zar X H el u cs with
    |some (.row t2 x)=>jjv X el u ei d H (some t2) x k
    |some (.nils x)=>jjv X el u ei d H none x k
    |none=>qqy X el u ei d (.own (.o t)) H k
   else qqy X el u ei d (.own (.o t)) H k
  |_=>qqy X el u ei d (.own (.o t)) H k
 |x=>qqy X el u ei d x H k
def jyj:List TV->Bool
 |[]=>false
 | .sl _ _ _::_=>true
 |_::l=>jyj l
def jlv(X:Ctx Rf)(el:TypeId)(ei:TI)(len:Nat)(L:List TV):TOb:=
 match elT X.tt el with
 |some (u,_)=>
  match u.packN len L with
  |some (xs,fr)=>bif X.dt||(u.flat||jyj L||Nat.beq len 0)then .arr el (.fz (fr||u.flat)) (gh X.tt el) u xs else .cs el ei.sz len L
  |none=> .cs el ei.sz len L
 |none=> .cs el ei.sz len L
def bsD(X:Ctx Rf)(vs:List TV)(H:List TOb):Option (List St):=bif X.dt then ov X.kp (TV.tagsL vs) H else some []
def qca{α:Type}(xs:List α)(off n:Nat)(ys:List α):List α:=xs.take off++(ys.take n++xs.drop (off+min ys.length n))
def jna(u:Ty)(d:TV)(H:List TOb)(fr' :Bool)(ys:List u.den)(k:List St->TV->Option R):Option R:=
 match d with
 | .own (.o tg)=>
  match H[tg]? with
  |some (.arr ty (.fz fr) its u2 xs)=>
   match u.eq? u2 with
   |some ⟨h2⟩=>k [.set tg (.arr ty (.fz (fr&&fr')) its u2 (qca xs 0 xs.length (qc5 h2 ys)))] (.int .i64 ((min ys.length xs.length:Nat):Int))
   |none=>none
  |_=>none
 | .ownS (.o tg) off n=>
  match H[tg]? with
  |some (.arr ty (.fz fr) its u2 xs)=>
   match u.eq? u2 with
   |some ⟨h2⟩=>k [.set tg (.arr ty (.fz (fr&&fr')) its u2 (qca xs off n (qc5 h2 ys)))] (.int .i64 ((min ys.length n:Nat):Int))
   |none=>none
  |_=>none
 |_=>none
def jh6(X:Ctx Rf)(u:Ty)(d x:TV)(H:List TOb)(k:List St->TV->Option R):Option R:=
 match j3u X H u x with
 |some (δ,fr',ys)=>jna u (vAps d δ) (jt H δ) fr' ys (fun δ' v=>k (δ++δ') v)
 |none=>none
def q66(u:Ty)(d:TV)(H:List TOb)(k:List St->TV->Option R):Option R:=
 match d with
 | .own (.o tg)=>
  match H[tg]? with
  |some (.arr ty (.fz fr) its u2 xs)=>
   match u.eq? u2 with
   |some _=>k [.set tg (.arr ty (.fz (fr&&true)) its u2 (qca xs 0 xs.length (List.replicate xs.length u2.dft)))] .any
   |none=>none
  |_=>none
 | .ownS (.o tg) off n=>
  match H[tg]? with
  |some (.arr ty (.fz fr) its u2 xs)=>
   match u.eq? u2 with
   |some _=>k [.set tg (.arr ty (.fz (fr&&true)) its u2 (qca xs off n (List.replicate n u2.dft)))] .any
   |none=>none
  |_=>none
 |_=>none
def q1q(X:Ctx Rf)(t:TypeId)(H:List TOb)(k:List St->TV->Option R):Option R:=
 match X.tt t with
 |some ⟨.map kt et,_,_,_⟩=>
  match zau X.tt kt,zau X.tt et with
  |some ku,some (.slice u)=>match X.tt et with|some ⟨.slice ety,_,_,_⟩=>k [.new H.length (.mo ku u ety [] none)] (.mp (.o H.length))|_=>none
  |some ku,some vu=>k [.new H.length (.mp ku vu [])] (.mp (.o H.length))
  |_,_=>none
 |_=>none
def jio(X:Ctx Rf)(ki:TI)(H:List TOb)(tg:Nat)(ku u:Ty)(ety:TypeId)(es:List (ku.den×List u.den))(h:Option Nat)(key x:TV)(k:List St->TV->Option R):Option R:=
 match jkv ku key with
 |some a=>
  bif tk1 ki.k ku then
   match x,h with
   | .own (.r t' i f),some j=>bif Nat.beq t' tg&&Nat.beq i j&&Nat.beq f 0 then al (match mIx ku a es 0 with|some i' =>Nat.beq i' j|none=>false) (k [.set tg (.mo ku u ety es none)] .any)else none
   | .own (.o t2),none=>
    match H[t2]? with
    |some (.arr ty2 (.fz fr2) _ w ys)=>
     match w.eq? u with
     |some ⟨h2⟩=>
      bif !Nat.beq t2 tg&& !bt X.kp t2&&(fr2||w.flat)&&Nat.beq ty2 ety then
       al (match mIx ku a es 0 with|some _=>false|none=>true) (k [.sb (q6 t2 tg es.length 0), .set tg (.mo ku u ety (es++[(a,qc5 h2 ys)]) none), .set t2 .gone] .any)
      else none
     |none=>none
    |_=>none
   |_,_=>none
  else none
 |none=>none
def jd4(X:Ctx Rf)(t:TypeId)(m key x:TV)(H:List TOb)(k:List St->TV->Option R):Option R:=
 match X.tt t with
 |some ⟨.map kt _,_,_,_⟩=>
  match X.tt kt,m with
  |some ki, .mp (.o tg)=>
   match H[tg]? with
   |some (.mp ku vu es)=>
    match jkv ku key,jkv vu x with
    |some a,some b=>bif tk1 ki.k ku then k [.set tg (.mp ku vu (qdf ku a b es))] .any else none
    |_,_=>none
   |some (.mo ku u ety es h)=>jio X ki H tg ku u ety es h key x k
   |_=>none
  |_,_=>none
 |_=>none
def jim(X:Ctx Rf)(t:TypeId)(m key:TV)(H:List TOb)(k:List St->TV->Option R):Option R:=
 match X.tt t with
 |some ⟨.map kt et,_,_,_⟩=>
  match X.tt kt,X.tt et,m with
  |some ki,some ei, .mp (.o tg)=>
   match H[tg]? with
   |some (.mo ku _ _ es none)=>
    match jkv ku key with
    |some a=>bif tk1 ki.k ku&&(ei.k.one&&jvt ei.zero)then(match mIx ku a es 0 with|some i=>k [] (.own (.r tg i 0))|none=>k [] (.val (.slice none 0 0)))else none
    |none=>none
   |_=>none
  |_,_,_=>none
 |_=>none
def jil(X:Ctx Rf)(t:TypeId)(m key:TV)(H:List TOb)(k:List St->TV->Option R):Option R:=
 match X.tt t with
 |some ⟨.map kt _,_,_,_⟩=>
  match X.tt kt,m with
  |some ki, .mp (.o tg)=>
   match H[tg]? with
   |some (.mp ku vu es)=>
    match jkv ku key with
    |some a=>bif tk1 ki.k ku then k [.set tg (.mp ku vu (jk3 ku a es))] .any else none
    |none=>none
   |_=>none
  |_,_=>none
 |_=>none
def juk(X:Ctx Rf)(t t' :TypeId)(d x:TV)(H:List TOb)(k:List St->TV->Option R):Option R:=
 match X.tt t,X.tt t' with
 |some ⟨.slice el,_,_,_⟩,some ⟨.int _,_,_,_⟩=>
  match elT X.tt el with
  |some (u,ei)=>
   match d.gt,x.gt with
   | .val (.slice none 0 0), .int _ n=>
    bif u.flat then ckL (d.nd++(x.nd++[decide (0<n),room n.toNat ei.bytes])) (k [.new H.length (.arr el (.fz true) (gh X.tt el) u (List.replicate n.toNat u.dft))] (.own (.o H.length)))else none
   |_,_=>none
  |none=>none
 |_,_=>none
def jqf(X:Ctx Rf)(op:Op)(e:Operand->TV)(H:List TOb)(k:List St->TV->Option R):Option R:=
 match op with
 | .alloc t=>
  match X.tt t with
  |some x=>bif Nat.beq x.zero.length x.sz&&zq x.zero then k [.new H.length (.cs t x.sz 1 (x.zero.map ofV))] (.ptr (.o H.length) (.ofNat 0) 0)else none
  |none=>none
 | .box t x=>
  match X.tt t with
  |some ti=>match qnh ti.sz (e x).gt with
   |some cs=>ckL (e x).nd (k [.new H.length (.cs t ti.sz 1 cs)] (.ptr (.o H.length) (.ofNat 0) 0))
   |none=>none
  |none=>none
 | .store t p x=>
  match X.tt t with
  |some ti=>ckL ((e p).nd++(e x).nd) (q2m X ti (e p).gt (e x).gt H (fun δ=>k δ .any))
  |none=>none
 | .makeSlice t l c=>
  match X.tt t with
  |some ⟨.slice el,_,_,_⟩=>
   match elT X.tt el with
   |some (u,ei)=>
    match(e l).gt,(e c).gt with
    | .int _ lv, .int _ cv=>ckL ((e l).nd++((e c).nd++[qub lv cv ei.bytes])) (k [.new H.length (.arr el (bif u.flat then .fz true else .own) (gh X.tt el) u (List.replicate lv.toNat u.dft))] (.own (.o H.length)))
    |_,_=>none
   |none=>none
  |_=>none
 | .buildSlice t len ps=>
  match X.tt t with
  |some ⟨.slice el,_,_,_⟩=>
   match X.tt el with
   |some ei=>
    bif Nat.beq ei.zero.length ei.sz&&zq ei.zero&&Nat.blt 0 ei.sz&&Nat.ble (len*ei.sz) 16777216 then
     match bsD X (ps.toList.map fun p=>(e p.2).gt) H with
     |some δ=>
      match qvo (fun i=>some (i*ei.sz,ei.sz)) ((List.range (len*ei.sz)).map fun j=>ofV (ei.zero.getD (j % ei.sz) undef)) (ps.toList.map fun p=>(p.1,vAps (e p.2).gt δ))with
      |some L=>ckL (nds e (ps.toList.map (·.2))) (k (δ++[.new H.length (jlv X el ei len L)]) (.own (.o H.length)))
      |none=>none
     |none=>none
    else none
   |none=>none
  |_=>none
 | .makeMap t none=>q1q X t H k
 | .makeMap t (some y)=>match(e y).gt with| .int _ _=>ckL (e y).nd (q1q X t H k)|_=>none
 | .lookup t m key false=>ckL ((e m).nd++(e key).nd) (jim X t (e m).gt (e key).gt H k)
 | .mapUpdate t m key x=>ckL ((e m).nd++((e key).nd++(e x).nd)) (jd4 X t (e m).gt (e key).gt (e x).gt H k)
 | .insert t m key x=>ckL ((e m).nd++((e key).nd++(e x).nd)) (jd4 X t (e m).gt (e key).gt (e x).gt H k)
 | .call ⟨.builtin .copy,⟨[d,x]⟩,⟨[t,_]⟩⟩=>
  match X.tt t with
  |some ⟨.slice el,_,_,_⟩=>
   match elT X.tt el with
   |some (u,_)=>ckL ((e d).nd++(e x).nd) (jh6 X u (e d).gt (e x).gt H k)
   |none=>none
  |_=>none
 | .call ⟨.builtin .clear,⟨[d]⟩,⟨[t]⟩⟩=>
  match X.tt t with
  |some ⟨.slice el,_,_,_⟩=>
   match elT X.tt el with
   |some (u,_)=>ckL (e d).nd (q66 u (e d).gt H k)
   |none=>none
  |_=>none
 | .call ⟨.builtin .delete,⟨[m,key]⟩,⟨[t,_]⟩⟩=>ckL ((e m).nd++(e key).nd) (jil X t (e m).gt (e key).gt H k)
 | .call ⟨.builtin .append,⟨[d,x]⟩,⟨[t,t']⟩⟩=>
  bif Nat.beq t t' then
   match X.tt t with
   |some ⟨.slice el,_,_,_⟩=>
    match elT X.tt el with
    |some (u,ei)=>ckL ((e d).nd++(e x).nd) (jjw X el u ei (e d).gt (e x).gt H (fun δ v=>k δ (bif (e d).isNl then .nl (some false) v else v)))
    |none=>none
   |_=>none
  else juk X t t' (e d) (e x) H k
 | .call ⟨.value f,args,_⟩=>
  match(e f).gt with
  | .fn fid caps=>
   bif Nat.blt fid qcw then ckL ((e f).nd++nds e args.toList) (qzr X (X.Γ fid) ((args.toList.map fun x=>(e x).gt)++caps) H k)
   else match args.toList with
   |[]=>bif Nat.blt fid qc2 then ckL ((e f).nd++nds e args.toList) (qzr X (X.Γ (fid-qcw)) ((args.toList.map fun x=>(e x).gt)++caps) H k)else none
   |_=>none
  |_=>none
 | .call ⟨.invoke rv nm,args,_⟩=>
  match(e rv).gt with
  | .fn f [A]=>
   bif Nat.ble qc2 f then
    match mtG (f-qc2) nm,A.gt with
    |some (g,none), .ptr T i o=>ckL ((e rv).nd++(A.nd++nds e args.toList)) (qzr X (X.Γ g) (.ptr T i o::(args.toList.map fun x=>(e x).gt)) H k)
    |some (g,some t), .ptr T i o=>
     match jdv X.tt H t (.ptr T i o)with
     |some (cs,B)=>ckL ((e rv).nd++(A.nd++(cs++(B.nd++nds e args.toList)))) (qzr X (X.Γ g) (B.gt::(args.toList.map fun x=>(e x).gt)) H k)
     |none=>none
    |_,_=>none
   else none
  |_=>none
 |_=>none
def jx2(X:Ctx Rf)(op:Op)(e:Operand->TV)(H:List TOb)(k:List St->TV->Option R):Option R:=
 bif Nat.ble X.kp.length H.length then jqf X op e H k else none
def zd:Op->Bool
 | .load .. =>true
 | .indexAddr .. =>true
 |_=>false
def qmb(X:Ctx Rf)(op:Op)(e:Operand->TV)(H:List TOb)(k:List St->TV->Option R):Option R:=
 match pvT X.wr X.tt H e op with
 |some (cs,v)=>ckL cs (k [] v)
 |none=>jx2 X op e H k
def q3r:List Oper->Nat->Option Tmp
 |[],_=>none
 |o::_,0=>o.dst
 |_::l,n+1=>q3r l n
abbrev TV.undef:TV:= .cond false (.bool false)
def jqn(N:Nat)(ops:List Oper)(S:List (Nat×TV))(j:Nat):Option (Tmp×Option Bool):=
 match q3r ops j with
 |some d=>match rd N S d with| .bool b=>some (d,some b)| .cond false (.bool false)=>some (d,none)|_=>none
 |none=>none
def jye(N:Nat)(all:List Oper)(g:Nat×Bool)(S:List (Nat×TV))(run skip:List (Nat×TV)->Option R):Option R:=
 match jqn N all S g.1 with
 |some (_,none)=>skip S
 |some (d,some b)=>
  match g.2 with
  |true=>bif b then run ((d, .bool true)::S)else skip ((d, .bool false)::S)
  |false=>bif b then skip ((d, .bool true)::S)else run ((d, .bool false)::S)
 |none=>none
def opT(X:Ctx Rf)(o:Oper)(s:TS)(k:TS->Option R):Option R:=
 qmb X o.op (evT X.N s.S) s.H (fun δ v=>k ((s.aps δ).put o.dst v))
def j0h(X:Ctx Rf)(all:List Oper)(o:Oper)(s:TS)(k:TS->Option R):Option R:=
 match o.guard with
 |none=>opT X o s k
 |some g=>jye X.N all g s.S (fun S=>opT X o ⟨S,s.H⟩ k) (fun S=>k ((TS.mk S s.H).put o.dst .undef))
def jlt(X:Ctx Rf)(all:List Oper):List Oper->TS->(TS->Option R)->Option R
 |[],s,k=>k s
 |o::rest,s,k=>j0h X all o s (fun s' =>jlt X all rest s' k)
end
end Go.K
namespace Go.K
open Go.M
abbrev Pl:=TG->Option (Nat×Nat)
theorem Tre.lt{α:Type}{x:Tre α}{i:Nat}(h:i<x.ks.length):SizeOf.sizeOf (x.ks[i])<SizeOf.sizeOf x:=by
 cases x with
 |mk a ks=>
  have h1:=List.sizeOf_lt_of_mem (Hb h);simp only[Tre.mk.sizeOf_spec]at h1⊢;omega
def TrC{α:Type}(w:World)(Y:Nat->Prop)(k sz:Nat)(CL:α->Nat->Value->Prop)(x:Tre α)(f:Nat)(v:Value):Prop:=
 if f≠k then CL x.a f v else∃p c,v= .slice p x.ks.length c/\x.ks.length<=c/\c<=maxLen/\
  (0<x.ks.length->∃b o,p=some ⟨b,o,none⟩/\b<w.heap.size/\¬Y b/\∀i f,(h:i<x.ks.length)->f<sz->∃u,w.cell? ⟨b,o+(i*sz+f),none⟩=some u/\u.oneCell' =true/\TrC w Y k sz CL x.ks[i] f u)
 termination_by SizeOf.sizeOf x
 decreasing_by exact Tre.lt h
theorem TrC.imp{α:Type}{w w' :World}{Y Y' :Nat->Prop}{k sz:Nat}{CL CL' :α->Nat->Value->Prop}(h1:∀b,b<w.heap.size->¬Y b->b<w'.heap.size/\¬Y' b)(h2:∀b o u,b<w.heap.size->¬Y b->w.cell? ⟨b,o,none⟩=some u->w'.cell? ⟨b,o,none⟩=some u)
  (hc:∀a f v,CL a f v->CL' a f v) (x:Tre α) (f:Nat) (v:Value) (h:TrC w Y k sz CL x f v):TrC w' Y' k sz CL' x f v:=by
 rw[TrC]at h⊢;split
 ·rename_i hlt;rw[if_pos hlt]at h;exact hc _ _ _ h
 ·rename_i hge;rw[if_neg hge]at h;obtain⟨p,c,hv,hn,hm,hr⟩:=h;refine⟨p,c,hv,hn,hm,fun h0=> ?_⟩;obtain⟨b,o,hp,hb,hY,hk⟩:=hr h0;refine⟨b,o,hp,(h1 b hb hY).1,(h1 b hb hY).2,fun i f hi hf=> ?_⟩;obtain⟨u,hu,ho,hC⟩:=hk i f hi hf;exact⟨u,h2 b _ u hb hY hu,ho,TrC.imp h1 h2 hc _ f u hC⟩
 termination_by SizeOf.sizeOf x
 decreasing_by exact Tre.lt hi
mutual
def Ty.C(w:World)(Y:Nat->Prop):(t:Ty)->t.den->Nat->Value->Prop
 | .int k,n,_,v=>v= .int k n
 | .bool,b,_,v=>v= .bool b
 | .str,s,_,v=>v= .string s
 | .slice t,xs,_,v=>∃a c,v= .slice a (List.length (α:=t.den) xs) c/\List.length (α:=t.den) xs<=c/\c<=maxLen/\
  (0<List.length (α:=t.den) xs->∃b o,a=some ⟨b,o,none⟩/\b<w.heap.size/\¬Y b/\
   ∀i f,i<List.length (α:=t.den) xs->f<t.sz->∃u,w.cell? ⟨b,o+(i*t.sz+f),none⟩=some u/\u.oneCell' =true/\Ty.C w Y t (List.getD (α:=t.den) xs i t.dft) f u)
 | .struct l,x,f,v=>TyL.C w Y l x f v
 | .tree l m,x,f,v=>TrC w Y l.sz (l.sz+(m.sz+1)) (fun a g u=>if g<l.sz then TyL.C w Y l a.1 g u else TyL.C w Y m a.2 (g-(l.sz+1)) u) x f v
def TyL.C(w:World)(Y:Nat->Prop):(l:TyL)->l.den->Nat->Value->Prop
 | .nil,_,_,_=>False
 | .cons t l,x,f,v=>if f<t.sz then Ty.C w Y t x.1 f v else TyL.C w Y l x.2 (f-t.sz) v
end
theorem q86{w:World}{Y:Nat->Prop}{l m:TyL}{x:(Ty.tree l m).den}{f:Nat}{v:Value}:Ty.C w Y (.tree l m) x f v↔
  if f<l.sz then TyL.C w Y l (Tre.a (α:=l.den×m.den) x).1 f v else if f=l.sz then Ty.C w Y (.slice (.tree l m)) (Tre.ks (α:=l.den×m.den) x) 0 v else TyL.C w Y m (Tre.a (α:=l.den×m.den) x).2 (f-(l.sz+1)) v:=by
 change Tre (l.den×m.den)at x;show TrC _ _ _ _ _ x f v↔_;rw[TrC];by_cases hk:f=l.sz
 rotate_left
 ·rw[if_pos hk,if_neg hk]
 ·subst hk;rw[if_neg (by simp),if_neg (by omega),if_pos rfl];have e:∀i (h:i<x.ks.length),List.getD (α:=(Ty.tree l m).den) x.ks i (Ty.tree l m).dft=x.ks[i]:=fun i h=>by
   show List.getD x.ks i (⟨(l.dft,m.dft),[]⟩:Tre (l.den×m.den))=x.ks[i];simp[Wa,h]
  constructor
  ·rintro⟨p,c,hv,hn,hm,hr⟩;refine⟨p,c,hv,hn,hm,fun h0=> ?_⟩;obtain⟨b,o,hp,hb,hY,hk⟩:=hr h0;refine⟨b,o,hp,hb,hY,fun i f hi hf=> ?_⟩;obtain⟨u,hu,ho,hC⟩:=hk i f hi hf;exact⟨u,hu,ho,by rw[e i hi];exact hC⟩
  ·rintro⟨p,c,hv,hn,hm,hr⟩;refine⟨p,c,hv,hn,hm,fun h0=> ?_⟩;obtain⟨b,o,hp,hb,hY,hk⟩:=hr h0;refine⟨b,o,hp,hb,hY,fun i f hi hf=> ?_⟩;obtain⟨u,hu,ho,hC⟩:=hk i f hi hf;rw[e i hi]at hC;exact⟨u,hu,ho,hC⟩
def qqw(w:World)(Y:Nat->Prop)(t:Ty)(xs:List t.den)(b o:Nat):Prop:=
 b<w.heap.size/\¬Y b/\∀i f,i<xs.length->f<t.sz->∃u,w.cell? ⟨b,o+(i*t.sz+f),none⟩=some u/\u.oneCell' =true/\t.C w Y (xs.getD i t.dft) f u
def Stp(es:Array MapEntry)(k:Nat):Prop:=(∀x∈es.toList,x.born<k)/\(es.toList.map (·.born)).Nodup
theorem Stp.nil:Stp #[] 0:=⟨fun x hx=>by simp at hx,by simp⟩
theorem Stp.push{es:Array MapEntry}{k:Nat}(h:Stp es k)(a b:Value):Stp (es.push {key:=a,val:=b,born:=k}) (k+1):=by
 refine⟨fun x hx=> ?_,?_⟩
 ·simp only[Array.toList_push,WS,Wm]at hx;rcases hx with hx|rfl
  ·exact Nat.lt_succ_of_lt (h.1 x hx)
  ·exact Hl _
 ·simp only[Array.toList_push,Kq,Kd,KH];refine Hj.2 ⟨h.2,by simp,fun a ha b hb=> ?_⟩;obtain⟨x,hx,rfl⟩:=WG.1 ha;simp only[Wm]at hb;have:=h.1 x hx;omega
theorem Stp.of{es es' :Array MapEntry}{k:Nat}(h:Stp es k)(hb:es'.toList.map (·.born)=es.toList.map (·.born)):Stp es' k:=by
 refine⟨fun x hx=> ?_,by rw[hb];exact h.2⟩;have:x.born∈es'.toList.map (·.born):=WG.2 ⟨x,hx,rfl⟩;rw[hb]at this;obtain⟨y,hy,e⟩:=WG.1 this;rw[<-e];exact h.1 y hy
theorem Stp.modify{es:Array MapEntry}{k:Nat}(h:Stp es k)(j:Nat)(a b:Value):Stp (es.modify j fun e=>{e with key:=a,val:=b}) k:=by
 refine h.of ?_;apply KX;intro i;simp only[W6,WY,Hc];split
 ·cases es[i]? <;>rfl
 ·rfl
theorem Stp.sub{es es' :Array MapEntry}{k:Nat}(h:Stp es k)(hs:es'.toList.Sublist es.toList):Stp es' k:=⟨fun x hx=>h.1 x (hs.subset hx),(hs.map _).nodup h.2⟩
def q04(w:World)(Y:Nat->Prop)(kt vt:Ty)(es:List (kt.den×vt.den))(v:Value):Prop:=
 (v= .map none/\es=[])\/∃g hs c,v= .map (some g)/\g<w.heap.size/\¬Y g/\w.heap[g]? =some (.map hs c)/\Stp hs c/\hs.size=es.length/\∀(i:Nat) e p,hs[i]? =some e->es[i]? =some p->e.key=kt.v1 p.1/\vt.C w Y p.2 0 e.val
def SlR(w:World)(J:Pl)(T:TG)(sz off n:Nat)(v:Value):Prop:=
 (∃a,v= .slice a 0 0/\n=0)\/
 ∃g o c cur e,J T=some (g,o)/\v= .slice (some ⟨g,o+off*sz,none⟩) n c/\n<=c/\c<=maxLen/\w.heap[g]? =some (.cells cur e (0,0))/\cur.size=o+(off+c)*sz
def YY(X U:Nat->Prop)(fr:Bool)(b:Nat):Prop:=X b\/(fr=true/\U b)
structure Gr where
 w : World
 X : Nat -> Prop
 U : Nat -> Prop
 J : Pl
 I : Pl
def jap(v:Value):Prop:=∀a c,v= .slice a 0 c->a=none
def jw3(b:Option Bool)(v:Value):Prop:=match b with|some false=>jap v|some true=>∀n c,v≠ .slice none n c|none=>True
def fnV(f:FuncId)(l:List Value):Value:=bif Nat.blt f qcw then .func (.func f) #[] l.toArray else bif Nat.blt f qc2 then .func (.func (f-qcw)) l.toArray #[]else .iface (f-qc2) (l.headD undef)
theorem jx9(f:FuncId)(l:List Value):(∃g x y,fnV f l= .func (.func g) x y)\/∃t v,fnV f l= .iface t v:=by
 unfold fnV;cases Nat.blt f qcw with
 |true=>exact .inl ⟨_,_,_,rfl⟩
 |false=>cases Nat.blt f qc2 with
  |true=>exact .inl ⟨_,_,_,rfl⟩
  |false=>exact .inr ⟨_,_,rfl⟩
mutual
def VR(G:Gr):TV->Value->Prop
 | .any,_=>True
 | .int k n,v=>v= .int k n
 | .bool b,v=>v= .bool b
 | .val u,v=>v=u
 | .e0,v=>∃a,v= .slice a 0 0
 | .sl fr t xs,v=>Ty.C G.w (YY G.X G.U fr) (.slice t) xs 0 v
 | .rptr fr t xs i f,v=>∃b o,v= .pointer (some ⟨b,o+(i.toNat*t.sz+f),none⟩)/\qqw G.w (YY G.X G.U fr) t xs b o
 | .own T,v=>∃n sz,G.I T=some (n,sz)/\SlR G.w G.J T sz 0 n v
 | .ownS T off n,v=>∃m sz,G.I T=some (m,sz)/\off+n<=m/\SlR G.w G.J T sz off n v
 | .ptr T i f,v=>∃g o n sz,G.J T=some (g,o)/\G.I T=some (n,sz)/\v= .pointer (some ⟨g,o+(i.toNat*sz+f),none⟩)
 | .mp T,v=>∃g o q,G.J T=some (g,o)/\G.I T=some q/\v= .map (some g)
 | .dm fr kt vt es,v=>q04 G.w (YY G.X G.U fr) kt vt es v
 | .fn f cs,v=>∃l:List Value,v=fnV f l/\gf G cs l
 | .agg cs,v=>∃l:List Value,v= .agg l.toArray/\gf G cs l/\∀u∈l,u.oneCell' =true
 | .tup cs,v=>∃l:List Value,v= .tuple l.toArray/\gf G cs l
 | .cond c a,v=>if c=true then VR G a v else v=undef
 | .nl b a,v=>VR G a v/\jw3 b v
def gf(G:Gr):List TV->List Value->Prop
 |[],l=>l=[]
 |A::cs,l=>∃u r,l=u::r/\VR G A u/\gf G cs r
end
theorem gf.len{G:Gr}:∀{cs:List TV} {l:List Value},gf G cs l->l.length=cs.length
 |[],l,h=>by simp only[gf]at h;subst h;rfl
 |A::cs,l,h=>by
  obtain⟨u,r,rfl,_,h2⟩:=h;simp[gf.len h2]
theorem gf.at_{G:Gr}:∀{cs:List TV} {l:List Value},gf G cs l->∀(j:Nat) A,cs[j]? =some A->∃u,l[j]? =some u/\VR G A u
 |[],l,h,j,A,hj=>by simp at hj
 |B::cs,l,h,j,A,hj=>by
  obtain⟨u,r,rfl,h1,h2⟩:=h;cases j with
  |zero=>simp at hj;subst hj;exact⟨u,rfl,h1⟩
  |succ j=>exact gf.at_ h2 j A (by simpa using hj)
theorem gf.of{G:Gr}:∀{cs:List TV} {l:List Value},l.length=cs.length->(∀(j:Nat) A u,cs[j]? =some A->l[j]? =some u->VR G A u)->gf G cs l
 |[],l,hl,h=>by simpa[gf]using KJ hl
 |A::cs,[],hl,h=>by simp at hl
 |A::cs,u::r,hl,h=>⟨u,r,rfl,h 0 A u rfl rfl,gf.of (by simpa using hl) fun j B v hB hv=>h (j+1) B v (by simpa using hB) (by simpa using hv)⟩
theorem gf.getD{G:Gr}{cs:List TV}{l:List Value}(h:gf G cs l)(j:Nat)(hj:j<cs.length):∃u,l[j]? =some u/\VR G (cs.getD j .any) u:=by
 obtain⟨u,hu,hV⟩:=h.at_ j cs[j] (Wi hj);exact⟨u,hu,by rw[Wa,Wi hj];exact hV⟩
mutual
theorem Ty.cells_len(fr:Bool):∀(t:Ty) (x:t.den),(t.cells fr x).length=t.sz
 | .int _,_=>rfl
 | .bool,_=>rfl
 | .str,_=>rfl
 | .slice _,_=>rfl
 | .struct l,x=>TyL.cells_len fr l x
 | .tree l m,x=>by simp[Ty.cells,Ty.sz,TyL.cells_len fr l,TyL.cells_len fr m]
theorem TyL.cells_len(fr:Bool):∀(l:TyL) (x:l.den),(l.cells fr x).length=l.sz
 | .nil,_=>rfl
 | .cons t l,x=>by simp[TyL.cells,TyL.sz,Ty.cells_len fr t x.1,TyL.cells_len fr l x.2]
end
theorem qyz{fr:Bool}{l m:TyL}{x:(Ty.tree l m).den}{f:Nat}:(Ty.cells fr (.tree l m) x).getD f .any=
  if f<l.sz then(l.cells fr (Tre.a (α:=l.den×m.den) x).1).getD f .any else if f=l.sz then .sl fr (.tree l m) (Tre.ks (α:=l.den×m.den) x)else(m.cells fr (Tre.a (α:=l.den×m.den) x).2).getD (f-(l.sz+1)) .any:=by
 unfold Ty.cells;simp only[Wa,Hg,TyL.cells_len];split
 ·rfl
 ·rename_i h;split
  ·rename_i e;subst e;simp
  ·rename_i e;obtain⟨g,rfl⟩:∃g,f=l.sz+(g+1):=⟨f-l.sz-1,by omega⟩;rw[show l.sz+(g+1)-l.sz=g+1 by omega,show l.sz+(g+1)-(l.sz+1)=g by omega];simp
mutual
theorem Ty.C_iff(G:Gr)(fr:Bool):∀(t:Ty) (x:t.den) (f:Nat) (v:Value),f<t.sz->(Ty.C G.w (YY G.X G.U fr) t x f v↔VR G ((t.cells fr x).getD f .any) v)
 | .int k,n,f,v,h=>by
  obtain rfl:f=0:=by simp[Ty.sz]at h;omega
  rfl
 | .bool,b,f,v,h=>by
  obtain rfl:f=0:=by simp[Ty.sz]at h;omega
  rfl
 | .str,s,f,v,h=>by
  obtain rfl:f=0:=by simp[Ty.sz]at h;omega
  rfl
 | .slice t,xs,f,v,h=>by
  obtain rfl:f=0:=by simp[Ty.sz]at h;omega
  rfl
 | .struct l,x,f,v,h=>TyL.C_iff G fr l x f v h
 | .tree l m,x,f,v,h=>by
  rw[q86,qyz];split
  ·rename_i hlt;exact TyL.C_iff G fr l _ f v hlt
  ·split
   ·exact Iff.rfl
   ·exact TyL.C_iff G fr m _ _ v (by simp[Ty.sz]at h;omega)
theorem TyL.C_iff(G:Gr)(fr:Bool):∀(l:TyL) (x:l.den) (f:Nat) (v:Value),f<l.sz->(TyL.C G.w (YY G.X G.U fr) l x f v↔VR G ((l.cells fr x).getD f .any) v)
 | .nil,_,f,v,h=>by simp[TyL.sz]at h
 | .cons t l,x,f,v,h=>by
  unfold TyL.C TyL.cells;simp only[Wa];split
  ·rename_i hlt;rw[Wo (by rw[Ty.cells_len];exact hlt)];simpa[Wa]using Ty.C_iff G fr t x.1 f v hlt
  ·rename_i hge;rw[Wu (by rw[Ty.cells_len];omega),Ty.cells_len];have h' :f-t.sz<l.sz:=by simp[TyL.sz]at h;omega
   simpa[Wa]using TyL.C_iff G fr l x.2 (f-t.sz) v h'
end
structure Low (w : World) (Y : Nat -> Prop) (w' : World) (Y' : Nat -> Prop) : Prop where
 size : w.heap.size <= w'.heap.size
 ex : ∀ b, b < w.heap.size -> ¬ Y b -> ¬ Y' b
 blk : ∀ b, b < w.heap.size -> ¬ Y b -> w'.heap[b]? = w.heap[b]?
mutual
theorem Ty.C_low{w w' :World}{Y Y' :Nat->Prop}(h:Low w Y w' Y'):∀(t:Ty) (x:t.den) (f:Nat) (v:Value),Ty.C w Y t x f v->Ty.C w' Y' t x f v
 | .int _,_,_,_,hv=>hv
 | .bool,_,_,_,hv=>hv
 | .str,_,_,_,hv=>hv
 | .slice t,xs,_,v,hv=>by
  obtain⟨a,c,hv,hn,hc,hr⟩:=hv;refine⟨a,c,hv,hn,hc,fun h0=> ?_⟩;obtain⟨b,o,ha,hb,hY,hcell⟩:=hr h0;refine⟨b,o,ha,WL hb h.size,h.ex b hb hY,fun i f hi hf=> ?_⟩;obtain⟨u,hu,h1,hC⟩:=hcell i f hi hf;exact⟨u,(World.cell?_of_block (w:=w) (h.blk b hb hY)).trans hu,h1,Ty.C_low h t _ f u hC⟩
 | .struct l,x,f,v,hv=>TyL.C_low h l x f v hv
 | .tree l m,x,f,v,hv=>TrC.imp (fun b hb hY=>⟨WL hb h.size,h.ex b hb hY⟩) (fun b o u hb hY hu=>(World.cell?_of_block (w:=w) (h.blk b hb hY)).trans hu) (fun a f v hv=>by
   split at hv<;>rename_i e
   ·rw[if_pos e];exact TyL.C_low h l _ f v hv
   ·rw[if_neg e];exact TyL.C_low h m _ _ v hv) x f v hv
theorem TyL.C_low{w w' :World}{Y Y' :Nat->Prop}(h:Low w Y w' Y'):∀(l:TyL) (x:l.den) (f:Nat) (v:Value),TyL.C w Y l x f v->TyL.C w' Y' l x f v
 | .nil,_,_,_,hv=>hv
 | .cons t l,x,f,v,hv=>by
  unfold TyL.C at hv⊢;split
  ·rename_i hlt;rw[if_pos hlt]at hv;exact Ty.C_low h t _ f v hv
  ·rename_i hge;rw[if_neg hge]at hv;exact TyL.C_low h l _ _ v hv
end
theorem qqw.low{w w' :World}{Y Y' :Nat->Prop}(h:Low w Y w' Y'){t:Ty}{xs:List t.den}{b o:Nat}(hr:qqw w Y t xs b o):qqw w' Y' t xs b o:=by
 obtain⟨hb,hY,hcell⟩:=hr;refine⟨WL hb h.size,h.ex b hb hY,fun i f hi hf=> ?_⟩;obtain⟨u,hu,h1,hC⟩:=hcell i f hi hf;exact⟨u,(World.cell?_of_block (w:=w) (h.blk b hb hY)).trans hu,h1,Ty.C_low h t _ f u hC⟩
theorem q04.low{w w' :World}{Y Y' :Nat->Prop}(h:Low w Y w' Y'){kt vt:Ty}{es:List (kt.den×vt.den)}{v:Value}(hr:q04 w Y kt vt es v):q04 w' Y' kt vt es v:=by
 rcases hr with hr|⟨g,hs,c,hv,hg,hY,hh,hst,hl,hc⟩
 ·exact .inl hr
 ·refine .inr ⟨g,hs,c,hv,WL hg h.size,h.ex g hg hY,(h.blk g hg hY).trans hh,hst,hl,fun i e p he hp=> ?_⟩;obtain⟨h1,h2⟩:=hc i e p he hp;exact⟨h1,Ty.C_low h vt _ 0 _ h2⟩
mutual
theorem Ty.C_flat{w w' :World}{Y Y' :Nat->Prop}:∀(t:Ty) (x:t.den) (f:Nat) (v:Value),t.flat=true->Ty.C w Y t x f v->Ty.C w' Y' t x f v
 | .int _,_,_,_,_,hv=>hv
 | .bool,_,_,_,_,hv=>hv
 | .str,_,_,_,_,hv=>hv
 | .slice t,xs,_,v,h,hv=>by simp[Ty.flat]at h
 | .struct l,x,f,v,h,hv=>TyL.C_flat l x f v h hv
 | .tree _ _,x,f,v,h,hv=>by simp[Ty.flat]at h
theorem TyL.C_flat{w w' :World}{Y Y' :Nat->Prop}:∀(l:TyL) (x:l.den) (f:Nat) (v:Value),l.flat=true->TyL.C w Y l x f v->TyL.C w' Y' l x f v
 | .nil,_,_,_,_,hv=>hv
 | .cons t l,x,f,v,h,hv=>by
  simp only[TyL.flat,Wc]at h;unfold TyL.C at hv⊢;split
  ·rename_i hlt;rw[if_pos hlt]at hv;exact Ty.C_flat t _ f v h.1 hv
  ·rename_i hge;rw[if_neg hge]at hv;exact TyL.C_flat l _ _ v h.2 hv
end
structure Mv (θ : TG -> Ac) (G G' : Gr) : Prop where
 size : G.w.heap.size <= G'.w.heap.size
 ex : ∀ b, b < G.w.heap.size -> ¬ G.X b -> ¬ G'.X b
 ux : ∀ b, b < G.w.heap.size -> ¬ G.X b -> ¬ G.U b -> ¬ G'.U b
 blk : ∀ b, b < G.w.heap.size -> ¬ G.X b -> G'.w.heap[b]? = G.w.heap[b]?
 to : ∀ T T' q, (θ T = .id /\ T' = T) \/ θ T = .to T' -> G.I T = some q -> G'.I T' = some q /\ ∀ g o, G.J T = some (g, o) -> G'.J T' = some (g, o) /\
   ∀ cur e, G.w.heap[g]? = some (.cells cur e (0, 0)) -> ∃ cur', G'.w.heap[g]? = some (.cells cur' e (0, 0)) /\ cur'.size = cur.size
 fz : ∀ T fr u xs q, θ T = .fz fr u xs -> G.I T = some q -> q = (xs.length, u.sz) /\ ∀ g o, G.J T = some (g, o) -> qqw G'.w (YY G'.X G'.U fr) u xs g o
theorem Mv.low{θ:TG->Ac}{G G' :Gr}(h:Mv θ G G')(fr:Bool):Low G.w (YY G.X G.U fr) G'.w (YY G'.X G'.U fr):=by
 refine⟨h.size,fun b hb hY hY' => ?_,fun b hb hY=>h.blk b hb fun e=>hY (.inl e)⟩;rcases hY' with hx|⟨hf,hu⟩
 ·exact h.ex b hb (fun e=>hY (.inl e)) hx
 ·exact h.ux b hb (fun e=>hY (.inl e)) (fun e=>hY (.inr ⟨hf,e⟩)) hu
theorem SlR.to{θ:TG->Ac}{G G' :Gr}(h:Mv θ G G'){T T' :TG}{q:Nat×Nat}(ht:(θ T= .id/\T' =T)\/θ T= .to T')(hI:G.I T=some q){sz off n:Nat}{v:Value}(hs:SlR G.w G.J T sz off n v):SlR G'.w G'.J T' sz off n v:=by
 rcases hs with hs|⟨g,o,c,cur,e,hJ,hv,hn,hc,hh,hsz⟩
 ·exact .inl hs
 ·obtain⟨_,h2⟩:=h.to T T' q ht hI;obtain⟨h3,h4⟩:=h2 g o hJ;obtain⟨cur',hh',hsz'⟩:=h4 cur e hh;exact .inr ⟨g,o,c,cur',e,h3,hv,hn,hc,hh',hsz'.trans hsz⟩
theorem SlR.fz{w:World}{J:Pl}{w' :World}{Y:Nat->Prop}{T:TG}{u:Ty}{xs:List u.den}{off n:Nat}(hn:off+n<=xs.length)(hrow:∀g o,J T=some (g,o)->qqw w' Y u xs g o){v:Value}
  (hs:SlR w J T u.sz off n v):Ty.C w' Y (.slice u) ((xs.drop off).take n) 0 v:=by
 have hl:List.length (α:=u.den) ((xs.drop off).take n)=n:=by simp;omega
 rcases hs with⟨a,rfl,rfl⟩|⟨g,o,c,cur,e,hJ,rfl,hnc,hc,hh,hsz⟩
 ·exact⟨a,0,by rw[hl],by rw[hl];exact Wg _,W7 _,fun h0=>by rw[hl]at h0;omega⟩
 ·obtain⟨hb,hY,hcell⟩:=hrow g o hJ;refine⟨_,c,by rw[hl],by rw[hl];exact hnc,hc,fun _=>⟨g,o+off*u.sz,rfl,hb,hY,fun i f hi hf=> ?_⟩⟩;rw[hl]at hi;obtain⟨x,hx,h1,hC⟩:=hcell (off+i) f (by omega) hf;refine⟨x,?_,h1,?_⟩
  ·rw[<-hx];congr 2;rw[WM];omega
  ·have:List.getD (α:=u.den) ((xs.drop off).take n) i u.dft=xs.getD (off+i) u.dft:=by
    simp only[Wa,WZ,WI,if_pos hi]
   rw[this];exact hC
mutual
theorem VR.mv{θ:TG->Ac}{G G' :Gr}(h:Mv θ G G'):∀(A:TV) (v:Value),VR G A v->VR G' (A.sb θ) v
 | .any,v,hv=>trivial
 | .int _ _,v,hv=>hv
 | .bool _,v,hv=>hv
 | .val _,v,hv=>hv
 | .e0,v,hv=>hv
 | .sl fr t xs,v,hv=>Ty.C_low (h.low fr) (.slice t) xs 0 v hv
 | .rptr fr t xs i f,v,hv=>by
  obtain⟨b,o,hv,hr⟩:=hv;exact⟨b,o,hv,hr.low (h.low fr)⟩
 | .own T,v,hv=>by
  obtain⟨n,sz,hI,hs⟩:=hv;unfold TV.sb;split
  ·rename_i e;exact⟨n,sz,(h.to T T _ (.inl ⟨e,rfl⟩) hI).1,hs.to h (.inl ⟨e,rfl⟩) hI⟩
  ·trivial
  ·rename_i T' e;exact⟨n,sz,(h.to T T' _ (.inr e) hI).1,hs.to h (.inr e) hI⟩
  ·rename_i fr u xs e;obtain⟨hq,hrow⟩:=h.fz T fr u xs _ e hI;simp only[Wj]at hq;obtain⟨rfl,rfl⟩:=hq;have:=SlR.fz (n:=xs.length) (off:=0) (by omega) hrow hs;simp only[K3,WW]at this;exact this
 | .ownS T off m,v,hv=>by
  obtain⟨n,sz,hI,hle,hs⟩:=hv;unfold TV.sb;split
  ·rename_i e;exact⟨n,sz,(h.to T T _ (.inl ⟨e,rfl⟩) hI).1,hle,hs.to h (.inl ⟨e,rfl⟩) hI⟩
  ·trivial
  ·rename_i T' e;exact⟨n,sz,(h.to T T' _ (.inr e) hI).1,hle,hs.to h (.inr e) hI⟩
  ·rename_i fr u xs e;obtain⟨hq,hrow⟩:=h.fz T fr u xs _ e hI;simp only[Wj]at hq;obtain⟨rfl,rfl⟩:=hq;exact SlR.fz hle hrow hs
 | .ptr T i f,v,hv=>by
  obtain⟨g,o,n,sz,hJ,hI,hv⟩:=hv;unfold TV.sb;split
  ·rename_i e;obtain⟨h1,h2⟩:=h.to T T _ (.inl ⟨e,rfl⟩) hI;exact⟨g,o,n,sz,(h2 g o hJ).1,h1,hv⟩
  ·trivial
  ·rename_i T' e;obtain⟨h1,h2⟩:=h.to T T' _ (.inr e) hI;exact⟨g,o,n,sz,(h2 g o hJ).1,h1,hv⟩
  ·rename_i fr u xs e;obtain⟨hq,hrow⟩:=h.fz T fr u xs _ e hI;simp only[Wj]at hq;obtain⟨rfl,rfl⟩:=hq;exact⟨g,o,hv,hrow g o hJ⟩
 | .mp T,v,hv=>by
  obtain⟨g,o,q,hJ,hI,hv⟩:=hv;unfold TV.sb;split
  ·rename_i e;obtain⟨h1,h2⟩:=h.to T T _ (.inl ⟨e,rfl⟩) hI;exact⟨g,o,q,(h2 g o hJ).1,h1,hv⟩
  ·trivial
  ·rename_i T' e;obtain⟨h1,h2⟩:=h.to T T' _ (.inr e) hI;exact⟨g,o,q,(h2 g o hJ).1,h1,hv⟩
  ·trivial
 | .dm fr kt vt es,v,hv=>q04.low (h.low fr) hv
 | .fn f cs,v,hv=>by
  obtain⟨l,hl,hc⟩:=hv;exact⟨l,hl,gf.mv h cs l hc⟩
 | .agg cs,v,hv=>by
  obtain⟨l,hl,hc,h1⟩:=hv;exact⟨l,hl,gf.mv h cs l hc,h1⟩
 | .tup cs,v,hv=>by
  obtain⟨l,hl,hc⟩:=hv;exact⟨l,hl,gf.mv h cs l hc⟩
 | .cond c a,v,hv=>by
  unfold TV.sb;unfold VR at hv⊢;split
  ·rename_i hc;rw[if_pos hc]at hv;exact VR.mv h a v hv
  ·rename_i hc;rw[if_neg hc]at hv;exact hv
 | .nl _ a,v,hv=>⟨VR.mv h a v hv.1,hv.2⟩
theorem gf.mv{θ:TG->Ac}{G G' :Gr}(h:Mv θ G G'):∀(cs:List TV) (l:List Value),gf G cs l->gf G' (TV.sbL θ cs) l
 |[],l,hl=>hl
 |A::cs,l,hl=>by
  obtain⟨u,r,rfl,h1,h2⟩:=hl;exact⟨u,r,rfl,VR.mv h A u h1,gf.mv h cs r h2⟩
end
structure Vw where
 ty : TypeId
 sz : Nat
 n : Nat
 cs : Nat -> Nat -> TV
def Md.fr:Md->Bool
 | .fz fr=>fr
 |_=>true
def b7(t:Nat)(md:Md)(u:Ty)(xs:List u.den)(i f:Nat):TV:=
 match(u.cells md.fr (xs.getD i u.dft)).getD f .any with
 | .sl fr v ys=>
  match md with
  | .fz _=> .sl fr v ys
  | .own=> .own (.r t i f)
  | .hole i0 f0=>if i=i0/\f=f0 then .any else .own (.r t i f)
  | .swap i0 j0=>if i=i0 then .own (.r t j0 f)else .own (.r t i f)
 |A=>A
def qzc(kt vt:Ty)(es:List (kt.den×vt.den))(i f:Nat):TV:=
 match es[i]? with
 |some e=>match f with|0=> .val (kt.v1 e.1)|1=> .val (vt.v1 e.2)|_=> .any
 |none=> .any
def moC(t:Nat)(kt:Ty){β:Type}(es:List (kt.den×β))(h:Option Nat)(i f:Nat):TV:=
 match es[i]? with
 |some e=>match f with|0=> .val (kt.v1 e.1)|1=>(if h=some i then .any else .own (.r t i 0))|_=> .any
 |none=> .any
def vwO(t:Nat):TOb->Option Vw
 | .arr ty md _ u xs=>some ⟨ty,u.sz,xs.length,fun i f=>b7 t md u xs i f⟩
 | .cs ty sz n cs=>some ⟨ty,sz,n,fun i f=>cs.getD (i*sz+f) .any⟩
 | .mp kt vt es=>some ⟨0,0,0,fun i f=>qzc kt vt es i f⟩
 | .mo kt _ _ es h=>some ⟨0,0,0,fun i f=>moC t kt es h i f⟩
 | .gone=>none
def vwR(i f:Nat):TOb->Option Vw
 | .arr _ md its u xs=>
  if md.isOwn=true/\i<xs.length then
   match ek u (xs.getD i u.dft) f with
   |some ⟨v,ys⟩=>some ⟨its.getD f 0,v.sz,ys.length,fun j g=>(v.cells true (ys.getD j v.dft)).getD g .any⟩
   |none=>none
  else none
 | .mo _ u ety es _=>if f=0/\i<es.length then some ⟨ety,u.sz,(qeh es i).length,fun j g=>(u.cells true ((qeh es i).getD j u.dft)).getD g .any⟩else none
 |_=>none
def vw(H:List TOb):TG->Option Vw
 | .o t=>match H[t]? with|some ob=>vwO t ob|none=>none
 | .r t i f=>match H[t]? with|some ob=>vwR i f ob|none=>none
def aj(V:TG->Option Vw):Pl:=fun T=>(V T).map fun v=>(v.n,v.sz)
def da(J:Pl)(b:Nat):Prop:=∃T o,J T=some (b,o)
def gr(U:Nat->Prop)(V:TG->Option Vw)(w:World)(J:Pl):Gr:=⟨w,da J,U,J,aj V⟩
def wz(G:Gr)(v:Vw)(es:Array MapEntry)(k:Nat):Prop:=Stp es k/\∀i,match es[i]? with|some e=>v.cs i 0= .val e.key/\VR G (v.cs i 1) e.val|none=>v.cs i 0= .any/\v.cs i 1= .any
theorem wz.at_{G:Gr}{v:Vw}{es:Array MapEntry}{k:Nat}(h:wz G v es k){i:Nat}{e:MapEntry}(he:es[i]? =some e):v.cs i 0= .val e.key/\VR G (v.cs i 1) e.val:=by
 have:=h.2 i;rw[he]at this;exact this
theorem wz.no{G:Gr}{v:Vw}{es:Array MapEntry}{k:Nat}(h:wz G v es k){i:Nat}(he:es[i]? =none):v.cs i 0= .any/\v.cs i 1= .any:=by
 have:=h.2 i;rw[he]at this;exact this
theorem wz.mk'{G:Gr}{v:Vw}{es:Array MapEntry}{k:Nat}(hst:Stp es k)(h1:∀i e,es[i]? =some e->v.cs i 0= .val e.key/\VR G (v.cs i 1) e.val)(h2:∀i,es[i]? =none->v.cs i 0= .any/\v.cs i 1= .any):wz G v es k:=by
 refine⟨hst,fun i=> ?_⟩;cases he:es[i]? with
 |none=>exact h2 i he
 |some e=>exact h1 i e he
theorem wz.sb{G G' :Gr}{v v' :Vw}{es:Array MapEntry}{k:Nat}(h:wz G v es k){θ:TG->Ac}(hz:∀i f,v'.cs i f=(v.cs i f).sb θ)(hm:∀i u,VR G (v.cs i 1) u->VR G' (v'.cs i 1) u):wz G' v' es k:=by
 refine wz.mk' h.1 (fun i e he=> ?_) fun i he=> ?_
 ·obtain⟨h1,h2⟩:=h.at_ he;exact⟨by rw[hz,h1];rfl,hm i _ h2⟩
 ·obtain⟨h1,h2⟩:=h.no he;rw[hz,hz,h1,h2];exact⟨rfl,rfl⟩
def OR(G:Gr)(p:Option (Nat×Nat))(v:Vw):Prop:=
 match p with
 |none=>v.n=0
 |some (g,o)=>((0<v.sz\/0<v.n)/\∃cur c,G.w.heap[g]? =some (.cells cur v.ty (0,0))/\cur.size=o+c*v.sz/\v.n<=c/\
  ∀i f,i<v.n->f<v.sz->∃u,cur[o+(i*v.sz+f)]? =some u/\u.oneCell' =true/\VR G (v.cs i f) u)\/
  (v.sz=0/\v.n=0/\∃es k,G.w.heap[g]? =some (.map es k)/\wz G v es k)
theorem OR.map{G:Gr}{g o:Nat}{v:Vw}(h:OR G (some (g,o)) v)(h1:v.sz=0)(h2:v.n=0):∃es k,G.w.heap[g]? =some (.map es k)/\wz G v es k:=by
 rcases h with⟨h,_⟩|⟨_,_,h⟩
 ·omega
 ·exact h
theorem OR.cells{G:Gr}{g o:Nat}{v:Vw}(h:OR G (some (g,o)) v)(hp:0<v.sz\/0<v.n):∃cur c,G.w.heap[g]? =some (.cells cur v.ty (0,0))/\cur.size=o+c*v.sz/\v.n<=c/\
   ∀i f,i<v.n->f<v.sz->∃u,cur[o+(i*v.sz+f)]? =some u/\u.oneCell' =true/\VR G (v.cs i f) u:=by
 rcases h with h|⟨h1,h2,_⟩
 ·exact h.2
 ·omega
def joo:Array Value:=((List.range 20).map fun i=>Value.int .u64 ((10 ^ i:Nat):Int)).toArray
def jru(g:Nat):Option (Array Value):=bif Nat.beq g 0 then some joo else none
def Tbo(w:World)(J:Pl):Prop:=∀g c,jru g=some c->(∃e f,w.heap[g]? =some (.cells c e f))/\∀T o,J T≠some (g,o)
structure HR (U : Nat -> Prop) (w0 : World) (J0 : Pl) (K : Nat -> Bool) (V : TG -> Option Vw) (w : World) (J : Pl) : Prop where
 inj : ∀ T T' g o o', J T = some (g, o) -> J T' = some (g, o') -> T = T'
 dom : ∀ T p, J T = some p -> ∃ v, V T = some v
 obj : ∀ T v, V T = some v -> OR (gr U V w J) (J T) v
 own : ∀ T g o, J T = some (g, o) -> ¬ U g /\ (w0.heap.size <= g \/ ∃ T' o', J0 T' = some (g, o'))
 os : w.os = w0.os
 tape : w.tape = w0.tape
 output : w.output = w0.output
 size : w0.heap.size <= w.heap.size
 blk : ∀ b, b < w0.heap.size -> (∀ T o, J0 T ≠ some (b, o)) -> w.heap[b]? = w0.heap[b]?
 keep : ∀ t, K t = true -> J (.o t) = J0 (.o t)
 ksz : ∀ t g o, K t = true -> J0 (.o t) = some (g, o) -> ∀ cur e, w0.heap[g]? = some (.cells cur e (0, 0)) -> ∃ cur', w.heap[g]? = some (.cells cur' e (0, 0)) /\ cur'.size = cur.size
 ulow : ∀ b, U b -> b < w0.heap.size
 tb0 : Tbo w0 J0
theorem HR.tb{U:Nat->Prop}{w0 w:World}{J0 J:Pl}{K:Nat->Bool}{V:TG->Option Vw}(h:HR U w0 J0 K V w J):Tbo w J:=fun g c hc=>by
 obtain⟨⟨e,f,h1⟩,h2⟩:=h.tb0 g c hc;have hlt:g<w0.heap.size:=by
  rcases Wz g w0.heap.size with h' |h'
  ·exact h'
  ·rw[KV h']at h1;cases h1
 refine⟨⟨e,f,(h.blk g hlt h2).trans h1⟩,fun T o hT=> ?_⟩;rcases(h.own T g o hT).2 with h3|⟨T',o',h3⟩
 ·omega
 ·exact h2 T' o' h3
structure ARel (U : Nat -> Prop) (w0 : World) (J0 : Pl) (K : Nat -> Bool) (N : Nat) (S : Nat -> TV) (V : TG -> Option Vw) (a : Act) (w : World) (J : Pl) : Prop where
 defers : a.defers = []
 len : a.tmps.size = N
 slot : ∀ t, t < N -> ∃ v, a.tmps[t]? = some v /\ VR (gr U V w J) (S t) v
 hr : HR U w0 J0 K V w J
abbrev dr(U:Nat->Prop)(w0:World)(J0:Pl)(K:Nat->Bool)(N:Nat)(s:TS)(a:Act)(w:World)(J:Pl):Prop:=ARel U w0 J0 K N (bu s.S) (vw s.H) a w J
end Go.K
namespace Go.K
open Go.M Go.RowKit
def gb(l:List Bool):Prop:=∀c∈l,c=true
theorem gb.app{l m:List Bool}(h:gb (l++m)):gb l/\gb m:=⟨fun c hc=>h c (WS.2 (.inl hc)),fun c hc=>h c (WS.2 (.inr hc))⟩
theorem gb.cons{c:Bool}{m:List Bool}(h:gb (c::m)):c=true/\gb m:=⟨h c (Wf ..),fun d hd=>h d (We _ hd)⟩
theorem gb.nil:gb []:=fun c hc=>by simp at hc
theorem cr{α:Type}{c:Bool}{m:Option α}{r:α}(h:al c m=some r):c=true/\m=some r:=by
 unfold al at h;cases c with
 |true=>exact⟨rfl,h⟩
 |false=>cases h
theorem bn{α:Type}:∀{l:List Bool} {m:Option α} {r:α},ckL l m=some r->gb l/\m=some r
 |[],m,r,h=>⟨gb.nil,h⟩
 |c::l,m,r,h=>by
  obtain⟨h1,h2⟩:=cr h;obtain⟨h3,h4⟩:=bn h2;exact⟨fun d hd=>(Wr.1 hd).elim (fun e=>e▸h1) (h3 d),h4⟩
theorem ai{α:Type}{c:Bool}{m:Option α}{r:α}(h:(bif c then m else none)=some r):c=true/\m=some r:=cr h
theorem ax{a b:Nat}(h:Nat.beq a b=true):a=b:=Nat.eq_of_beq_eq_true h
theorem cm{a b:Nat}(h:Nat.blt a b=true):a<b:=by simpa[HW]using h
theorem qc3{a b:Nat}(h:Nat.ble a b=true):a<=b:=Ky h
theorem VR.gt{G:Gr}:∀{A:TV} {v:Value},VR G A v->gb A.nd->VR G A.gt v
 | .cond c a,v,h,hn=>by
  obtain⟨h1,h2⟩:=gb.cons (c:=c) (m:=a.nd) hn;unfold VR at h;rw[if_pos h1]at h;exact VR.gt (A:=a) h h2
 | .nl _ a,v,h,hn=>VR.gt (A:=a) h.1 hn
 | .any,v,h,_=>h
 | .int _ _,v,h,_=>h
 | .bool _,v,h,_=>h
 | .val _,v,h,_=>h
 | .e0,v,h,_=>h
 | .sl _ _ _,v,h,_=>h
 | .rptr _ _ _ _ _,v,h,_=>h
 | .own _,v,h,_=>h
 | .ownS _ _ _,v,h,_=>h
 | .ptr _ _ _,v,h,_=>h
 | .mp _,v,h,_=>h
 | .dm _ _ _ _,v,h,_=>h
 | .fn _ _,v,h,_=>h
 | .agg _,v,h,_=>h
 | .tup _,v,h,_=>h
theorem jpx(G:Gr)(v:Value):VR G (ofV v) v:=by cases v<;>simp[ofV,VR]
def TOb.isArr:TOb->Bool
 | .arr _ _ _ _ _=>true
 |_=>false
structure Sees (G : Gr) (H : List TOb) : Prop where
 see : ∀ T v, vw H T = some v -> G.I T = some (v.n, v.sz) /\ OR G (G.J T) v
 all : ∀ t i f ob, H[t]? = some ob -> ob.isArr = true -> ∀ q, G.I (.r t i f) = some q -> ∃ v, vw H (.r t i f) = some v
theorem az{H:List TOb}{t:Nat}{ty:TypeId}{md:Md}{its:List TypeId}{u:Ty}{xs:List u.den}(h:H[t]? =some (.arr ty md its u xs)):vw H (.o t)=some ⟨ty,u.sz,xs.length,fun i f=>b7 t md u xs i f⟩:=by
 simp only[vw,h,vwO]
theorem qfs{H:List TOb}{t:Nat}{ty:TypeId}{sz n:Nat}{cs:List TV}(h:H[t]? =some (.cs ty sz n cs)):vw H (.o t)=some ⟨ty,sz,n,fun i f=>cs.getD (i*sz+f) .any⟩:=by
 simp only[vw,h,vwO]
theorem qqv{H:List TOb}{t:Nat}{kt vt:Ty}{es:List (kt.den×vt.den)}(h:H[t]? =some (.mp kt vt es)):vw H (.o t)=some ⟨0,0,0,fun i f=>qzc kt vt es i f⟩:=by
 simp only[vw,h,vwO]
theorem qa0{H:List TOb}{t:Nat}{kt u:Ty}{ety:TypeId}{es:List (kt.den×List u.den)}{h0:Option Nat}(h:H[t]? =some (.mo kt u ety es h0)):vw H (.o t)=some ⟨0,0,0,fun i f=>moC t kt es h0 i f⟩:=by
 simp only[vw,h,vwO]
theorem qm{H:List TOb}{t:Nat}{kt u:Ty}{ety:TypeId}{es:List (kt.den×List u.den)}{h0:Option Nat}(h:H[t]? =some (.mo kt u ety es h0))(i f:Nat):vw H (.r t i f)=if f=0/\i<es.length then some ⟨ety,u.sz,(qeh es i).length,fun j g=>(u.cells true ((qeh es i).getD j u.dft)).getD g .any⟩else none:=by
 simp only[vw,h,vwR]
theorem q1o{G:Gr}{H:List TOb}(h:Sees G H){T:TG}{n sz:Nat}(hl:jky H T=some (n,sz)){q:Nat×Nat}(hq:G.I T=some q):q=(n,sz):=by
 cases T with
 |o t=>
  simp only[jky]at hl;split at hl
  ·rename_i ty md its u xs ho;simp only[Wb,Wj]at hl;obtain⟨rfl,rfl⟩:=hl;have:=(h.see (.o t) _ (az ho)).1;rw[hq]at this;simpa using this
  ·rename_i ty sz' n' cs ho;simp only[Wb,Wj]at hl;obtain⟨rfl,rfl⟩:=hl;have:=(h.see (.o t) _ (qfs ho)).1;rw[hq]at this;simpa using this
  ·cases hl
 |r t i f=>
  simp only[jky]at hl;split at hl
  ·rename_i ty md its u xs ho;obtain⟨hm,hl⟩:=ai hl;split at hl
   ·rename_i v ys hi;simp only[Wb,Wj]at hl;obtain⟨rfl,rfl⟩:=hl;obtain⟨w,hw⟩:=h.all t i f _ ho rfl q hq;have h1:=(h.see _ _ hw).1;rw[hq]at h1;simp only[vw,ho,vwR]at hw;split at hw
    ·rw[hi]at hw;simp only[Wb]at hw;subst hw;simpa using h1
    ·cases hw
   ·cases hl
  ·cases hl
section
variable {P : Program} {tt : TT}
theorem dq.underlying(hF:dq P tt){t:TypeId}{x:TI}(h:tt t=some x):∃d,P.underlying t=some d/\TK.of d=x.k.plain:=by
 obtain⟨i,d,z,h1,h2,h3,_⟩:=(hF t x h).1;exact⟨d,h2,h3⟩
theorem ck{t:TypeId}{x:TI}(hF:dq P tt)(h:tt t=some x)(w:World):(sizeOf t).run P w= .ok x.sz w:=by
 obtain⟨i,d,z,h1,h2,h3,h4,_⟩:=(hF t x h).1;simp[sizeOf,typeInfo,h1,h4]
theorem qr7{t:TypeId}{x:TI}(hF:dq P tt)(h:tt t=some x)(w:World):(isAgg t).run P w= .ok x.k.agg w:=by
 obtain⟨i,d,z,h1,h2,h3,h4,_⟩:=(hF t x h).1;have e:x.k.agg=x.k.plain.agg:=by cases x.k<;>rfl
 rw[e,<-h3];cases d<;>simp[isAgg,Wq h2,TK.of,TK.agg]
theorem jh(hF:dq P tt){t el:TypeId}{a b:Nat}{z:List Value}(h:tt t=some ⟨.slice el,a,b,z⟩):P.underlying t=some (.slice el):=by
 obtain⟨d,h1,h2⟩:=hF.underlying h;cases d<;>simp[TK.of,TK.plain]at h2;subst h2;exact h1
theorem q6j(hF:dq P tt){t el:TypeId}{c:Bool}{n a b:Nat}{z:List Value}(h:tt t=some ⟨.arr c n el,a,b,z⟩):P.underlying t=some (.array n el):=by
 obtain⟨d,h1,h2⟩:=hF.underlying h;cases d<;>simp[TK.of,TK.plain]at h2;obtain⟨rfl,rfl⟩:=h2;exact h1
theorem q6k(hF:dq P tt){t:TypeId}{k:IntKind}{a b:Nat}{z:List Value}(h:tt t=some ⟨.int k,a,b,z⟩):P.underlying t=some (.int k):=by
 obtain⟨d,h1,h2⟩:=hF.underlying h;cases d<;>simp[TK.of,TK.plain]at h2;subst h2;exact h1
theorem jf9(hF:dq P tt){t:TypeId}{a b:Nat}{z:List Value}(h:tt t=some ⟨.bool,a,b,z⟩):P.underlying t=some .bool:=by
 obtain⟨d,h1,h2⟩:=hF.underlying h;cases d<;>simp[TK.of,TK.plain]at h2;exact h1
theorem q6l(hF:dq P tt){t:TypeId}{a b:Nat}{z:List Value}(h:tt t=some ⟨.str,a,b,z⟩):P.underlying t=some .string:=by
 obtain⟨d,h1,h2⟩:=hF.underlying h;cases d<;>simp[TK.of,TK.plain]at h2;exact h1
theorem qsg(hF:dq P tt){t:TypeId}{c:Bool}{fs:List (Nat×TypeId)}{a b:Nat}{z:List Value}(h:tt t=some ⟨.strct c fs,a,b,z⟩):
  ∃F:Array Field,P.underlying t=some (.struct F)/\F.toList.map (fun f=>(f.offset,f.type))=fs:=by
 obtain⟨d,h1,h2⟩:=hF.underlying h;cases d<;>simp[TK.of,TK.plain]at h2;exact⟨_,h1,by simpa using h2⟩
theorem qgw(hF:dq P tt){t:TypeId}{ti:TI}(ht:tt t=some ti){G:Gr}{b base:Nat}{cs:List TV}
  (hc:∀f,f<cs.length->∃u,G.w.cell? ⟨b,base+f,none⟩=some u/\u.oneCell' =true/\VR G (cs.getD f .any) u) {f:Nat} {A:TV} (hp:qz3 ti cs f=some A):
  ∃v,(loadVar t ⟨b,base+f,none⟩).run P G.w= .ok v G.w/\VR G A v:=by
 have ha:=qr7 hF ht G.w;have hs:=ck hF ht G.w;unfold qz3 at hp;split at hp
 ·rename_i hk;obtain⟨h1,h2⟩:=ai hp;cases h2;have hle:=qc3 h1;have hex:∀j,j<ti.sz->∃u,G.w.cell? ((⟨b,base+f,none⟩:Addr).add j)=some u/\u.oneCell' =true/\VR G (cs.getD (f+j) .any) u:=by
   intro j hj;obtain⟨u,hu,h1,hV⟩:=hc (f+j) (by omega);refine⟨u,?_,h1,hV⟩;rw[KL,<-hu];congr 2;omega
  have hl:=run_loadCells (P:=P) G.w ⟨b,base+f,none⟩ ti.sz (fun j=>(G.w.cell? ((⟨b,base+f,none⟩:Addr).add j)).getD undef)
   (fun j hj=>by obtain⟨u,hu,_⟩:=hex j hj;rw[hu];rfl)
  refine⟨.agg _,by simp only[loadVar,WJ,ha,hk,Wy,Kw,hs,hl,WU];rfl,_,rfl,gf.of ?_ ?_,?_⟩
  ·simp;omega
  ·intro j A u hA hu;rw[WZ]at hA;split at hA
   ·rename_i hj;rw[WI]at hA;obtain⟨v,hv,h1,hV⟩:=hex j hj;have:u=v:=by
     simp[List.getElem?_ofFn,hj,hv]at hu;exact hu.symm
    subst this;rw[Wa,hA]at hV;exact hV
   ·cases hA
  ·intro u hu;obtain⟨j,hj⟩:=List.mem_iff_getElem?.1 hu;have hjl:j<ti.sz:=by
    rcases Wz j ti.sz with h' |h'
    ·exact h'
    ·rw[Wp (by simpa using h')]at hj;cases hj
   obtain⟨v,hv,h1,_⟩:=hex j hjl;simp[List.getElem?_ofFn,hjl,hv]at hj;subst hj;exact h1
 ·rename_i hk;obtain⟨h1,h2⟩:=ai hp;cases h2;obtain⟨u,hu,_,hV⟩:=hc f (cm h1);refine⟨u,?_,hV⟩;simp[loadVar,ha,hk,hu]
theorem jnv(t i:Nat):∀(l:List TV) (f:Nat),(jdt t i f l).length=l.length
 |[],f=>rfl
 |v::l,f=>by cases v<;>simp[jdt,jnv t i l]
theorem jsz(t i:Nat):∀(l:List TV) (f j:Nat),(jdt t i f l).getD j .any=match l.getD j .any with| .sl _ _ _=> .own (.r t i (f+j))|A=>A
 |[],f,j=>by simp[jdt]
 |v::l,f,0=>by cases v<;>simp[jdt]
 |v::l,f,j+1=>by
  have:=jsz t i l (f+1) j;have e:(jdt t i f (v::l)).getD (j+1) .any=(jdt t i (f+1) l).getD j .any:=by cases v<;>simp[jdt]
  rw[e,this];simp only[List.getD_cons_succ];rw[show f+1+j=f+(j+1) by omega]
theorem j7o{t:Nat}{md:Md}{u:Ty}{xs:List u.den}{i:Nat}{cs:List TV}(h:elC t md u (xs.getD i u.dft) i=some cs):cs.length=u.sz/\∀f,f<u.sz->cs.getD f .any=b7 t md u xs i f:=by
 unfold elC at h;cases md with
 |fz fr=>
  cases h;refine⟨Ty.cells_len fr u _,fun f hf=> ?_⟩;unfold b7;simp only[Md.fr];split<;>simp_all
 |own=>
  cases h;refine⟨(jnv ..).trans (Ty.cells_len true u _),fun f hf=> ?_⟩;rw[jsz];unfold b7;simp only[Md.fr,WR]
  all_goals (split<;>simp_all)
 |hole _ _=>cases h
 |swap _ _=>cases h
theorem OR.at_{G:Gr}{g o:Nat}{v:Vw}(h:OR G (some (g,o)) v){i f:Nat}(hi:i<v.n)(hf:f<v.sz):∃u,G.w.cell? ⟨g,o+(i*v.sz+f),none⟩=some u/\u.oneCell' =true/\VR G (v.cs i f) u:=by
 obtain⟨cur,c,hh,_,_,hc⟩:=h.cells (.inr (by omega));obtain⟨u,hu,h1,hV⟩:=hc i f hi hf;exact⟨u,by rw[cell_of_row G.w g _ cur v.ty (0,0) hh];exact hu,h1,hV⟩
theorem qbd{i:Int}{n:Nat}(h:ix i n=true):0<=i/\i.toNat<n:=by
 simp only[ix,Wc,WH]at h;omega
theorem qqw.cells{G:Gr}{fr:Bool}{u:Ty}{xs:List u.den}{b o:Nat}(h:qqw G.w (YY G.X G.U fr) u xs b o){i:Nat}(hi:i<xs.length):
  ∀f,f<(u.cells fr (xs.getD i u.dft)).length->∃y,G.w.cell? ⟨b,o+i*u.sz+f,none⟩=some y/\y.oneCell' =true/\VR G ((u.cells fr (xs.getD i u.dft)).getD f .any) y:=by
 intro f hf;rw[Ty.cells_len]at hf;obtain⟨y,hy,h1,hC⟩:=h.2.2 i f hi hf;exact⟨y,by rw[Km];exact hy,h1,(Ty.C_iff G fr u _ f y hf).1 hC⟩
theorem jto{H:List TOb}{t i f:Nat}{y:Bool×(v:Ty)×List v.den}(h:jhl H (.r t i f)=some y):∃ob,H[t]? =some ob/\ob.isArr=true:=by
 simp only[jhl]at h;split at h
 ·rename_i ho;exact⟨_,ho,rfl⟩
 ·cases h
theorem jtp{H:List TOb}{t i f:Nat}{fr:Bool}{u:Ty}{ys:List u.den}(h:jhl H (.r t i f)=some (fr,⟨u,ys⟩)){v:Vw}(hv:vw H (.r t i f)=some v):
  fr=true/\v.sz=u.sz/\v.n=ys.length/\∀j g,v.cs j g=(u.cells true (ys.getD j u.dft)).getD g .any:=by
 simp only[jhl]at h;split at h
 ·rename_i ty md its u' xs ho;obtain⟨hm,h⟩:=ai h;split at h
  ·rename_i y hi;simp only[Wb,Wj]at h;obtain⟨rfl,rfl⟩:=h;simp only[vw,ho,vwR]at hv;split at hv
   ·rw[hi]at hv;simp only[Wb]at hv;subst hv;exact⟨rfl,rfl,rfl,fun _ _=>rfl⟩
   ·cases hv
  ·cases h
 ·cases h
theorem qv1(hF:dq P tt){G:Gr}{H:List TOb}(hS:Sees G H){t:TypeId}{X:TV}{x:Value}(hX:VR G X x){cs:List Bool}{A:TV}
  (h:jdv tt H t X=some (cs,A)) (hC:gb cs):∃v,(Instr.loadAt t x).run P G.w= .ok v G.w/\VR G A v:=by
 unfold jdv at h;split at h
 ·cases h
 ·rename_i ti ht;split at h
  ·rename_i tg i f;obtain⟨g,o,n,sz,hJ,hI,rfl⟩:=hX;split at h
   ·rename_i ty md its u xs ho;obtain⟨h1,h2⟩:=hS.see (.o tg) _ (az ho);rw[hI]at h1;simp only[Wb,Wj]at h1;obtain⟨rfl,rfl⟩:=h1;rw[hJ]at h2;split at h
    ·rename_i cs' hel;split at h
     ·rename_i v hp;cases h;obtain⟨h0,hi⟩:=qbd (hC _ (Wm.2 rfl));obtain⟨e1,e2⟩:=j7o hel;have:=qgw (P:=P) hF ht (G:=G) (b:=g) (base:=o+i.toNat*u.sz) (cs:=cs') (fun f hf=>by
       rw[e1]at hf;obtain⟨y,hy,hy1,hV⟩:=h2.at_ (i:=i.toNat) (f:=f) hi hf;exact⟨y,by rw[Km];exact hy,hy1,by rw[e2 f hf];exact hV⟩) hp
      simpa[Instr.loadAt,Instr.sureAddr,Km]using this
     ·cases h
    ·cases h
   ·rename_i ty sz' n' cells ho;obtain⟨h1,h2⟩:=hS.see (.o tg) _ (qfs ho);rw[hI]at h1;simp only[Wb,Wj]at h1;obtain⟨rfl,rfl⟩:=h1;rw[hJ]at h2;split at h
    ·rename_i i';split at h
     ·rename_i l hl;split at h
      ·rename_i v hp;cases h;unfold zbj at hl;obtain⟨hc1,hl⟩:=ai hl;cases hl;simp only[Wc]at hc1;have hi:=cm hc1.1;have hlen:=ax hc1.2;have hroom:i' *sz+sz<=cells.length:=by
        rw[hlen];have:(i' +1)*sz<=n*sz:=WC _ hi;rw[WM]at this;omega
       have:=qgw (P:=P) hF ht (G:=G) (b:=g) (base:=o+i' *sz) (cs:=(cells.drop (i' *sz)).take sz) (fun f hf=>by
        have hf' :f<sz:=by simp at hf;omega
        obtain⟨y,hy,hy1,hV⟩:=h2.at_ (i:=i') (f:=f) hi hf';refine⟨y,by rw[Km];exact hy,hy1,?_⟩;simp only[Wa,WZ,if_pos hf',WI]at hV⊢;exact hV) hp
       simpa[Instr.loadAt,Instr.sureAddr,Km]using this
      ·cases h
     ·cases h
    ·cases h
   ·cases h
  ·rename_i tg i0 f0 i f;obtain⟨g,o,n,sz,hJ,hI,rfl⟩:=hX;split at h
   ·rename_i fr u ys hrow;split at h
    ·rename_i v hp;cases h;obtain⟨ob,ho,hng⟩:=jto hrow;obtain⟨vv,hvv⟩:=hS.all tg i0 f0 ob ho hng _ hI;obtain⟨rfl,e1,e2,e3⟩:=jtp hrow hvv;obtain⟨h1,h2⟩:=hS.see _ _ hvv;rw[hI]at h1;simp only[Wb,Wj]at h1;obtain⟨rfl,rfl⟩:=h1;rw[hJ]at h2;obtain⟨h0,hi⟩:=qbd (hC _ (Wm.2 rfl));rw[<-e2]at hi;have:=qgw (P:=P) hF ht (G:=G) (b:=g) (base:=o+i.toNat*vv.sz) (cs:=u.cells true (ys.getD i.toNat u.dft)) (fun f hf=>by
      rw[Ty.cells_len,<-e1]at hf;obtain⟨y,hy,hy1,hV⟩:=h2.at_ (i:=i.toNat) (f:=f) hi hf;exact⟨y,by rw[Km];exact hy,hy1,by rw[e3]at hV;exact hV⟩) hp
     simpa[Instr.loadAt,Instr.sureAddr,Km]using this
    ·cases h
   ·cases h
  ·rename_i fr u xs i f;obtain⟨b,o,rfl,hr⟩:=hX;split at h
   ·rename_i v hp;cases h;obtain⟨h0,hi⟩:=qbd (hC _ (Wm.2 rfl));have:=qgw (P:=P) hF ht (hr.cells hi) hp;simpa[Instr.loadAt,Instr.sureAddr,Km]using this
   ·cases h
  ·cases h
theorem jkj(hF:dq P tt){G:Gr}{s:TypeId}{X:TV}{x:Value}{f:Nat}(hX:VR G X x){cs:List Bool}{A:TV}
  (h:jqj tt s X f=some (cs,A)):∃v,(Instr.fieldAt s x f).run P G.w= .ok v G.w/\VR G A v:=by
 unfold jqj at h;split at h
 ·rename_i fs a b z ht;obtain⟨F,hu,hf⟩:=qsg hF ht;split at h
  ·rename_i off ft hfs;split at h
   ·rename_i fi hft;rw[<-hf,W6]at hfs;cases hq:F.toList[f]? with
    |none=>simp[hq]at hfs
    |some fd=>
     simp only[hq,Wd,Wb,Wj]at hfs;obtain⟨rfl,rfl⟩:=hfs;have hq' :F[f]? =some fd:=by simpa using hq
     split at h
     ·rename_i T i f0;have hz:fi.sz≠0:=by
       intro e;rw[e]at h;cases h
      have hb:Nat.beq fi.sz 0=false:=by
       cases hbb:Nat.beq fi.sz 0 with
       |false=>rfl
       |true=>exact absurd (ax hbb) hz
      rw[hb]at h;cases h;obtain⟨g,o,n,sz,hJ,hI,rfl⟩:=hX;exact⟨.pointer (some ⟨g,o+(i.toNat*sz+(f0+fd.offset)),none⟩),by simp[Instr.fieldAt,Wq hu,hq',Instr.sureAddr,fieldPlace,ck hF hft,hz,KL,Km],g,o,n,sz,hJ,hI,rfl⟩
     ·rename_i fr u xs i f0;have hz:fi.sz≠0:=by
       intro e;rw[e]at h;cases h
      have hb:Nat.beq fi.sz 0=false:=by
       cases hbb:Nat.beq fi.sz 0 with
       |false=>rfl
       |true=>exact absurd (ax hbb) hz
      rw[hb]at h;cases h;obtain⟨b,o,rfl,hr⟩:=hX;exact⟨.pointer (some ⟨b,o+(i.toNat*u.sz+(f0+fd.offset)),none⟩),by simp[Instr.fieldAt,Wq hu,hq',Instr.sureAddr,fieldPlace,ck hF hft,hz,KL,Km],b,o,rfl,hr⟩
     ·cases h
   ·cases h
  ·cases h
 ·cases h
theorem q9x(hF:dq P tt){t:TypeId}{ti:TI}(ht:tt t=some ti){G:Gr}{l:List Value}{cs:List TV}(hc:gf G cs l)(h1:∀u∈l,u.oneCell' =true){off:Nat}{A:TV}(hp:qz3 ti cs off=some A):
  ∃v,(part t l.toArray off).run P G.w= .ok v G.w/\VR G A v:=by
 have ha:=qr7 hF ht G.w;have hs:=ck hF ht G.w;have hlen:=hc.len;unfold qz3 at hp;split at hp
 ·rename_i hk;obtain⟨hb,h2⟩:=ai hp;cases h2;have hle:=qc3 hb;refine⟨.agg (l.toArray.extract off (off+ti.sz)),by simp[part,ha,hk,hs],(l.drop off).take ti.sz,?_,gf.of (by simp[hlen]) ?_,fun u hu=>h1 u (List.mem_of_mem_drop (K2 hu))⟩
  ·congr 1;apply Array.ext';simp[List.extract_eq_drop_take]
  ·intro j A u hA hu;rw[WZ]at hA hu;split at hA
   ·rename_i hj;rw[if_pos hj]at hu;rw[WI]at hA hu;obtain⟨v,hv,hV⟩:=hc.at_ _ _ hA;rw[hv]at hu;cases hu;exact hV
   ·cases hA
 ·rename_i hk;obtain⟨hb,h2⟩:=ai hp;cases h2;obtain⟨u,hu,hV⟩:=hc.getD off (cm hb);exact⟨u,by simp[part,ha,hk,hu],hV⟩
theorem jkk(hF:dq P tt){G:Gr}{s:TypeId}{X:TV}{x:Value}{f:Nat}(hX:VR G X x){cs:List Bool}{A:TV}
  (h:jqk tt s X f=some (cs,A)):∃v,(Instr.field s x f).run P G.w= .ok v G.w/\VR G A v:=by
 unfold jqk at h;split at h
 ·rename_i fs a b z ht;obtain⟨F,hu,hf⟩:=qsg hF ht;split at h
  ·rename_i off ft hfs;split at h
   ·rename_i fi cs' hft;rw[<-hf,W6]at hfs;cases hq:F.toList[f]? with
    |none=>simp[hq]at hfs
    |some fd=>
     simp only[hq,Wd,Wb,Wj]at hfs;obtain⟨rfl,rfl⟩:=hfs;have hq' :F[f]? =some fd:=by simpa using hq
     obtain⟨l,rfl,hl,hc⟩:=hX;split at h
     ·rename_i v hp;cases h;obtain⟨v,hv,hV⟩:=q9x (P:=P) hF hft hl hc hp;exact⟨v,by simp[Instr.field,Wq hu,hq',asAgg,hv],hV⟩
     ·cases h
   ·cases h
  ·cases h
 ·cases h
theorem jks(hF:dq P tt){G:Gr}{t:TypeId}{X Y:TV}{x y:Value}(hX:VR G X x)(hY:VR G Y y){cs:List Bool}{A:TV}
  (h:jqp tt t X Y=some (cs,A)) (hC:gb cs):∃v,(Instr.index t x y).run P G.w= .ok v G.w/\VR G A v:=by
 unfold jqp at h;split at h
 ·rename_i c' len el a b z ht;have hu:=q6j hF ht;split at h
  ·rename_i ei cs' kk i hel;obtain⟨l,rfl,hl,hc⟩:=hX;simp only[VR]at hY;subst hY;obtain⟨hb,h⟩:=ai h;split at h
   ·rename_i v hp;cases h;have hlt:=cm hb;obtain⟨v,hv,hV⟩:=q9x (P:=P) hF hel hl hc hp;exact⟨v,by simp[Instr.index,asIntOf,Wq hu,hlt,ck hF hel,hv],hV⟩
   ·cases h
  ·cases h
 ·rename_i a b z ht;have hu:=q6l hF ht;split at h
  ·rename_i s kk i;simp only[VR]at hX hY;subst hX;subst hY;cases h;obtain⟨h0,hi⟩:=qbd (hC _ (Wm.2 rfl));have hi' :i<(s.size:Int):=by omega
   refine⟨.int .u8 (s.data.getD i.toNat 0).toNat,?_,rfl⟩;have hd:s.data.getD i.toNat 0=s[i.toNat]:=by
    have:i.toNat<s.data.size:=hi;simp only[Array.getD,this,dif_pos];rfl
   simp[Instr.index,asIntOf,Wq hu,h0,hi',hd]
  ·cases h
 ·cases h
theorem jkr(hF:dq P tt){G:Gr}{H:List TOb}(hS:Sees G H){t:TypeId}{X Y:TV}{x y:Value}(hX:VR G X x)(hY:VR G Y y){cs:List Bool}{A:TV}
  (h:jqo tt H t X Y=some (cs,A)) (hC:gb cs):∃v,(Instr.indexAt t x y).run P G.w= .ok v G.w/\VR G A v:=by
 unfold jqo at h;split at h
 ·rename_i el a b z ht;have hu:=jh hF ht;split at h
  ·rename_i ei hel;split at h
   ·rename_i fr u xs kk i;obtain⟨hb,h⟩:=ai h;cases h;have hsz:=ax hb;obtain⟨h0,h1⟩:=qbd (hC _ (Wm.2 rfl));simp only[VR]at hY;subst hY;obtain⟨ad,c,rfl,hn,hcm,hr⟩:=hX;obtain⟨bb,o,rfl,hbb,hs,hcell⟩:=hr (Nat.lt_of_le_of_lt (W7 _) h1);have hi:i<((xs.length:Nat):Int):=by omega
    exact⟨.pointer (some ⟨bb,o+(i.toNat*u.sz+0),none⟩),by simp[Instr.indexAt,asIntOf,Wq hu,h0,hi,ck hF hel,KL,hsz],bb,o,rfl,hbb,hs,hcell⟩
   ·rename_i T kk i;split at h
    ·rename_i n sz hl;obtain⟨hb,h⟩:=ai h;cases h;have hsz:=ax hb;obtain⟨h0,h1⟩:=qbd (hC _ (Wm.2 rfl));simp only[VR]at hY;subst hY;obtain⟨n',sz',hI,hs⟩:=hX;have e:=q1o hS hl hI;simp only[Wj]at e;obtain⟨rfl,rfl⟩:=e;rcases hs with⟨ad,rfl,rfl⟩|⟨g,o,c,cur,e,hJ,rfl,_⟩
     ·omega
     ·have hi:i<(n' :Int):=by omega
      exact⟨.pointer (some ⟨g,o+(i.toNat*sz' +0),none⟩),by simp[Instr.indexAt,asIntOf,Wq hu,h0,hi,ck hF hel,KL,hsz],g,o,n',sz',hJ,hI,rfl⟩
    ·cases h
   ·rename_i T off m kk i;split at h
    ·rename_i n sz hl;obtain⟨hb,h⟩:=ai h;cases h;have hsz:=ax hb;obtain⟨h0,h1⟩:=qbd (hC _ (Wf ..));simp only[VR]at hY;subst hY;obtain⟨n',sz',hI,hle,hs⟩:=hX;have e:=q1o hS hl hI;simp only[Wj]at e;obtain⟨rfl,rfl⟩:=e;rcases hs with⟨ad,rfl,rfl⟩|⟨g,o,c,cur,e,hJ,rfl,_⟩
     ·omega
     ·have hi:i<(m:Int):=by omega
      have ht:((off:Int)+i).toNat=off+i.toNat:=by omega
      exact⟨.pointer (some ⟨g,o+((off+i.toNat)*sz' +0),none⟩),by simp[Instr.indexAt,asIntOf,Wq hu,h0,hi,ck hF hel,KL,hsz,WM,Km],g,o,n',sz',hJ,hI,by rw[ht]⟩
    ·cases h
   ·cases h
  ·cases h
 ·rename_i c' len el a b z ht;have hu:=q6j hF ht;split at h
  ·rename_i ei hel;split at h
   ·rename_i T i0 f0 kk i;obtain⟨hb,h⟩:=ai h;cases h;have hlt:=cm hb;simp only[VR]at hY;subst hY;obtain⟨g,o,n,sz,hJ,hI,rfl⟩:=hX;exact⟨.pointer (some ⟨g,o+(i0.toNat*sz+(f0+i*ei.sz)),none⟩),by simp[Instr.indexAt,asIntOf,Wq hu,hlt,ck hF hel,KL,Instr.sureAddr,Km],g,o,n,sz,hJ,hI,rfl⟩
   ·rename_i fr u xs i0 f0 kk i;obtain⟨hb,h⟩:=ai h;cases h;have hlt:=cm hb;simp only[VR]at hY;subst hY;obtain⟨b,o,rfl,hr⟩:=hX;exact⟨.pointer (some ⟨b,o+(i0.toNat*u.sz+(f0+i*ei.sz)),none⟩),by simp[Instr.indexAt,asIntOf,Wq hu,hlt,ck hF hel,KL,Instr.sureAddr,Km],b,o,rfl,hr⟩
   ·cases h
  ·cases h
 ·cases h
theorem jqt(hF:dq P tt){G:Gr}{H:List TOb}(hS:Sees G H){t ty:TypeId}{X:TV}{x:Value}(hX:VR G X x){cs:List Bool}{A:TV}
  (h:jvl tt H t X=some (cs,A)):∃v,(Builtin.len_ #[t] ty #[x]).run P G.w= .ok v G.w/\VR G A v:=by
 unfold jvl at h;split at h
 ·rename_i el a b z ht;have hu:=jh hF ht;split at h
  ·cases h;obtain⟨ad,c,rfl,_⟩:=hX;exact⟨_,by simp[Builtin.len_,Wq hu,goInt],rfl⟩
  ·rename_i T;split at h
   ·rename_i n sz hl;cases h;obtain⟨n',sz',hI,hs⟩:=hX;have e:=q1o hS hl hI;simp only[Wj]at e;obtain⟨rfl,rfl⟩:=e;rcases hs with⟨ad,rfl,rfl⟩|⟨g,o,c,cur,e,hJ,rfl,_⟩<;>exact⟨_,by simp[Builtin.len_,Wq hu,goInt],rfl⟩
   ·cases h
  ·cases h;obtain⟨n',sz',hI,hle,hs⟩:=hX;rcases hs with⟨ad,rfl,rfl⟩|⟨g,o,c,cur,e,hJ,rfl,_⟩<;>exact⟨_,by simp[Builtin.len_,Wq hu,goInt],rfl⟩
  ·cases h;simp only[VR]at hX;subst hX;exact⟨_,by simp[Builtin.len_,Wq hu,goInt],rfl⟩
  ·cases h;obtain⟨ad,rfl⟩:=hX;exact⟨_,by simp[Builtin.len_,Wq hu,goInt],rfl⟩
  ·cases h
 ·rename_i c' n el a b z ht;have hu:=q6j hF ht;cases h;exact⟨_,by simp[Builtin.len_,Wq hu,goInt],rfl⟩
 ·rename_i a b z ht;have hu:=q6l hF ht;split at h
  ·cases h;simp only[VR]at hX;subst hX;exact⟨_,by simp[Builtin.len_,Wq hu,goInt],rfl⟩
  ·cases h
 ·cases h
end
end Go.K
namespace Go.K
open Go.M Go.RowKit
theorem jyl{k:IntKind}{n:Int}(h:dg k n=true):k.wrap n=n:=by
 cases k<;>simp only[dg,Wc,js1]at h<;>simp[IntKind.wrap,IntKind.bits,IntKind.signed]<;>omega
theorem q61{wr:Bool}{k:IntKind}{n:Int}{cs:List Bool}{A:TV}(h:arI wr k n=some (cs,A))(hC:gb cs):A= .int k (k.wrap n):=by
 unfold arI at h;cases hb:wr|| !k.signed with
 |true=>rw[hb]at h;cases h;rfl
 |false=>
  rw[hb]at h;cases h;rw[jyl (hC _ (Wm.2 rfl))]
section
variable {P : Program} {tt : TT}
theorem qvm(hF:dq P tt){G:Gr}{xs ys:List Value}{cs cs' :List TV}(hx:gf G cs xs)(hy:gf G cs' ys):
  ∀(F:List Field) (r:Bool),F.all (fun f=>f.name != "_")=true->(∀p∈F.map (fun f=>(f.offset,f.type)),p.1<cs.length/\p.1<cs'.length)->eqT tt cs cs' (F.map fun f=>(f.offset,f.type))=some r->
   (Op.eqFields 9999 xs.toArray ys.toArray F).run P G.w= .ok r G.w:=by
 intro F
 induction F with
 |nil=>intro r _ _ h;simp[eqT]at h;subst h;simp[Op.eqFields]
 |cons f F ih=>
  intro r hn hl h;simp only[List.all_cons,Wc,bne_iff_ne]at hn;simp only[Kd,Wr,forall_eq_or_imp]at hl;simp only[Kd,eqT]at h;split at h
  ·rename_i r' hr';have ih:=ih r' hn.2 hl.2 hr';obtain⟨u,hu,hU⟩:=hx.getD f.offset hl.1.1;obtain⟨v,hv,hV⟩:=hy.getD f.offset hl.1.2;have hpu:∀{q:TI},tt f.type=some q->q.k.agg=false->(part f.type xs.toArray f.offset).run P G.w= .ok u G.w:=fun hq ha=>by simp[part,qr7 hF hq G.w,ha,hu]
   have hpv:∀{q:TI},tt f.type=some q->q.k.agg=false->(part f.type ys.toArray f.offset).run P G.w= .ok v G.w:=fun hq ha=>by simp[part,qr7 hF hq G.w,ha,hv]
   split at h
   ·rename_i ki _ _ _ kk a kk' b ht hca hcb;split at h
    ·rename_i hk;subst hk;simp only[Wb]at h;subst h;rw[hca]at hU;rw[hcb]at hV;have e1:u= .int kk a:=hU;have e2:v= .int kk b:=hV;subst e1;subst e2;unfold Op.eqFields;rw[if_pos hn.1];simp only[WJ,hpu ht rfl,hpv ht rfl,Wy,run_equalIn_int G.w 9998 f.type kk ki a b (q6k hF ht)];by_cases hab:a=b
     ·subst hab;simp[ih]
     ·simp[hab]
    ·cases h
   ·rename_i _ _ _ a b ht hca hcb;simp only[Wb]at h;subst h;rw[hca]at hU;rw[hcb]at hV;have e1:u= .bool a:=hU;have e2:v= .bool b:=hV;subst e1;subst e2;unfold Op.eqFields;rw[if_pos hn.1];simp only[WJ,hpu ht rfl,hpv ht rfl,Wy,run_equalIn_bool' G.w 9998 f.type a b (jf9 hF ht)];cases hab:(a==b)
    ·simp
    ·simp[ih]
   ·rename_i _ _ _ a b ht hca hcb;simp only[Wb]at h;subst h;rw[hca]at hU;rw[hcb]at hV;have e1:u= .string a:=hU;have e2:v= .string b:=hV;subst e1;subst e2;unfold Op.eqFields;rw[if_pos hn.1];simp only[WJ,hpu ht rfl,hpv ht rfl,Wy,run_equalIn_string G.w 9998 f.type a b (q6l hF ht)];cases hab:(a.toList==b.toList)
    ·simp
    ·simp[ih]
   ·cases h
  ·cases h
theorem qo9{k:Nat}:∀{fs:List (Nat×TypeId)},qf0 k fs=true->∀p∈fs,p.1<k
 |[],_,p,hp=>by simp at hp
 |(o,t)::l,h,p,hp=>by
  simp only[qf0,Wc]at h;rcases Wr.1 hp with rfl|hp
  ·exact cm h.1
  ·exact qo9 h.2 p hp
theorem jdg(hF:dq P tt){G:Gr}{t:TypeId}{fs:List (Nat×TypeId)}{a b:Nat}{z:List Value}(ht:tt t=some ⟨.strct true fs,a,b,z⟩){xs ys:List Value}{cs cs' :List TV}
  (hx:gf G cs xs) (hy:gf G cs' ys) {r:Bool} (hC:(qf0 cs.length fs&&qf0 cs'.length fs)=true) (h:eqT tt cs cs' fs=some r):
  (Op.equalIn 10000 t (.agg xs.toArray) (.agg ys.toArray)).run P G.w= .ok r G.w/\P.eqGuardType P.depth t=false:=by
 simp only[Wc]at hC;obtain⟨F,hu,hf⟩:=qsg hF ht;obtain⟨c1,c2,c3⟩:=(hF t _ ht).2.1 rfl;have hF' :P.fieldsOf t=F:=by simp[Program.fieldsOf,hu]
 rw[hF']at c3;refine⟨?_,c2⟩;rw[show(10000:Nat)=9999+1 from rfl,run_equalIn_struct G.w 9999 t xs.toArray ys.toArray (by rw[hF'];exact hu) c1,hF'];subst hf;exact qvm hF hx hy F.toList r c3 (fun p hp=>⟨qo9 hC.1 p hp,qo9 hC.2 p hp⟩) h
theorem jbm{w:World}(d:Nat){t el:TypeId}{len n:Nat}(xs ys:Array Value)(ht:P.underlying t=some (.array len el))(hs:∀w,(sizeOf el).run P w= .ok n w):
  (Op.equalIn (d+1) t (.agg xs) (.agg ys)).run P w=(Op.eqFields d xs ys ((List.range' 0 len).map fun i=>⟨ "x",el,i*n,false, "", "",0⟩)).run P w:=by
 simp only[Op.equalIn,WJ,Wq ht,Wy,hs];rw[Std.Legacy.Range.forIn_eq_forIn_range'];simp only[Std.Legacy.Range.size,Nat.sub_zero,HS,Nat.div_one];generalize List.range' 0 len 1=L
 induction L generalizing w with
 |nil=>simp[Op.eqFields]
 |cons i L ih=>
  simp only[List.forIn_cons,Kd,Op.eqFields,WJ];rw[if_pos (by decide)];simp only[WJ];generalize(part el xs (i*n)).run P w=r1;cases r1 with
  |ok a w1=>
   simp only[Wy];generalize(part el ys (i*n)).run P w1=r2;cases r2 with
   |ok b w2=>
    simp only[Wy];generalize(Op.equalIn d el a b).run P w2=r3;cases r3 with
    |ok r w3=>
     cases r
     ·simp only[Wy,WP,Kw,WU]
     ·simp only[Wy,Wv,KP,KI,WU];exact ih
    |halt x w3=>simp[Result.andThen]
   |halt x w2=>simp[Result.andThen]
  |halt x w1=>simp[Result.andThen]
theorem qvc(sz:Nat)(el:TypeId):∀n i,((List.range' i n).map fun i=>(⟨ "x",el,i*sz,false, "", "",0⟩:Field)).map (fun f=>(f.offset,f.type))=q9e sz el i n
 |0,i=>by simp[q9e]
 |n+1,i=>by
  have:=qvc sz el n (i+1);simp only[List.range'_succ,Kd,q9e,this]
theorem jng(hF:dq P tt){G:Gr}{t el:TypeId}{n a b:Nat}{z:List Value}(ht:tt t=some ⟨.arr true n el,a,b,z⟩){ei:TI}(hel:tt el=some ei){xs ys:List Value}{cs cs' :List TV}
  (hx:gf G cs xs) (hy:gf G cs' ys) {r:Bool} (hC:(qf0 cs.length (q9e ei.sz el 0 n)&&qf0 cs'.length (q9e ei.sz el 0 n))=true) (h:eqT tt cs cs' (q9e ei.sz el 0 n)=some r):
  (Op.equalIn 10000 t (.agg xs.toArray) (.agg ys.toArray)).run P G.w= .ok r G.w/\P.eqGuardType P.depth t=false:=by
 simp only[Wc]at hC;obtain⟨c1,c2,c3⟩:=(hF t _ ht).2.1 rfl;refine⟨?_,c2⟩;rw[show(10000:Nat)=9999+1 from rfl,jbm 9999 xs.toArray ys.toArray (q6j hF ht) (fun w=>ck hF hel w)];refine qvm hF hx hy _ r (by simp) ?_ ?_
 ·rw[qvc];exact fun p hp=>⟨qo9 hC.1 p hp,qo9 hC.2 p hp⟩
 ·rw[qvc];exact h
theorem jmz{G:Gr}{wr:Bool}{op:BinOp}{t:TypeId}{x y:Operand}{k:IntKind}{a b:Int}{cs:List Bool}{A:TV}(h:jxe wr op k a b=some (cs,A))(hC:gb cs):
  ∃r,(do eqGuard op t x y (.int k a) (.int k b);binOp op t (.int k a) (.int k b):Sem Value).run P G.w= .ok r G.w/\VR G A r:=by
 cases op<;>simp only[jxe,Wb,Wj,reduceCtorEq]at h<;>
  simp only[eqGuard_at_int,K7,binOp_add,binOp_sub,binOp_mul,binOp_quo,binOp_rem,binOp_eql,binOp_neq,binOp_lss,binOp_leq,binOp_gtr,binOp_geq,Op.intArith,Op.intDiv,WU]
 ·exact⟨_,rfl,by rw[q61 h hC];rfl⟩
 ·exact⟨_,rfl,by rw[q61 h hC];rfl⟩
 ·exact⟨_,rfl,by rw[q61 h hC];rfl⟩
 ·split at h
  ·rename_i l v hv;simp only[Wb,Wj]at h;obtain⟨rfl,rfl⟩:=h;obtain⟨h1,h2⟩:=hC.cons;have h0:¬b=0:=by simpa using h1
   rw[if_neg h0];exact⟨_,rfl,by rw[q61 hv h2];rfl⟩
  ·cases h
 ·obtain⟨rfl,rfl⟩:=h;have h0:¬b=0:=by simpa using hC _ (Wm.2 rfl)
  rw[if_neg h0];exact⟨_,rfl,rfl⟩
 all_goals
  obtain⟨rfl,rfl⟩:=h
  first
  |exact⟨_,rfl,rfl⟩
  |exact⟨_,by simp only[binOp,Op.intBits,WU,ne_eq,not_true,KI];rfl,rfl⟩
theorem jrq{P:Program}{G:Gr}{op:BinOp}{t:TypeId}{x y:Operand}{a b:ByteArray}{cs:List Bool}{A:TV}(h:zat op a b=some (cs,A))(hC:gb cs):
  ∃r,(do eqGuard op t x y (.string a) (.string b);binOp op t (.string a) (.string b):Sem Value).run P G.w= .ok r G.w/\VR G A r:=by
 cases op<;>simp only[zat,Wb,Wj,reduceCtorEq]at h<;>obtain⟨rfl,rfl⟩:=h<;>simp only[eqGuard_at_string,K7,binOp,Op.stringOp,WU]
 ·have hle:((a.size+b.size:Nat):Int)<=9223372036854775807:=by simpa using hC _ (Wm.2 rfl)
  refine⟨.string (a++b),?_,rfl⟩;have:¬(((a.size+b.size:Nat):Int)>IntKind.i64.max):=by simp only[IntKind.max,IntKind.signed,IntKind.bits];simp;omega
  simp only[if_neg this,WU]
 all_goals exact⟨_,rfl,rfl⟩
theorem jh7{G:Gr}{op:BinOp}{t:TypeId}{x y:Operand}{xs ys:List Value}{cs cs' :List TV}{fs:List (Nat×TypeId)}
  (hs:∀r,(qf0 cs.length fs&&qf0 cs'.length fs)=true->eqT tt cs cs' fs=some r->(Op.equalIn 10000 t (.agg xs.toArray) (.agg ys.toArray)).run P G.w= .ok r G.w/\P.eqGuardType P.depth t=false)
  {bs:List Bool} {A:TV} (h:eqF tt op cs cs' fs=some (bs,A)):
  ∃r,(do eqGuard op t x y (.agg xs.toArray) (.agg ys.toArray);binOp op t (.agg xs.toArray) (.agg ys.toArray):Sem Value).run P G.w= .ok r G.w/\VR G A r:=by
 unfold eqF at h;split at h
 ·rename_i r hr;split at h
  ·obtain⟨hb,h⟩:=ai h;cases h;obtain⟨e1,e2⟩:=hs r hb hr;exact⟨_,by rw[WJ,run_eqGuard_agg G.w _ t x y _ _ e2,Wy,run_eql_struct,e1];rfl,rfl⟩
  ·obtain⟨hb,h⟩:=ai h;cases h;obtain⟨e1,e2⟩:=hs r hb hr;exact⟨_,by rw[WJ,run_eqGuard_agg G.w _ t x y _ _ e2,Wy,run_neq_struct,e1];rfl,rfl⟩
  ·cases h
 ·cases h
theorem ji2{G:Gr}{op:BinOp}{t:TypeId}{x y:Operand}{k k' :IntKind}{a b:Int}{cs:List Bool}{A:TV}(h:shT op k a b=some (cs,A))(hC:gb cs):
  ∃r,(do eqGuard op t x y (.int k a) (.int k' b);binOp op t (.int k a) (.int k' b):Sem Value).run P G.w= .ok r G.w/\VR G A r:=by
 cases op<;>simp only[shT,Wb,Wj,reduceCtorEq]at h<;>obtain⟨rfl,rfl⟩:=h<;>simp only[eqGuard_at_int,K7]
 all_goals
  have h0:0<=b:=by simpa using hC _ (Wm.2 rfl)
  have h1:¬b<0:=by omega
  exact⟨_,by simp only[binOp,Op.shift,if_neg h1,WU];rfl,rfl⟩
theorem jp4(hF:dq P tt){G:Gr}{wr:Bool}{op:BinOp}{t:TypeId}{x y:Operand}{X Y:TV}{u v:Value}(hX:VR G X u)(hY:VR G Y v){cs:List Bool}{A:TV}
  (h:j68 wr tt op t X Y=some (cs,A)) (hC:gb cs):∃r,(do eqGuard op t x y u v;binOp op t u v:Sem Value).run P G.w= .ok r G.w/\VR G A r:=by
 unfold j68 at h;split at h
 ·rename_i k a k' b;simp only[VR]at hX hY;subst hX;subst hY;split at h
  ·exact ji2 h hC
  ·exact ji2 h hC
  ·split at h
   ·rename_i hk;subst hk;exact jmz h hC
   ·cases h
 ·rename_i a b;simp only[VR]at hX hY;subst hX;subst hY;split at h<;>simp only[Wb,Wj,reduceCtorEq]at h<;>obtain⟨rfl,rfl⟩:=h
  ·rename_i ht;have hu:=jf9 hF ht;exact⟨_,by simp only[eqGuard_at_bool,K7,binOp,Op.equal,Op.maxDepth,WJ,run_equalIn_bool' G.w 9999 t a b hu,Wy,WU],rfl⟩
  ·rename_i ht;have hu:=jf9 hF ht;exact⟨_,by simp only[eqGuard_at_bool,K7,binOp,Op.equal,Op.maxDepth,WJ,run_equalIn_bool' G.w 9999 t a b hu,Wy,WU],rfl⟩
 ·rename_i a b;simp only[VR]at hX hY;subst hX;subst hY;split at h
  ·exact jrq h hC
  ·cases h
 ·rename_i cs1 cs2;obtain⟨xs,rfl,hx,_⟩:=hX;obtain⟨ys,rfl,hy,_⟩:=hY;split at h
  ·rename_i ht;exact jh7 (fun r hb hr=>jdg hF ht hx hy hb hr) h
  ·rename_i ht;split at h
   ·rename_i ei hel;exact jh7 (fun r hb hr=>jng hF ht hel hx hy hb hr) h
   ·cases h
  ·cases h
 ·cases h
theorem jir{G:Gr}{H:List TOb}(hS:Sees G H){X:TV}{u:Value}(hX:VR G X u){c:Bool}(h:nnX H X=some c)(hc:c=true):∃a n k,u= .slice (some a) n k:=by
 subst hc;unfold nnX at h;split at h
 ·obtain⟨a,k,rfl,_,_,hr⟩:=hX;simp only[Wb]at h;obtain⟨b,o,rfl,_⟩:=hr (WL K8 (Ky h));exact⟨_,_,_,rfl⟩
 ·rename_i T;split at h
  ·rename_i n sz hl;simp only[Wb]at h;have hpos:0<n:=WL K8 (Ky h);obtain⟨n',sz',hI,hs⟩:=hX;have e:=q1o hS hl hI;simp only[Wj]at e;obtain⟨rfl,rfl⟩:=e;rcases hs with⟨ad,rfl,rfl⟩|⟨g,o,k,cur,e,hJ,rfl,_⟩
   ·omega
   ·exact⟨_,_,_,rfl⟩
  ·cases h
 ·cases h
theorem qc8(op:BinOp)(t:TypeId)(x y:Operand)(a b:Option Addr)(n c m d:Nat):eqGuard op t x y (.slice a n c) (.slice b m d)=pure ():=by
 unfold eqGuard;split<;>rfl
theorem qra(d:Nat){w:World}{t el:TypeId}(hu:P.underlying t=some (.slice el))(a:Option Addr)(n c:Nat):(Op.equalIn (d+1) t (.slice a n c) (.slice none 0 0)).run P w= .ok a.isNone w:=by
 cases a<;>simp[Op.equalIn,Wq hu]
theorem jq1(hF:dq P tt){G:Gr}{H:List TOb}(hS:Sees G H){op:BinOp}{t:TypeId}{x y:Operand}{X:TV}{u:Value}(hX:VR G X u){cs:List Bool}{A:TV}
  (h:zad tt H op t X=some (cs,A)) (hC:gb cs):∃r,(do eqGuard op t x y u (.slice none 0 0);binOp op t u (.slice none 0 0):Sem Value).run P G.w= .ok r G.w/\VR G A r:=by
 unfold zad at h;split at h
 ·rename_i el a b z ht;have hu:=jh hF ht;have hq:∀(a:Option Addr) (n c:Nat),(do eqGuard .eql t x y (.slice a n c) (.slice none 0 0);binOp .eql t (.slice a n c) (.slice none 0 0):Sem Value).run P G.w= .ok (.bool a.isNone) G.w:=fun a n c=>by
   simp only[qc8,K7,binOp,Op.equal,Op.maxDepth,WJ,qra 9999 hu,Wy,WU]
  have hn:∀(a:Option Addr) (n c:Nat),(do eqGuard .neq t x y (.slice a n c) (.slice none 0 0);binOp .neq t (.slice a n c) (.slice none 0 0):Sem Value).run P G.w= .ok (.bool !a.isNone) G.w:=fun a n c=>by
   simp only[qc8,K7,binOp,Op.equal,Op.maxDepth,WJ,qra 9999 hu,Wy,WU]
  split at h
  ·simp only[VR]at hX;subst hX;split at h
   ·cases h;exact⟨_,hq none 0 0,rfl⟩
   ·cases h;exact⟨_,hn none 0 0,rfl⟩
   ·cases h
  ·split at h
   ·rename_i c hc;split at h
    ·cases h;obtain⟨a,n,k,rfl⟩:=jir hS hX hc (hC c (Wm.2 rfl));exact⟨_,hq (some a) n k,rfl⟩
    ·cases h;obtain⟨a,n,k,rfl⟩:=jir hS hX hc (hC c (Wm.2 rfl));exact⟨_,hn (some a) n k,rfl⟩
    ·cases h
   ·cases h
 ·cases h
theorem jqs{G:Gr}{H:List TOb}(hS:Sees G H){t el:TypeId}{a b:Nat}{z:List Value}(ht:tt t=some ⟨.slice el,a,b,z⟩){X:TV}{x:Value}(hX:VR G X x){cs:List Bool}{A:TV}
  (h:jvl tt H t X=some (cs,A)):∃(ad:Option Addr) (m c:Nat),x= .slice ad m c/\A= .int .i64 (m:Int)/\(ad=none->m=0):=by
 unfold jvl at h;rw[ht]at h;simp only at h;split at h
 ·cases h;obtain⟨ad,c,rfl,_,_,hr⟩:=hX;refine⟨_,_,_,rfl,rfl,fun e=> ?_⟩;subst e;refine KZ fun hn=> ?_
  obtain⟨b,o,e,_⟩:=hr (Nat.pos_of_ne_zero hn);cases e
 ·rename_i T;split at h
  ·rename_i n sz hl;cases h;obtain⟨n',sz',hI,hs⟩:=hX;have e:=q1o hS hl hI;simp only[Wj]at e;obtain⟨rfl,rfl⟩:=e;rcases hs with⟨ad,rfl,rfl⟩|⟨g,o,c,cur,e,hJ,rfl,_⟩
   ·exact⟨_,_,_,rfl,rfl,fun _=>rfl⟩
   ·exact⟨_,_,_,rfl,rfl,fun e=>by cases e⟩
  ·cases h
 ·cases h;obtain⟨n',sz',hI,hle,hs⟩:=hX;rcases hs with⟨ad,rfl,rfl⟩|⟨g,o,c,cur,e,hJ,rfl,_⟩
  ·exact⟨_,_,_,rfl,rfl,fun _=>rfl⟩
  ·exact⟨_,_,_,rfl,rfl,fun e=>by cases e⟩
 ·cases h;simp only[VR]at hX;subst hX;exact⟨_,_,_,rfl,rfl,fun _=>rfl⟩
 ·cases h;obtain⟨ad,rfl⟩:=hX;exact⟨_,_,_,rfl,rfl,fun _=>rfl⟩
 ·cases h
theorem jvv(hF:dq P tt){G:Gr}{H:List TOb}(hS:Sees G H){op:BinOp}{t:TypeId}{x y:Operand}{X:TV}{u:Value}(hX:VR G X u){bf:Option Bool}(hN:jw3 bf u){cs:List Bool}{A:TV}
  (h:nlT bf tt H op t X=some (cs,A)) (hC:gb cs):∃r,(do eqGuard op t x y u (.slice none 0 0);binOp op t u (.slice none 0 0):Sem Value).run P G.w= .ok r G.w/\VR G A r:=by
 unfold nlT at h;split at h
 ·rename_i el a b z ht;have hu:=jh hF ht;have hq:∀(a:Option Addr) (n c:Nat),(do eqGuard .eql t x y (.slice a n c) (.slice none 0 0);binOp .eql t (.slice a n c) (.slice none 0 0):Sem Value).run P G.w= .ok (.bool a.isNone) G.w:=fun a n c=>by
   simp only[qc8,K7,binOp,Op.equal,Op.maxDepth,WJ,qra 9999 hu,Wy,WU]
  have hn:∀(a:Option Addr) (n c:Nat),(do eqGuard .neq t x y (.slice a n c) (.slice none 0 0);binOp .neq t (.slice a n c) (.slice none 0 0):Sem Value).run P G.w= .ok (.bool !a.isNone) G.w:=fun a n c=>by
   simp only[qc8,K7,binOp,Op.equal,Op.maxDepth,WJ,qra 9999 hu,Wy,WU]
  split at h
  ·rename_i cs' k n hl;obtain⟨ad,m,c,rfl,hA,hz⟩:=jqs hS ht hX hl;cases hA;have key:nlC bf (m:Int)=true->ad.isNone=nlV bf (m:Int):=by
    intro hc;cases bf with
    |none=>
     have hm:¬(m:Int)=0:=by simpa[nlC]using hc
     cases ad with
     |none=>have:=hz rfl;omega
     |some q=>rfl
    |some bf=>
    cases bf with
    |true=>
     cases ad with
     |none=>exact absurd rfl (hN m c)
     |some q=>rfl
    |false=>
    by_cases hm:m=0
    ·subst hm;have:=hN ad c rfl;subst this;rfl
    ·cases ad with
     |none=>exact absurd (hz rfl) hm
     |some q=>
      have:¬(m:Int)=0:=by omega
      simp[nlV,hm]
   split at h
   ·cases h;exact⟨_,hq ad m c,by show Value.bool _= .bool _;rw[key (hC _ Wf)]⟩
   ·cases h;exact⟨_,hn ad m c,by show Value.bool _= .bool _;rw[key (hC _ Wf)]⟩
   ·cases h
  ·cases h
 ·cases h
theorem jc3(hF:dq P tt){G:Gr}{H:List TOb}(hS:Sees G H){wr:Bool}{op:BinOp}{t:TypeId}{x y:Operand}{X Y:TV}{u v:Value}(hX:VR G X u)(hY:VR G Y v){cs:List Bool}{A:TV}
  (h:j1o wr tt H op t X Y=some (cs,A)) (hC:gb cs):∃r,(do eqGuard op t x y u v;binOp op t u v:Sem Value).run P G.w= .ok r G.w/\VR G A r:=by
 unfold j1o at h;split at h
 ·simp only[VR]at hY;subst hY;exact jq1 hF hS hX h hC
 ·exact jp4 hF hX hY h hC
theorem jp3(hF:dq P tt){G:Gr}{H:List TOb}(hS:Sees G H){wr:Bool}{op:BinOp}{t:TypeId}{x y:Operand}{X Y:TV}{u v:Value}(hX0:VR G X u)(hX:VR G X.gt u)(hY:VR G Y v){cs:List Bool}{A:TV}
  (h:j67 wr tt H op t X Y=some (cs,A)) (hC:gb cs):∃r,(do eqGuard op t x y u v;binOp op t u v:Sem Value).run P G.w= .ok r G.w/\VR G A r:=by
 unfold j67 at h;cases hn:X.isNl' with
 |false=>
  rw[hn]at h;exact jc3 hF hS hX hY h hC
 |true=>
  rw[hn]at h;simp only[WQ]at h;have hN:jw3 X.nlB u:=by
   unfold TV.isNl' at hn;split at hn
   ·exact hX0.2
   ·cases hn
  split at h
  ·simp only[VR]at hY;subst hY;exact jvv hF hS hX hN h hC
  ·exact jc3 hF hS hX hY h hC
theorem jwn{G:Gr}{wr:Bool}{op:UnOp}{X:TV}{u:Value}(hX:VR G X u){cs:List Bool}{A:TV}
  (h:unT wr op X=some (cs,A)) (hC:gb cs):∃r,(Op.unary op u).run P G.w= .ok r G.w/\VR G A r:=by
 unfold unT at h;split at h
 ·simp only[VR]at hX;subst hX;cases h;exact⟨_,by simp[Op.unary],rfl⟩
 ·rename_i k n;simp only[VR]at hX;subst hX;exact⟨.int k (k.wrap (0-n)),by simp only[Op.unary,Op.intArith,WU],by rw[q61 h hC];rfl⟩
 ·cases h
theorem jm9(hF:dq P tt){G:Gr}{wr:Bool}{src dst:TypeId}{X:TV}{u:Value}(hX:VR G X u){cs:List Bool}{A:TV}
  (h:jxr wr tt src dst X=some (cs,A)) (hC:gb cs):∃r,(convert src dst u).run P G.w= .ok r G.w/\VR G A r:=by
 unfold jxr at h;split at h
 ·rename_i k0 n k1 _ _ _ k _ _ _ hs hd;have hus:=q6k hF hs;have hud:=q6k hF hd;simp only[VR]at hX;subst hX;exact⟨.int k (k.wrap n),by simp only[convert,WJ,Wq hus,Wq hud,Wy,Conv.intToInt,WU],by rw[q61 h hC];rfl⟩
 ·cases h
theorem jpi:∀{u:Ty} {xs:List u.den} {ys:List Int},u8s u xs=some ys->∃h:u= .int .u8,qc5 h xs=ys
 | .int k,xs,ys,h=>by
  cases k<;>simp only[u8s,reduceCtorEq]at h;exact⟨rfl,Kp h⟩
 | .bool,_,_,h=>by cases h
 | .str,_,_,h=>by cases h
 | .slice _,_,_,h=>by cases h
 | .struct _,_,_,h=>by cases h
 | .tree _ _,_,_,h=>by cases h
theorem jl6(hF:dq P tt){w:World}{src dst el:TypeId}{b1 b2 b3 b4 b5 b6:Nat}{z1 z2 z3:List Value}(hs:tt src=some ⟨.slice el,b1,b2,z1⟩)(hd:tt dst=some ⟨.str,b3,b4,z2⟩)(he:tt el=some ⟨.int .u8,b5,b6,z3⟩)
  {a:Option Addr} {c:Nat} {ys:List Int} (h:0<ys.length->∃b o,a=some ⟨b,o,none⟩/\∀i,i<ys.length->w.cell? ⟨b,o+i,none⟩=some (.int .u8 (ys.getD i 0))):
  (convert src dst (.slice a ys.length c)).run P w= .ok (.string (strOfNums ys)) w:=by
 have hus:=jh hF hs;have hud:=q6l hF hd;have hue:=q6k hF he;rcases HD ys.length with h0|h0
 ·have e:ys=[]:=KJ h0;subst e;cases a with
  |none=>exact run_convert_bytes_nil w src el hus hue _ c dst hud
  |some ad=>
   rw[run_convert_bytes_string w src dst el _ _ c hus hue hud,run_bytesToString w ad _ c [] (by simpa using run_loadCells_list (P:=P) w ad [] (by simp))];rfl
 ·obtain⟨b,o,rfl,hc⟩:=h h0;exact run_convert_bytes_arg w src el hus hue b o _ c ys rfl hc dst hud
theorem jm4(hF:dq P tt){G:Gr}{H:List TOb}(hS:Sees G H){src dst:TypeId}{X:TV}{u:Value}(hX:VR G X u){cs:List Bool}{A:TV}
  (h:jxf tt H src dst X=some (cs,A)):∃r,(convert src dst u).run P G.w= .ok r G.w/\VR G A r:=by
 unfold jxf at h;split at h
 ·rename_i el b1 b2 z1 b3 b4 z2 hs hd;split at h
  ·rename_i b5 b6 z3 he;split at h
   ·rename_i fr u xs;split at h
    ·rename_i ys hy;cases h;obtain⟨rfl,rfl⟩:=jpi hy;obtain⟨a,c,rfl,hn,hc,hr⟩:=hX;refine⟨_,jl6 hF hs hd he (ys:=xs) (fun h0=> ?_),rfl⟩;obtain⟨b,o,ha,_,_,hcell⟩:=hr h0;refine⟨b,o,ha,fun i hi=> ?_⟩;obtain⟨y,hy,_,hC⟩:=hcell i 0 hi Nat.one_pos;have e:(i*(Ty.int IntKind.u8).sz+0)=i:=by simp[Ty.sz]
     rw[e]at hy;rw[hy];exact W0 some hC
    ·cases h
   ·rename_i tg;split at h
    ·rename_i ty fr its u xs ho;split at h
     ·rename_i ys hy;cases h;obtain⟨rfl,rfl⟩:=jpi hy;obtain⟨n,sz,hI,hsl⟩:=hX;obtain⟨h1,h2⟩:=hS.see (.o tg) _ (az ho);rw[hI]at h1;simp only[Wb,Wj]at h1;obtain⟨rfl,rfl⟩:=h1;rcases hsl with⟨a,rfl,h0⟩|⟨g,o,c,cur,e,hJ,rfl,hn,_,_,_⟩
      ·have e0:xs=[]:=KJ h0;subst e0;exact⟨_,jl6 hF hs hd he (ys:=[]) (fun h0=>absurd h0 (Nat.lt_irrefl 0)),rfl⟩
      ·refine⟨_,jl6 hF hs hd he (ys:=xs) (fun h0=>⟨g,_,rfl,fun i hi=> ?_⟩),rfl⟩;rw[hJ]at h2;obtain⟨y,hy,_,hV⟩:=h2.at_ (i:=i) (f:=0) hi Nat.one_pos;have e:o+0*(Ty.int IntKind.u8).sz+i=o+(i*(Ty.int IntKind.u8).sz+0):=by simp[Ty.sz]
       rw[e];refine hy.trans (W0 some ?_);simp only[b7,Md.fr,Ty.cells,K9]at hV;exact hV
     ·cases h
    ·cases h
   ·cases h;have hX:u= .slice none 0 0:=hX;subst hX;exact⟨_,jl6 hF hs hd he (ys:=[]) (fun h0=>absurd h0 (Nat.lt_irrefl 0)),rfl⟩
   ·cases h
  ·cases h
 ·cases h
theorem jqd(hF:dq P tt){G:Gr}{H:List TOb}(hS:Sees G H){wr:Bool}{src dst:TypeId}{X:TV}{u:Value}(hX:VR G X u){cs:List Bool}{A:TV}
  (h:j7g wr tt H src dst X=some (cs,A)) (hC:gb cs):∃r,(convert src dst u).run P G.w= .ok r G.w/\VR G A r:=by
 unfold j7g at h;split at h
 ·rename_i r hr;cases h;exact jm9 hF hX hr hC
 ·exact jm4 hF hS hX h
def Ty.desc:Ty->TypeDesc
 | .int k=> .int k
 | .bool=> .bool
 |_=> .string
theorem qyy(hF:dq P tt){t:TypeId}{x:TI}(ht:tt t=some x){u:Ty}(h:tk1 x.k u=true):P.underlying t=some u.desc/\u.one=true:=by
 obtain⟨i,d,z,_,h2,h3,_⟩:=(hF t x ht).1;obtain⟨k,sz,by_,zs⟩:=x;cases k<;>cases u<;>simp only[tk1,KP,WH]at h
 ·subst h;refine⟨?_,rfl⟩;rw[h2];cases d<;>simp_all[TK.of,TK.plain,Ty.desc]
 ·refine⟨?_,rfl⟩;rw[h2];cases d<;>simp_all[TK.of,TK.plain,Ty.desc]
 ·refine⟨?_,rfl⟩;rw[h2];cases d<;>simp_all[TK.of,TK.plain,Ty.desc]
theorem q1n{G:Gr}{u:Ty}{A:TV}{x:u.den}(h:jkv u A=some x){v:Value}(hv:VR G A v):v=u.v1 x:=by
 unfold jkv at h;split at h
 ·split at h
  ·rename_i hk;subst hk;cases h;exact hv
  ·cases h
 ·cases h;exact hv
 ·cases h;exact hv
 ·cases h
theorem jeb{G:Gr}{u:Ty}(x:u.den):VR G (jzm u x) (u.v1 x):=by
 cases u<;>first|rfl|trivial
theorem zfk{u:Ty}{z:Value}(h:z1 u [z]=true):z=u.v1 u.dft:=by
 unfold z1 at h;split at h
 ·rename_i k k' n e;simp only[Wc,WH]at h;cases e;obtain⟨rfl,rfl⟩:=h;rfl
 ·rename_i b e;cases e;simp only[WE]at h;subst h;rfl
 ·rename_i e;cases e;rfl
 ·cases h
theorem qsh{u:Ty}(h:u.one=true)(x:u.den):MapKept.IsKey u.desc (u.v1 x):=by
 cases u<;>first|trivial|rfl|cases h
def qt6(ku vu:Ty):List MapEntry->List (ku.den×vu.den)->Prop
 |[],[]=>True
 |e::l,p::m=>e.key=ku.v1 p.1/\e.val=vu.v1 p.2/\qt6 ku vu l m
 |_,_=>False
theorem qt6.at_{ku vu:Ty}:∀{l:List MapEntry} {m:List (ku.den×vu.den)},qt6 ku vu l m->l.length=m.length/\∀(i:Nat) e p,l[i]? =some e->m[i]? =some p->e.key=ku.v1 p.1/\e.val=vu.v1 p.2
 |[],[],_=>⟨rfl,fun i e p h=>by simp at h⟩
 |e::l,p::m,h=>by
  obtain⟨h1,h2,h3⟩:=h;obtain⟨h4,h5⟩:=qt6.at_ h3;refine⟨by simp[h4],fun i e' p' he hp=> ?_⟩;cases i with
  |zero=>simp at he hp;subst he hp;exact⟨h1,h2⟩
  |succ i=>exact h5 i e' p' (by simpa using he) (by simpa using hp)
 |[],_::_,h=>h.elim
 |_::_,[],h=>h.elim
theorem qt6.of{ku vu:Ty}:∀{l:List MapEntry} {m:List (ku.den×vu.den)},l.length=m.length->(∀(i:Nat) e p,l[i]? =some e->m[i]? =some p->e.key=ku.v1 p.1/\e.val=vu.v1 p.2)->qt6 ku vu l m
 |[],[],_,_=>trivial
 |e::l,p::m,hl,h=>by
  obtain⟨h1,h2⟩:=h 0 e p rfl rfl;exact⟨h1,h2,qt6.of (by simpa using hl) fun i e' p' he hp=>h (i+1) e' p' (by simpa using he) (by simpa using hp)⟩
 |[],_::_,hl,_=>by simp at hl
 |_::_,[],hl,_=>by simp at hl
theorem jk2{G:Gr}{ku vu:Ty}{es:List (ku.den×vu.den)}{hs:Array MapEntry}{k:Nat}(h:wz G ⟨0,0,0,fun i f=>qzc ku vu es i f⟩ hs k):qt6 ku vu hs.toList es:=by
 have key:∀i:Nat,(es[i]? =none↔hs[i]? =none)/\∀(e:MapEntry) (p:ku.den×vu.den),hs[i]? =some e->es[i]? =some p->e.key=ku.v1 p.1/\e.val=vu.v1 p.2:=by
  intro i;cases he:hs[i]? with
  |none=>
   obtain⟨h1,_⟩:=h.no he;simp only[qzc]at h1;cases hp:es[i]? with
   |none=>exact⟨⟨fun _=>rfl,fun _=>rfl⟩,fun e p h=>by cases h⟩
   |some p=>rw[hp]at h1;cases h1
  |some e=>
   obtain⟨h1,h2⟩:=h.at_ he;simp only[qzc]at h1 h2;cases hp:es[i]? with
   |none=>rw[hp]at h1;cases h1
   |some p=>
    rw[hp]at h1 h2;simp only[TV.val.injEq]at h1;exact⟨⟨fun h=>(by cases h),fun h=>(by cases h)⟩,fun e' p' he' hp' =>by cases he';cases hp';exact⟨h1.symm,h2⟩⟩
 refine qt6.of ?_ fun i e p he hp=>(key i).2 e p (by simpa using he) hp
 rw[WO];have h1:hs.size<=es.length:=by
  have:=((key es.length).1.1 (Wp (Wg _)));simpa using this
 have h2:es.length<=hs.size:=by
  have:=((key hs.size).1.2 (KV (Wg _)));simpa using this
 omega
theorem jsq{G:Gr}{ku vu:Ty}{es:List (ku.den×vu.den)}{hs:Array MapEntry}{k:Nat}(h:qt6 ku vu hs.toList es)(hst:Stp hs k):wz G ⟨0,0,0,fun i f=>qzc ku vu es i f⟩ hs k:=by
 obtain⟨hl,h⟩:=h.at_;rw[WO]at hl;refine wz.mk' hst (fun i e he=> ?_) fun i he=> ?_
 ·have hi:i<hs.size:=(W4.1 he).1;have h2:es[i]? =some es[i]:=Wi (by omega);obtain⟨h3,h4⟩:=h i e es[i] (by simpa using he) h2;simp only[qzc,h2];exact⟨W0 TV.val h3.symm,h4⟩
 ·have hi:hs.size<=i:=Array.getElem?_eq_none_iff.1 he;have h2:es[i]? =none:=Wp (by omega);exact⟨by simp[qzc,h2],by simp[qzc,h2]⟩
theorem jfo{u:Ty}(h:u.one=true)(a b:u.den):Instr.sameNow u.desc (u.v1 a) (u.v1 b)=some (u.keyEq a b)/\(u.keyEq a b=true->u.v1 a=u.v1 b):=by
 cases u with
 |int k=>exact⟨by simp[Instr.sameNow,Ty.desc,Ty.v1,Ty.keyEq,qsv],fun e=>W0 (Value.int k) (eq_of_beq (α:=Int) e)⟩
 |bool=>exact⟨rfl,fun e=>W0 Value.bool (eq_of_beq (α:=Bool) e)⟩
 |str=>exact⟨rfl,fun e=>W0 Value.string ((MapKept.bytes_beq _ _).1 e)⟩
 |slice _=>cases h
 |struct _=>cases h
 |tree _ _=>cases h
theorem q3t{ku vu:Ty}(h:ku.one=true)(key:ku.den):∀(l:List MapEntry) (m:List (ku.den×vu.den)) (i:Nat),qt6 ku vu l m->
  (bz ku key m=none/\Instr.findNow ku.desc (ku.v1 key) l i=some none/\(∀x,qdf ku key x m=m++[(key,x)])/\jk3 ku key m=m)\/
  ∃j y e,bz ku key m=some y/\Instr.findNow ku.desc (ku.v1 key) l i=some (some (i+j,vu.v1 y))/\l[j]? =some e/\e.key=ku.v1 key/\(∀x,qdf ku key x m=m.set j (key,x))/\jk3 ku key m=m.eraseIdx j
 |[],[],i,_=> .inl ⟨rfl,rfl,fun _=>rfl,rfl⟩
 |[],_::_,i,he=>he.elim
 |_::_,[],i,he=>he.elim
 |e::l,p::m,i,he=>by
  obtain⟨h1,h2,h3⟩:=he;obtain⟨s1,s2⟩:=jfo h key p.1;cases hq:ku.keyEq key p.1 with
  |true=>
   rw[hq]at s1;refine .inr ⟨0,p.2,e,by simp[bz,hq],?_,rfl,by rw[h1,s2 hq],fun x=>by simp[qdf,hq],by simp[jk3,hq]⟩;simp only[Instr.findNow,h1,s1,h2,KU]
  |false=>
   rw[hq]at s1;have hf:Instr.findNow ku.desc (ku.v1 key) (e::l) i=Instr.findNow ku.desc (ku.v1 key) l (i+1):=by simp only[Instr.findNow,h1,s1]
   rcases q3t h key l m (i+1) h3 with⟨a1,a2,a3,a6⟩|⟨j,y,e',a1,a2,a3,a4,a5,a6⟩
   ·exact .inl ⟨by simp[bz,hq,a1],hf.trans a2,fun x=>by simp[qdf,hq,a3],by simp[jk3,hq,a6]⟩
   ·exact .inr ⟨j+1,y,e',by simp[bz,hq,a1],by rw[hf,a2];congr 3;omega,by simpa using a3,a4,fun x=>by simp[qdf,hq,a5],by simp[jk3,hq,a6]⟩
def jpv(ku:Ty){β:Type}(l:List MapEntry)(m:List (ku.den×β)):Prop:=l.length=m.length/\∀(i:Nat) e p,l[i]? =some e->m[i]? =some p->e.key=ku.v1 p.1
theorem q3u{ku:Ty}(h:ku.one=true)(key:ku.den){β:Type}:∀(l:List MapEntry) (m:List (ku.den×β)) (i:Nat),jpv ku l m->
  (mIx ku key m i=none/\bz ku key m=none/\Instr.findNow ku.desc (ku.v1 key) l i=some none)\/
  ∃j e p,mIx ku key m i=some (i+j)/\bz ku key m=some p.2/\Instr.findNow ku.desc (ku.v1 key) l i=some (some (i+j,e.val))/\l[j]? =some e/\m[j]? =some p/\e.key=ku.v1 key
 |[],[],i,_=> .inl ⟨rfl,rfl,rfl⟩
 |[],_::_,i,he=>by simp[jpv]at he
 |_::_,[],i,he=>by simp[jpv]at he
 |e::l,p::m,i,he=>by
  have h1:=he.2 0 e p rfl rfl;have ht:jpv ku l m:=⟨by simpa using he.1,fun i e' p' a b=>he.2 (i+1) e' p' (by simpa using a) (by simpa using b)⟩;obtain⟨s1,s2⟩:=jfo h key p.1;cases hq:ku.keyEq key p.1 with
  |true=>
   rw[hq]at s1;exact .inr ⟨0,e,p,by simp[mIx,hq],by simp[bz,hq],by simp only[Instr.findNow,h1,s1,KU],rfl,rfl,by rw[h1,s2 hq]⟩
  |false=>
   rw[hq]at s1;have hf:Instr.findNow ku.desc (ku.v1 key) (e::l) i=Instr.findNow ku.desc (ku.v1 key) l (i+1):=by simp only[Instr.findNow,h1,s1]
   rcases q3u h key l m (i+1) ht with⟨a1,a2,a3⟩|⟨j,e',p',a1,a2,a3,a4,a5,a6⟩
   ·exact .inl ⟨by simp[mIx,hq,a1],by simp[bz,hq,a2],hf.trans a3⟩
   ·refine .inr ⟨j+1,e',p',?_,by simp[bz,hq,a2],?_,by simpa using a4,by simpa using a5,a6⟩
    ·have:mIx ku key (p::m) i=mIx ku key m (i+1):=by simp[mIx,hq]
     rw[this,a1];congr 1;omega
    ·rw[hf,a3];congr 3;omega
theorem j25{l:List Value}(h:jvt l=true):l=[.slice none 0 0]:=by
 unfold jvt at h;split at h
 ·rfl
 ·cases h
theorem oh(hF:dq P tt){t kt et:TypeId}{a b:Nat}{z:List Value}(ht:tt t=some ⟨.map kt et,a,b,z⟩):P.underlying t=some (.map kt et):=by
 obtain⟨i,d,z',_,h2,h3,_⟩:=(hF t _ ht).1;rw[h2];cases d<;>simp_all[TK.of,TK.plain]
theorem q4g{G:Gr}{H:List TOb}(hS:Sees G H){tg:Nat}{ku vu:Ty}{es:List (ku.den×vu.den)}(ho:H[tg]? =some (.mp ku vu es)){v:Value}(hv:VR G (.mp (.o tg)) v):
  ∃g o hs c,v= .map (some g)/\G.J (.o tg)=some (g,o)/\G.w.heap[g]? =some (.map hs c)/\qt6 ku vu hs.toList es/\Stp hs c:=by
 obtain⟨g,o,q,hJ,_,rfl⟩:=hv;obtain⟨_,hor⟩:=hS.see (.o tg) _ (qqv ho);rw[hJ]at hor;obtain⟨hs,c,hh,hm⟩:=hor.map rfl rfl;exact⟨g,o,hs,c,rfl,hJ,hh,jk2 hm,hm.1⟩
theorem qgq{t:Nat}{kt:Ty}{β:Type}{es:List (kt.den×β)}{h:Option Nat}{i:Nat}{p:kt.den×β}(hp:es[i]? =some p):moC t kt es h i 0= .val (kt.v1 p.1):=by
 simp only[moC,hp]
theorem qms{t:Nat}{kt:Ty}{β:Type}{es:List (kt.den×β)}{h:Option Nat}{i:Nat}{p:kt.den×β}(hp:es[i]? =some p):moC t kt es h i 1=if h=some i then .any else .own (.r t i 0):=by
 simp only[moC,hp]
theorem qrm{t:Nat}{kt:Ty}{β:Type}{es:List (kt.den×β)}{h:Option Nat}{i f:Nat}(hp:es[i]? =none):moC t kt es h i f= .any:=by
 simp only[moC,hp]
theorem q4n{G:Gr}{t:Nat}{kt:Ty}{β:Type}{es:List (kt.den×β)}{h:Option Nat}{hs:Array MapEntry}{k:Nat}(hm:wz G ⟨0,0,0,fun i f=>moC t kt es h i f⟩ hs k):jpv kt hs.toList es:=by
 have key:∀i:Nat,(es[i]? =none↔hs[i]? =none)/\∀(e:MapEntry) (p:kt.den×β),hs[i]? =some e->es[i]? =some p->e.key=kt.v1 p.1:=by
  intro i;cases he:hs[i]? with
  |none=>
   obtain⟨h1,_⟩:=hm.no he;cases hp:es[i]? with
   |none=>exact⟨⟨fun _=>rfl,fun _=>rfl⟩,fun e p h=>by cases h⟩
   |some p=>
    have h1:moC t kt es h i 0= .any:=h1;rw[qgq hp]at h1;cases h1
  |some e=>
   obtain⟨h1,_⟩:=hm.at_ he;have h1:moC t kt es h i 0= .val e.key:=h1;cases hp:es[i]? with
   |none=>rw[qrm hp]at h1;cases h1
   |some p=>
    rw[qgq hp]at h1;simp only[TV.val.injEq]at h1;exact⟨⟨fun h=>(by cases h),fun h=>(by cases h)⟩,fun e' p' he' hp' =>by cases he';cases hp';exact h1.symm⟩
 refine⟨?_,fun i e p he hp=>(key i).2 e p (by simpa using he) hp⟩;rw[WO];have h1:hs.size<=es.length:=by
  have:=((key es.length).1.1 (Wp (Wg _)));simpa using this
 have h2:es.length<=hs.size:=by
  have:=((key hs.size).1.2 (KV (Wg _)));simpa using this
 omega
theorem js5{G:Gr}{H:List TOb}(hS:Sees G H){tg:Nat}{ku u:Ty}{ety:TypeId}{es:List (ku.den×List u.den)}{h:Option Nat}(ho:H[tg]? =some (.mo ku u ety es h)){v:Value}(hv:VR G (.mp (.o tg)) v):
  ∃g o hs c,v= .map (some g)/\G.J (.o tg)=some (g,o)/\G.w.heap[g]? =some (.map hs c)/\wz G ⟨0,0,0,fun i f=>moC tg ku es h i f⟩ hs c:=by
 obtain⟨g,o,q,hJ,_,rfl⟩:=hv;obtain⟨_,hor⟩:=hS.see (.o tg) _ (qa0 ho);rw[hJ]at hor;obtain⟨hs,c,hh,hm⟩:=hor.map rfl rfl;exact⟨g,o,hs,c,rfl,hJ,hh,hm⟩
theorem jv5(hF:dq P tt){t:TypeId}{x:TI}(ht:tt t=some x)(h:x.k.one=true){u:Ty}(hz:z1 u x.zero=true)(w:World):(zeroValue t).run P w= .ok (u.v1 u.dft) w:=by
 obtain⟨i,z,h1,h2,h3⟩:=(hF t x ht).2.2 h;rw[h3]at hz;have:=zfk hz;subst this;simp[zeroValue,typeInfo,h1,h2]
theorem jqr(hF:dq P tt){G:Gr}{H:List TOb}(hS:Sees G H){t ty:TypeId}{X:TV}{x:Value}(hX:VR G X x){cs:List Bool}{A:TV}
  (h:j95 tt H t X=some (cs,A)):∃v,(Builtin.len_ #[t] ty #[x]).run P G.w= .ok v G.w/\VR G A v:=by
 unfold j95 at h;split at h
 ·rename_i kt et a b z ht;unfold j4m at h;split at h
  ·rename_i tg;split at h
   ·rename_i ku vu es ho;cases h;obtain⟨g,o,hs,c,rfl,hJ,hh,hent,_⟩:=q4g hS ho hX;obtain⟨hl,_⟩:=hent.at_;rw[WO]at hl;exact⟨.int .i64 (hs.size:Int),by simp[Builtin.len_,Wq (oh hF ht),Ka hh,goInt],by rw[hl];rfl⟩
   ·cases h
  ·cases h
 ·exact jqt hF hS hX h
theorem jac(hF:dq P tt){t:TypeId}{x:TI}(ht:tt t=some x)(h:x.k.one=true)(hz:jvt x.zero=true)(w:World):(zeroValue t).run P w= .ok (.slice none 0 0) w:=by
 obtain⟨i,z,h1,h2,h3⟩:=(hF t x ht).2.2 h;rw[j25 hz]at h3;injection h3 with h3
 subst h3;simp[zeroValue,typeInfo,h1,h2]
theorem zbl(hF:dq P tt){w:World}{Y:Nat->Prop}{ku u:Ty}{es:List (ku.den×List u.den)}{v:Value}(hm:q04 w Y ku (.slice u) es v){t kt et:TypeId}{a b:Nat}{z:List Value}(ht:tt t=some ⟨.map kt et,a,b,z⟩){ki ei:TI}(hk:tt kt=some ki)(he:tt et=some ei)
  (hb1:tk1 ki.k ku=true) (hb2:ei.k.one=true) (hb3:jvt ei.zero=true) (key:ku.den):∃r,(Instr.lookup t v (ku.v1 key) false).run P w= .ok r w/\Ty.C w Y (.slice u) (oj u (bz ku key es)) 0 r:=by
 obtain⟨hu,hone⟩:=qyy hF hk hb1;have hzero:=jac hF he hb2 hb3 w;have hnil:Ty.C w Y (.slice u) ([]:List u.den) 0 (.slice none 0 0):=⟨none,0,rfl,Wg _,W7 _,fun h0=>absurd h0 (Nat.lt_irrefl 0)⟩;rcases hm with⟨rfl,rfl⟩|⟨g,hs,c,rfl,_,_,hh,_,hl,hc⟩
 ·have hck:=K4 (w:=w) hu (qsh hone key) true 9999;have hfk:=Kn (w:=w) hu (show Instr.findNow ku.desc (ku.v1 key) [] 0=some none from rfl);exact⟨.slice none 0 0,by simp[Instr.lookup,Wq (oh hF ht),hck,hfk,hzero],hnil⟩
 ·have hck:=K4 (w:=w) hu (qsh hone key) hs.isEmpty 9999;have hK:jpv ku hs.toList es:=⟨(WO ..).trans hl,fun i e p he hp=>(hc i e p (by simpa using he) hp).1⟩;rcases q3u hone key hs.toList es 0 hK with⟨_,a2,a3⟩|⟨j,e,p,_,a2,a3,a4,a5,_⟩
  ·have hfk:=Kn (w:=w) hu a3;exact⟨.slice none 0 0,by simp[Instr.lookup,Wq (oh hF ht),Ka hh,hck,hfk,hzero],by rw[a2];exact hnil⟩
  ·have hfk:=Kn (w:=w) hu a3;exact⟨e.val,by simp[Instr.lookup,Wq (oh hF ht),Ka hh,hck,hfk],by rw[a2];exact(hc j e p (by simpa using a4) a5).2⟩
theorem jn4(hF:dq P tt){G:Gr}{H:List TOb}(hS:Sees G H){t:TypeId}{ok:Bool}{X Y:TV}{x y:Value}(hX:VR G X x)(hY:VR G Y y){cs:List Bool}{A:TV}(h:jy8 tt H t ok X Y=some (cs,A)):
  ∃r,(Instr.lookup t x y ok).run P G.w= .ok r G.w/\VR G A r:=by
 unfold jy8 at h;split at h
 ·rename_i kt et a b z ht;split at h
  ·rename_i ki ei tg hk he;split at h
   ·rename_i ku vu es ho;split at h
    ·rename_i key hkey;have hb:=(ai h).1
     replace h:=(ai h).2
     simp only[Wc]at hb;obtain⟨⟨hb1,hb2⟩,hb3⟩:=hb;cases h;obtain⟨hu,hone⟩:=qyy hF hk hb1;obtain⟨g,o,hs,c,rfl,hJ,hh,hent,_⟩:=q4g hS ho hX;have hy:=q1n hkey hY;subst hy;have hzero:=jv5 hF he hb2 hb3 G.w;have hck:=K4 (w:=G.w) hu (qsh hone key) hs.isEmpty 9999;rcases q3t hone key hs.toList es 0 hent with⟨a1,a2,_⟩|⟨j,y',e,a1,a2,_⟩
     ·have hfk:=Kn (w:=G.w) hu a2;cases ok with
      |false=>exact⟨vu.v1 vu.dft,by simp[Instr.lookup,Wq (oh hF ht),Ka hh,hck,hfk,hzero],by rw[a1];exact jeb _⟩
      |true=>exact⟨.tuple #[vu.v1 vu.dft, .bool false],by simp[Instr.lookup,Wq (oh hF ht),Ka hh,hck,hfk,hzero],⟨_,rfl,by rw[a1];exact⟨_,_,rfl,jeb _,_,_,rfl,rfl,rfl⟩⟩⟩
     ·have hfk:=Kn (w:=G.w) hu a2;cases ok with
      |false=>exact⟨vu.v1 y',by simp[Instr.lookup,Wq (oh hF ht),Ka hh,hck,hfk],by rw[a1];exact jeb _⟩
      |true=>exact⟨.tuple #[vu.v1 y', .bool true],by simp[Instr.lookup,Wq (oh hF ht),Ka hh,hck,hfk],⟨_,rfl,by rw[a1];exact⟨_,_,rfl,jeb _,_,_,rfl,rfl,rfl⟩⟩⟩
    ·cases h
   ·cases h
  ·rename_i ki ei fr ku u es hk he;split at h
   ·rename_i key hkey;have hb:=(ai h).1
    replace h:=(ai h).2
    simp only[Wc,WE]at hb;obtain⟨⟨⟨hb1,hb2⟩,hb3⟩,hb4⟩:=hb;subst hb4;cases h;have hy:=q1n hkey hY;subst hy;exact zbl hF (show q04 G.w (YY G.X G.U fr) ku (.slice u) es x from hX) ht hk he hb1 hb2 hb3 key
   ·cases h
  ·cases h
 ·cases h
end
end Go.K
namespace Go.K
open Go.M Go.RowKit
section
variable {P : Program} {tt : TT}
theorem l5{b:Bool}{w:World}{n c:Nat}{lo hi:Option Value}{l h:Option Int}(hl:lo.map (fun v=>∃k i,v= .int k i/\l=some i)|>.getD (l=none))
  (hh:hi.map (fun v=>∃k i,v= .int k i/\h=some i)|>.getD (h=none)) (h0:0<=l.getD 0) (h1:l.getD 0<=h.getD n) (h2:h.getD n<=n) (hn:n<=c):
  (Instr.sliceBounds b n c lo hi none).run P w= .ok ((l.getD 0).toNat,(h.getD n).toNat,c) w:=by
 have hb:∀(k:IntKind) (i:Int) (y:Nat) (code:BoundsCode),0<=i->i<=y->(Instr.sliceBound (.int k i) y code).run P w= .ok i.toNat w:=by
  intro k i y code hi0 hi1;simp[Instr.sliceBound,asIntOf,hi0,hi1]
 cases lo with
 |none=>
  simp only[KN,Hy]at hl;subst hl;cases hi with
  |none=>
   simp only[KN,Hy]at hh;subst hh;simp[Instr.sliceBounds]
  |some v=>
   simp only[Wd,WX]at hh;obtain⟨k,i,rfl,rfl⟩:=hh;simp only[WX,Hy]at h0 h1 h2⊢;simp[Instr.sliceBounds,hb k i c _ (by omega) (by omega)]
 |some v=>
  simp only[Wd,WX]at hl;obtain⟨k,i,rfl,rfl⟩:=hl;cases hi with
  |none=>
   simp only[KN,Hy]at hh;subst hh;simp only[WX,Hy]at h0 h1 h2⊢;simp[Instr.sliceBounds,hb k i n _ (by omega) (by omega)]
  |some v' =>
   simp only[Wd,WX]at hh;obtain⟨k',i',rfl,rfl⟩:=hh;simp only[WX]at h0 h1 h2⊢;simp[Instr.sliceBounds,hb k' i' c _ (by omega) (by omega),hb k i i'.toNat _ (by omega) (by omega)]
def jw4(G:Gr):Option TV->Option Value->Prop
 |some A,some v=>VR G A v
 |none,none=>True
 |_,_=>False
theorem qyn{G:Gr}{X:Option TV}{x:Option Value}{l:Option Int}(h:jq8 X=some l)(hX:jw4 G X x):
  (x.map (fun v=>∃k i,v= .int k i/\l=some i)).getD (l=none):=by
 cases X with
 |none=>
  cases x with
  |none=>simp only[jq8,Wb]at h;simpa using h.symm
  |some v=>exact hX.elim
 |some A=>
  cases x with
  |none=>exact hX.elim
  |some v=>
   cases A<;>simp only[jq8,Wb,reduceCtorEq]at h;subst h;simp only[jw4,VR]at hX;subst hX;exact⟨_,_,rfl,rfl⟩
theorem qq7{l h:Int}{n:Nat}(hc:cut l h n=true):0<=l/\l<=h/\h<=n:=by
 simp only[cut,Wc,WH]at hc;omega
theorem jrl{w:World}{Y:Nat->Prop}{u:Ty}{xs:List u.den}{v:Value}(hv:Ty.C w Y (.slice u) xs 0 v){l h:Nat}(hlh:l<=h)(hh:h<=xs.length)(zs:List u.den)(hzl:zs.length=h-l)(hz:∀i,i<h-l->zs.getD i u.dft=xs.getD (l+i) u.dft):
  ∃a c,v= .slice a xs.length c/\xs.length<=c/\Ty.C w Y (.slice u) zs 0 (.slice (if c=l then a else a.map (·.add (l*u.sz))) (h-l) (c-l)):=by
 obtain⟨a,c,rfl,hn,hcm,hr⟩:=hv;have hn' :xs.length<=c:=hn;refine⟨a,c,rfl,hn,_,_,by rw[hzl],by rw[hzl];omega,by omega,fun hpos=> ?_⟩;rw[hzl]at hpos;obtain⟨bb,o,rfl,hbb,hs,hcell⟩:=hr (show 0<xs.length by omega);rw[if_neg (by omega)];refine⟨bb,o+l*u.sz,by simp[KL],hbb,hs,fun i f hi hf=> ?_⟩;rw[hzl]at hi;obtain⟨y,hy,h1,hC⟩:=hcell (l+i) f (show l+i<xs.length by omega) hf;refine⟨y,?_,h1,?_⟩
 ·rw[<-hy];congr 2;rw[WM];omega
 ·have:=hz i hi;rw[this];exact hC
theorem jlw(hF:dq P tt){G:Gr}{H:List TOb}(hS:Sees G H){t:TypeId}{X:TV}{x:Value}{lo hi:Option TV}{vl vh:Option Value}(hX:VR G X x)
  (hlo:jw4 G lo vl) (hhi:jw4 G hi vh) {cs:List Bool} {A:TV} (h:jrk tt H t X lo hi=some (cs,A)) (hC:gb cs):∃v,(Instr.sliceAt t x vl vh none).run P G.w= .ok v G.w/\VR G A v:=by
 unfold jrk at h;split at h
 ·rename_i el a b z ht;have hu:=jh hF ht;split at h
  ·rename_i ei l hh hel hl0 hh0;have e1:=qyn hl0 hlo;have e2:=qyn hh0 hhi;split at h
   ·rename_i fr u xs;obtain⟨hb,h2⟩:=ai h;clear h;have hsz:=ax hb;have main:∀(zs:List u.den),0<=l.getD 0->l.getD 0<=hh.getD xs.length->hh.getD xs.length<=xs.length->zs.length=(hh.getD xs.length).toNat-(l.getD 0).toNat->(∀i,i<(hh.getD xs.length).toNat-(l.getD 0).toNat->zs.getD i u.dft=xs.getD ((l.getD 0).toNat+i) u.dft)->
      ∃v,(Instr.sliceAt t x vl vh none).run P G.w= .ok v G.w/\VR G (.sl fr u zs) v:=by
     intro zs h0 h1 h2 hzl hz;obtain⟨ad,c,rfl,hn,hc⟩:=jrl hX (l:=(l.getD 0).toNat) (h:=(hh.getD xs.length).toNat) (by omega) (by omega) zs hzl hz;have hbd:=l5 (P:=P) (w:=G.w) (b:=true) e1 e2 h0 h1 h2 hn;refine⟨_,?_,hc⟩;simp[Instr.sliceAt,Instr.slice,Wq hu,hbd,ck hF hel,hsz]
    split at h2
    ·cases h2;refine main xs (by simp) (by simp) (by simp) (by simp) (fun i hi=>by simp)
    ·rename_i h';cases h2;obtain⟨h0,h1,h3⟩:=qq7 (hC _ (Wm.2 rfl));refine main (xs.take h'.toNat) (by simp) (by simpa using h1) (by simpa using h3) (by simp;omega) (fun i hi=> ?_);simp only[WX,Hy,Int.toNat_zero,Nat.sub_zero]at hi;simp[WZ,hi]
    ·rename_i l';cases h2;obtain⟨h0,h1,h3⟩:=qq7 (hC _ (Wm.2 rfl));refine main (xs.drop l'.toNat) (by simpa using h0) (by simpa using h1) (by simp) (by simp) (fun i hi=> ?_);simp[WI]
    ·rename_i l' h';cases h2;obtain⟨h0,h1,h3⟩:=qq7 (hC _ (Wm.2 rfl));refine main ((xs.take h'.toNat).drop l'.toNat) (by simpa using h0) (by simpa using h1) (by simpa using h3) (by simp;omega) (fun i hi=> ?_);simp only[WX]at hi;simp[WI,WZ,show l'.toNat+i<h'.toNat by omega]
   ·rename_i T;split at h
    ·rename_i n sz hl;obtain⟨hb,h⟩:=ai h;cases h;have hsz:=ax hb;obtain⟨h0,h1,h2⟩:=qq7 (hC _ (Wm.2 rfl));obtain⟨n',sz',hI,hs⟩:=hX;have e:=q1o hS hl hI;simp only[Wj]at e;obtain⟨rfl,rfl⟩:=e;rcases hs with⟨ad,rfl,rfl⟩|⟨g,o,c,cur,e,hJ,rfl,hn,hcm,hcur,hcs⟩
     ·have hbd:=l5 (P:=P) (w:=G.w) (b:=true) (n:=0) (c:=0) e1 e2 h0 h1 h2 (Wg _);have hz1:(hh.getD ((0:Nat):Int)).toNat=0:=by omega
      have hz2:(l.getD 0).toNat=0:=by omega
      refine⟨.slice ad 0 0,?_,0,sz',hI,by omega, .inl ⟨ad,rfl,by omega⟩⟩;rw[hz1,hz2]at hbd;simp[Instr.sliceAt,Instr.slice,Wq hu,hbd,ck hF hel]
     ·have hbd:=l5 (P:=P) (w:=G.w) (b:=true) e1 e2 h0 h1 h2 hn;refine⟨.slice (if c=(l.getD 0).toNat then some ⟨g,o+0*sz',none⟩else(some (⟨g,o+0*sz',none⟩:Addr)).map (·.add ((l.getD 0).toNat*ei.sz))) ((hh.getD n').toNat-(l.getD 0).toNat) (c-(l.getD 0).toNat),?_,n',sz',hI,by omega,?_⟩
      ·simp[Instr.sliceAt,Instr.slice,Wq hu,hbd,ck hF hel]
      ·by_cases hcl:c=(l.getD 0).toNat
       ·left;rw[if_pos hcl];exact⟨_,by rw[show(hh.getD n').toNat-(l.getD 0).toNat=0 by omega,show c-(l.getD 0).toNat=0 by omega],by omega⟩
       ·right;rw[if_neg hcl];refine⟨g,o,c-(l.getD 0).toNat,cur,e,hJ,by simp[KL,hsz],by omega,by omega,hcur,?_⟩;rw[hcs];congr 2;omega
    ·cases h
   ·rename_i T off n;split at h
    ·rename_i m sz hl;obtain⟨hb,h⟩:=ai h;cases h;have hsz:=ax hb;obtain⟨h0,h1,h2⟩:=qq7 (hC _ (Wm.2 rfl));obtain⟨n',sz',hI,hle,hs⟩:=hX;have e:=q1o hS hl hI;simp only[Wj]at e;obtain⟨rfl,rfl⟩:=e;rcases hs with⟨ad,rfl,rfl⟩|⟨g,o,c,cur,e,hJ,rfl,hn,hcm,hcur,hcs⟩
     ·have hbd:=l5 (P:=P) (w:=G.w) (b:=true) (n:=0) (c:=0) e1 e2 h0 h1 h2 (Wg _);have hz1:(hh.getD ((0:Nat):Int)).toNat=0:=by omega
      have hz2:(l.getD 0).toNat=0:=by omega
      refine⟨.slice ad 0 0,?_,n',sz',hI,by omega, .inl ⟨ad,rfl,by omega⟩⟩;rw[hz1,hz2]at hbd;simp[Instr.sliceAt,Instr.slice,Wq hu,hbd,ck hF hel]
     ·have hbd:=l5 (P:=P) (w:=G.w) (b:=true) e1 e2 h0 h1 h2 hn;refine⟨.slice (if c=(l.getD 0).toNat then some ⟨g,o+off*sz',none⟩else(some (⟨g,o+off*sz',none⟩:Addr)).map (·.add ((l.getD 0).toNat*ei.sz))) ((hh.getD n).toNat-(l.getD 0).toNat) (c-(l.getD 0).toNat),?_,n',sz',hI,by omega,?_⟩
      ·simp[Instr.sliceAt,Instr.slice,Wq hu,hbd,ck hF hel]
      ·by_cases hcl:c=(l.getD 0).toNat
       ·left;rw[if_pos hcl];exact⟨_,by rw[show(hh.getD n).toNat-(l.getD 0).toNat=0 by omega,show c-(l.getD 0).toNat=0 by omega],by omega⟩
       ·right;rw[if_neg hcl];refine⟨g,o,c-(l.getD 0).toNat,cur,e,hJ,by simp[KL,hsz,WM,Km],by omega,by omega,hcur,?_⟩;rw[hcs];congr 2;omega
    ·cases h
   ·cases h;obtain⟨h0,h1,h2⟩:=qq7 (hC _ (Wm.2 rfl));simp only[VR]at hX;subst hX;have hbd:=l5 (P:=P) (w:=G.w) (b:=true) (n:=0) (c:=0) e1 e2 h0 h1 h2 (Wg _);have hz0:hh.getD 0<=((0:Nat):Int):=h2;have hz1:(hh.getD ((0:Nat):Int)).toNat=0:=by
     have:hh.getD ((0:Nat):Int)<=0:=hz0;omega
    have hz2:(l.getD 0).toNat=0:=by omega
    refine⟨.slice none 0 0,?_,rfl⟩;rw[hz1,hz2]at hbd;simp[Instr.sliceAt,Instr.slice,Wq hu,hbd,ck hF hel]
   ·cases h
  ·cases h
 ·rename_i a b z ht;have hu:=q6l hF ht;split at h
  ·rename_i s l hh hl0 hh0;have e1:=qyn hl0 hlo;have e2:=qyn hh0 hhi;cases h;obtain⟨h0,h1,h2⟩:=qq7 (hC _ (Wm.2 rfl));simp only[VR]at hX;subst hX;have hbd:=l5 (P:=P) (w:=G.w) (b:=false) (n:=s.size) (c:=s.size) e1 e2 h0 h1 h2 (Wg _);refine⟨.string (s.extract (l.getD 0).toNat (hh.getD s.size).toNat),?_,rfl⟩;simp[Instr.sliceAt,Instr.slice,Wq hu,hbd]
  ·cases h
 ·cases h
def mm(G:Gr)(l:List Value)(L:List TV):Prop:=gf G L l/\∀u∈l,u.oneCell' =true
theorem TV.scalar_one{G:Gr}{A:TV}{v:Value}(hs:A.scalar=true)(h:VR G A v):v.oneCell' =true:=by
 cases A<;>simp only[TV.scalar,KP]at hs
 case int=>simp only[VR]at h;subst h;rfl
 case bool=>simp only[VR]at h;subst h;rfl
 case val=>simp only[VR]at h;subst h;exact hs
 case e0=>obtain⟨a,rfl⟩:=h;rfl
 case sl=>obtain⟨a,c,rfl,_⟩:=h;rfl
 case rptr=>obtain⟨b,o,rfl,_⟩:=h;rfl
 case dm=>rcases h with⟨rfl,_⟩|⟨g,hs,c,rfl,_⟩<;>rfl
 case mp=>obtain⟨g,o,q,_,_,rfl⟩:=h;rfl
 case own=>
  obtain⟨n,sz,_,⟨a,rfl,_⟩|⟨g,o,c,cur,e,_,rfl,_⟩⟩:=h<;>rfl
 case ownS=>
  obtain⟨n,sz,_,_,⟨a,rfl,_⟩|⟨g,o,c,cur,e,_,rfl,_⟩⟩:=h<;>rfl
 case ptr=>obtain⟨g,o,n,sz,_,_,rfl⟩:=h;rfl
 case fn f cs=>obtain⟨l,rfl,_⟩:=h;rcases jx9 f l with⟨g,x,y,e⟩|⟨g,x,e⟩<;>(rw[e];rfl)
theorem yc{G:Gr}{sz:Nat}{A:TV}{cs:List TV}(h:qnh sz A=some cs){v:Value}(hv:VR G A v):cs.length=sz/\mm G v.cells.toList cs:=by
 unfold qnh at h;split at h
 ·rename_i cs';obtain⟨hb,h⟩:=ai h;cases h;obtain⟨l,rfl,hl,h1⟩:=hv;exact⟨ax hb,by simpa[Value.cells]using hl,by simpa[Value.cells]using h1⟩
 ·obtain⟨hb,h⟩:=ai h;cases h;simp only[Wc]at hb;have h1:=TV.scalar_one hb.2 hv;have hvc:v.cells= #[v]:=by cases v<;>first|rfl|simp[Value.oneCell']at h1
  refine⟨(ax hb.1).symm,?_⟩;rw[hvc];exact⟨⟨v,[],rfl,hv,rfl⟩,by simpa using h1⟩
theorem jnj(off:Nat):∀(l:List Value) (k:Nat) (cs:Array Value),off+k+l.length<=cs.size->
  ((l.zipIdx k).foldl (fun cs p=>cs.setIfInBounds (off+p.2) p.1) cs).toList=cs.toList.take (off+k)++(l++cs.toList.drop (off+k+l.length)):=by
 intro l
 induction l with
 |nil=>intro k cs _;simp
 |cons c l ih=>
  intro k cs hle;simp only[WA]at hle;simp only[List.zipIdx_cons,List.foldl_cons];rw[ih (k+1) (cs.setIfInBounds (off+k) c) (by simp;omega)];have hlt:off+k<cs.toList.length:=by simp;omega
  simp only[Array.toList_setIfInBounds,WA];rw[show off+(k+1)=off+k+1 by omega,List.take_succ,Wl hlt];simp only[Option.toList_some];rw[List.take_set,List.set_eq_of_length_le (by simp;omega),List.drop_set_of_lt (by omega)];simp[Km,Nat.add_comm 1]
theorem gf.app{G:Gr}:∀{L M:List TV} {l m:List Value},gf G L l->gf G M m->gf G (L++M) (l++m)
 |[],M,l,m,h,h' =>by simp only[gf]at h;subst h;exact h'
 |A::L,M,l,m,h,h' =>by
  obtain⟨u,r,rfl,h1,h2⟩:=h;exact⟨u,r++m,rfl,h1,gf.app h2 h'⟩
theorem gf.take{G:Gr}:∀{L:List TV} {l:List Value} (n:Nat),gf G L l->gf G (L.take n) (l.take n)
 |[],l,n,h=>by simp only[gf]at h;subst h;simp[gf]
 |A::L,l,0,h=>by simp[gf]
 |A::L,l,n+1,h=>by
  obtain⟨u,r,rfl,h1,h2⟩:=h;exact⟨u,r.take n,rfl,h1,gf.take n h2⟩
theorem gf.drop{G:Gr}:∀{L:List TV} {l:List Value} (n:Nat),gf G L l->gf G (L.drop n) (l.drop n)
 |[],l,n,h=>by simp only[gf]at h;subst h;simp[gf]
 |A::L,l,0,h=>h
 |A::L,l,n+1,h=>by
  obtain⟨u,r,rfl,h1,h2⟩:=h;exact gf.drop n h2
theorem jrc{G:Gr}{L L' cs:List TV}{off:Nat}(h:qzh L off cs=some L'){l c:List Value}(hl:mm G l L)(hc:mm G c cs):
  off+c.length<=l.length/\L'.length=L.length/\mm G (l.take off++(c++l.drop (off+c.length))) L' :=by
 unfold qzh at h;obtain⟨hb,h⟩:=ai h;cases h;have hle:=qc3 hb;have e1:=hl.1.len;have e2:=hc.1.len;refine⟨by omega,by simp;omega,gf.app (hl.1.take off) (gf.app hc.1 ?_),fun u hu=> ?_⟩
 ·rw[e2];exact hl.1.drop _
 ·rcases WS.1 hu with hu|hu
  ·exact hl.2 u (K2 hu)
  ·rcases WS.1 hu with hu|hu
   ·exact hc.2 u hu
   ·exact hl.2 u (List.mem_of_mem_drop hu)
theorem qvp{G:Gr}{place:Nat->Option (Nat×Nat)}:∀(ps:List (Nat×TV)) (vs:List (Nat×Value)) (cells:Array Value) (L L' :List TV),mm G cells.toList L->
  vs.length=ps.length->(∀(j:Nat) p v,ps[j]? =some p->vs[j]? =some v->p.1=v.1/\VR G p.2 v.2)->qvo place L ps=some L' ->
  ∃cells',Instr.fill place cells vs=some cells' /\mm G cells'.toList L' :=by
 intro ps
 induction ps with
 |nil=>
  intro vs cells L L' hc hlen _ h;have:vs=[]:=KJ (by simpa using hlen);subst this;simp only[qvo,Wb]at h;subst h;exact⟨cells,rfl,hc⟩
 |cons p ps ih=>
  intro vs cells L L' hc hlen hv h;obtain⟨i,A⟩:=p;cases vs with
  |nil=>simp at hlen
  |cons q vs=>
   obtain⟨i',v⟩:=q;obtain⟨rfl,hA⟩:=hv 0 _ _ rfl rfl;simp only[qvo]at h;split at h
   ·rename_i off sz hp;split at h
    ·rename_i cs hcs;split at h
     ·rename_i L1 hL1;obtain⟨h1,h2⟩:=yc hcs hA;obtain⟨h3,h4,h5⟩:=jrc hL1 hc h2;have hsz:v.cells.size=sz:=by rw[<-h1,<-h2.1.len];simp
      have hfit:off+v.cells.size<=cells.size:=by simpa using h3
      have hcells:(v.cells.zipIdx.foldl (fun cs p=>cs.setIfInBounds (off+p.2) p.1) cells).toList=cells.toList.take off++(v.cells.toList++cells.toList.drop (off+v.cells.toList.length)):=by
       rw[<-Array.foldl_toList,Array.toList_zipIdx,jnj off v.cells.toList 0 cells (by simpa using hfit)];simp
      obtain⟨cells',h6,h7⟩:=ih vs (v.cells.zipIdx.foldl (fun cs p=>cs.setIfInBounds (off+p.2) p.1) cells) L1 L' (by rw[hcells];exact h5) (by simpa using hlen) (fun j p v hj hj' =>hv (j+1) p v (by simpa using hj) (by simpa using hj')) h;refine⟨cells',?_,h7⟩;simp only[Instr.fill];rw[show place i=some (off,sz)from hp];simp only[];rw[if_neg (by simp only[Kj,WH,ne_eq];omega)];exact h6
     ·cases h
    ·cases h
   ·cases h
theorem jkl{place:Nat->Option (Nat×Nat)}:∀(ps:List (Nat×TV)) (L L' :List TV),qvo place L ps=some L' ->L'.length=L.length:=by
 intro ps
 induction ps with
 |nil=>intro L L' h;simp only[qvo,Wb]at h;subst h;rfl
 |cons p ps ih=>
  intro L L' h;obtain⟨i,A⟩:=p;simp only[qvo]at h;split at h
  ·split at h
   ·split at h
    ·rename_i cs _ L1 hL1;rw[ih L1 L' h];unfold qzh at hL1;obtain⟨hb,hL1⟩:=ai hL1;cases hL1;have:=qc3 hb;simp;omega
    ·cases h
   ·cases h
  ·cases h
theorem q2z{G:Gr}{z:List Value}(h:zq z=true):mm G z (z.map ofV):=by
 refine⟨gf.of (by simp) fun j A u hA hu=> ?_,fun u hu=>by simp only[zq,Kt]at h;exact h u hu⟩;rw[W6,hu]at hA;cases hA;exact jpx G u
theorem jgz(hF:dq P tt):∀(fs:List Field) (pl:List (Nat×Nat)) (w:World),q48 tt (fs.map fun f=>(f.offset,f.type))=some pl->
  (fs.mapM (fun f=>(do pure (f.offset,<-sizeOf f.type):Sem (Nat×Nat)))).run P w= .ok pl w:=by
 intro fs
 induction fs with
 |nil=>intro pl w h;simp only[KH,q48,Wb]at h;subst h;simp
 |cons f fs ih=>
  intro pl w h;simp only[Kd,q48]at h;split at h
  ·rename_i x l hx hl;injection h with h
   subst h;simp only[List.mapM_cons,WJ,ck hF hx,Wy,WU,ih l w hl]
  ·cases h
theorem jj9(hF:dq P tt){G:Gr}{t:TypeId}{ps:List (Nat×TV)}{vs:List (Nat×Value)}(hlen:vs.length=ps.length)
  (hv:∀(j:Nat) p v,ps[j]? =some p->vs[j]? =some v->p.1=v.1/\VR G p.2 v.2) {A:TV} (h:jp5 tt t ps=some A):
  ∃v,(Instr.build t vs.toArray).run P G.w= .ok v G.w/\VR G A v:=by
 unfold jp5 at h;split at h
 ·rename_i c fs sz by_ z ht;obtain⟨F,hu,hf⟩:=qsg hF ht;obtain⟨i,d,zv,h1,h2,h3,h4,h5,h6,h7⟩:=(hF t _ ht).1;split at h
  ·rename_i pl hpl;obtain⟨hb,h⟩:=ai h;simp only[Wc]at hb;split at h
   ·rename_i L hL;cases h;have hcr:mm G zv.cells.toList (z.map ofV):=by
     rw[show zv.cells.toList=z from h7];exact q2z hb.2
    obtain⟨cells',hfill,hrel⟩:=qvp ps vs zv.cells (z.map ofV) L hcr hlen hv hL;have hplaces:=jgz hF F.toList pl G.w (by rw[hf];exact hpl);refine⟨.agg cells',?_,cells'.toList,by simp,hrel⟩;have harr:(F.mapM (fun f=>(do pure (f.offset,<-sizeOf f.type):Sem (Nat×Nat)))).run P G.w= .ok pl.toArray G.w:=by
     rw[Array.mapM_eq_mapM_toList,map_eq_pure_bind,WJ,hplaces];rfl
    simp only[Instr.build,WJ,zeroValue,typeInfo,run_program,Wy,h1,WU,h6,Wq hu,harr];simp[hfill]
   ·cases h
  ·cases h
 ·rename_i c n el sz by_ z ht;have hu:=q6j hF ht;obtain⟨i,d,zv,h1,h2,h3,h4,h5,h6,h7⟩:=(hF t _ ht).1;split at h
  ·rename_i ei hel;obtain⟨hb,h⟩:=ai h;simp only[Wc]at hb;split at h
   ·rename_i L hL;cases h;have hcr:mm G zv.cells.toList (z.map ofV):=by
     rw[show zv.cells.toList=z from h7];exact q2z hb.2
    obtain⟨cells',hfill,hrel⟩:=qvp ps vs zv.cells (z.map ofV) L hcr hlen hv hL;refine⟨.agg cells',?_,cells'.toList,by simp,hrel⟩;simp[Instr.build,zeroValue,typeInfo,h1,h6,Wq hu,ck hF hel,hfill]
   ·cases h
  ·cases h
 ·cases h
theorem qgl{x:TV}{r:Option (List Bool×TV)}{cs:List Bool}{A:TV}(h:jao x r=some (cs,A)):∃cs',r=some (cs',A)/\cs=x.nd++cs' :=by
 unfold jao at h;split at h
 ·rename_i cs' v;cases h;exact⟨cs',rfl,rfl⟩
 ·cases h
theorem qsl{x y:TV}{r:Option (List Bool×TV)}{cs:List Bool}{A:TV}(h:jje x y r=some (cs,A)):∃cs',r=some (cs',A)/\cs=x.nd++(y.nd++cs'):=by
 unfold jje at h;split at h
 ·rename_i cs' v;cases h;exact⟨cs',rfl,rfl⟩
 ·cases h
theorem jon{G:Gr}{g:Bool}{A B:TV}{u v:Value}(hu:g=true->VR G A u)(hv:g=false->VR G B v):VR G (jzo g A B) (if g=true then u else v):=by
 unfold jzo;split
 ·cases g with
  |true=>simpa[VR]using hu rfl
  |false=>simpa[VR]using hv rfl
 ·split
  ·rename_i hk;subst hk;cases g with
   |true=>simpa[VR]using hu rfl
   |false=>simpa[VR]using hv rfl
  ·trivial
 ·cases g with
  |true=>simpa using hu rfl
  |false=>simpa using hv rfl
theorem qla{w:World}{s:Sem Value}{v:Value}(h:s.run P w= .ok v w):(do pure (Next.value (<-s)):Sem Next).run P w= .ok (.value v) w:=by simp[h]
theorem q7q{e:Operand->TV}:∀{l:List Operand},gb (nds e l)->∀x∈l,gb (e x).nd
 |[],_,x,hx=>by simp at hx
 |y::l,h,x,hx=>by
  obtain⟨h1,h2⟩:=gb.app (l:=(e y).nd) (m:=nds e l) h;rcases Wr.1 hx with rfl|hx
  ·exact h1
  ·exact q7q h2 x hx
theorem jc7(hF:dq P tt){t:TypeId}(h:j1u tt t=true):∃d,P.underlying t=some d/\∀ms,d≠ .interface ms:=by
 unfold j1u at h;split at h
 ·rename_i ht;obtain⟨⟨i,d,zz,_,hd,hk,_⟩,_⟩:=hF t _ ht;exact⟨d,hd,fun ms he=>by subst he;cases hk⟩
 ·rename_i ht;obtain⟨⟨i,d,zz,_,hd,hk,_⟩,_⟩:=hF t _ ht;exact⟨d,hd,fun ms he=>by subst he;cases hk⟩
 ·cases h
theorem jhn{w:World}{t:TypeId}{v:Value}{d:TypeDesc}(hd:P.underlying t=some d)(hn:∀ms,d≠ .interface ms):(Instr.makeInterface t v).run P w= .ok (.iface t v) w:=by
 unfold Instr.makeInterface;rw[WJ,Wq hd,Wy];split
 ·rename_i ms;exact absurd rfl (hn ms)
 ·rfl
theorem jrh{w:World}{xt t:TypeId}{v:Value}{d:TypeDesc}(hd:P.underlying t=some d)(hn:∀ms,d≠ .interface ms):(Instr.typeAssert (.iface t v) xt t false).run P w= .ok v w:=by
 unfold Instr.typeAssert;simp only[WJ,Wq hd,Wy];cases d<;>first|exact absurd rfl (hn _)|simp
set_option maxHeartbeats 1000000 in
theorem jiw(hF:dq P tt){wr:Bool}{o:Oper}{H:List TOb}{e:Operand->TV}{cs:List Bool}{A:TV}(h:pvT wr tt H e o.op=some (cs,A))(hC:gb cs){a:Act}{G:Gr}(hS:Sees G H)
  (hx:∀x∈o.op.operands,VR G (e x) (a.eval x)):∃v,(execOp a.eval o).run P G.w= .ok (.value v) G.w/\VR G A v:=by
 obtain⟨dst,op,type,pos,after,guard⟩:=o;simp only at h hx⊢;unfold execOp;simp only;unfold pvT at h;split at h
 ·rename_i x;cases h;exact⟨_,by simp,hx x (by simp[Op.operands])⟩
 ·rename_i x;cases h;exact⟨_,by simp,hx x (by simp[Op.operands])⟩
 ·rename_i c x y;have hc:=hx c (by simp[Op.operands]);have h1:=hx x (by simp[Op.operands]);have h2:=hx y (by simp[Op.operands]);split at h
  ·rename_i g hg;cases h;obtain⟨n1,n23⟩:=hC.app;obtain⟨n2,n3⟩:=n23.app;have hcv:=hc.gt n1;rw[hg]at hcv;simp only[VR]at hcv;refine⟨if g=true then a.eval x else a.eval y,by simp[hcv,asBool],jon (fun hgt=>h1.gt fun z hz=> ?_) (fun hgf=>h2.gt fun z hz=> ?_)⟩
   ·have:=n2 (!g||z) (WG.2 ⟨z,hz,rfl⟩);rw[hgt]at this;simpa using this
   ·have:=n3 (g||z) (WG.2 ⟨z,hz,rfl⟩);rw[hgf]at this;simpa using this
  ·cases h
 ·rename_i op t x y ty;obtain⟨cs',hb,rfl⟩:=qsl h;obtain⟨n1,n23⟩:=hC.app;obtain⟨n2,hC'⟩:=n23.app;obtain⟨r,hr,hV⟩:=jp3 (P:=P) hF hS (x:=x) (y:=y) (hx x (by simp[Op.operands])) ((hx x (by simp[Op.operands])).gt n1) ((hx y (by simp[Op.operands])).gt n2) hb hC';exact⟨r,qla hr,hV⟩
 ·rename_i op t x;obtain⟨cs',hb,rfl⟩:=qgl h;obtain⟨n1,hC'⟩:=hC.app;obtain⟨r,hr,hV⟩:=jwn (P:=P) ((hx x (by simp[Op.operands])).gt n1) hb hC';exact⟨r,qla hr,hV⟩
 ·rename_i src dst' x;obtain⟨cs',hb,rfl⟩:=qgl h;obtain⟨n1,hC'⟩:=hC.app;obtain⟨r,hr,hV⟩:=jqd hF hS ((hx x (by simp[Op.operands])).gt n1) hb hC';exact⟨r,qla hr,hV⟩
 ·rename_i t x;obtain⟨cs',hb,rfl⟩:=qgl h;obtain⟨n1,hC'⟩:=hC.app;obtain⟨r,hr,hV⟩:=qv1 hF hS ((hx x (by simp[Op.operands])).gt n1) hb hC';exact⟨r,qla hr,hV⟩
 ·rename_i s x f;obtain⟨cs',hb,rfl⟩:=qgl h;obtain⟨n1,hC'⟩:=hC.app;obtain⟨r,hr,hV⟩:=jkj hF ((hx x (by simp[Op.operands])).gt n1) hb;exact⟨r,qla hr,hV⟩
 ·rename_i s x f;obtain⟨cs',hb,rfl⟩:=qgl h;obtain⟨n1,hC'⟩:=hC.app;obtain⟨r,hr,hV⟩:=jkk hF ((hx x (by simp[Op.operands])).gt n1) hb;exact⟨r,qla hr,hV⟩
 ·rename_i t x y;obtain⟨cs',hb,rfl⟩:=qsl h;obtain⟨n1,n23⟩:=hC.app;obtain⟨n2,hC'⟩:=n23.app;obtain⟨r,hr,hV⟩:=jkr hF hS ((hx x (by simp[Op.operands])).gt n1) ((hx y (by simp[Op.operands])).gt n2) hb hC';exact⟨r,qla hr,hV⟩
 ·rename_i t x y;obtain⟨cs',hb,rfl⟩:=qsl h;obtain⟨n1,n23⟩:=hC.app;obtain⟨n2,hC'⟩:=n23.app;obtain⟨r,hr,hV⟩:=jks hF ((hx x (by simp[Op.operands])).gt n1) ((hx y (by simp[Op.operands])).gt n2) hb hC';exact⟨r,qla hr,hV⟩
 ·rename_i t x lo hi;split at h
  ·rename_i cs' A' hb;cases h;obtain⟨n1,n234⟩:=hC.app;obtain⟨n2,n34⟩:=n234.app;obtain⟨n3,hC'⟩:=n34.app;have ho:∀(z:Option Operand),gb (ndO e z)->(∀y,z=some y->y∈(Op.slice t x lo hi none).operands)->jw4 G (z.map fun y=>(e y).gt) (z.map a.eval):=by
    intro z hz hm;cases z with
    |none=>trivial
    |some y=>exact(hx y (hm y rfl)).gt hz
   obtain⟨r,hr,hV⟩:=jlw (P:=P) hF hS ((hx x (by simp[Op.operands])).gt n1) (ho lo n2 (by rintro y rfl;simp[Op.operands])) (ho hi n3 (by rintro y rfl;simp[Op.operands])) hb hC';exact⟨r,qla (by simpa using hr),hV⟩
  ·cases h
 ·rename_i t x hi mx;split at h
  ·rename_i v hb;cases h;obtain⟨n1,n23⟩:=hC.app;obtain⟨n2,n3⟩:=n23.app;have v1:=(hx x (by simp[Op.operands])).gt n1;have v2:=(hx hi (by simp[Op.operands])).gt n2;have v3:=(hx mx (by simp[Op.operands])).gt n3;unfold e0T at hb;split at hb
   ·rename_i el _ _ _ ht;split at hb
    ·rename_i ei hel;split at hb
     ·rename_i k k' e2 e3;rw[e2]at v2;rw[e3]at v3;simp only[VR]at v2 v3;have hu:=jh hF ht;have hs:∃b n c,a.eval x= .slice b n c/\A= .e0:=by
       split at hb<;>cases hb<;>rename_i e1<;>rw[e1]at v1
       ·obtain⟨b,c,h',_⟩:=v1;exact⟨_,_,_,h',rfl⟩
       ·obtain⟨n,sz,_,⟨b,h',_⟩|⟨g,o,c,cur,e',_,h',_⟩⟩:=v1<;>exact⟨_,_,_,h',rfl⟩
       ·obtain⟨n,sz,_,_,⟨b,h',_⟩|⟨g,o,c,cur,e',_,h',_⟩⟩:=v1<;>exact⟨_,_,_,h',rfl⟩
       ·simp only[VR]at v1;exact⟨_,_,_,v1,rfl⟩
      obtain⟨b,n,c,hxe,rfl⟩:=hs;refine⟨.slice b 0 0,qla ?_,b,rfl⟩;simp only[Wd,KN,hxe,v2,v3];simp[Instr.sliceAt,Instr.slice,Instr.sliceBounds,Instr.sliceBound,asIntOf,Wq hu,ck hF hel]
     ·cases hb
    ·cases hb
   ·cases hb
  ·cases h
 ·rename_i t x y ok;obtain⟨cs',hb,rfl⟩:=qsl h;obtain⟨n1,n23⟩:=hC.app;obtain⟨n2,hC'⟩:=n23.app;obtain⟨r,hr,hV⟩:=jn4 hF hS ((hx x (by simp[Op.operands])).gt n1) ((hx y (by simp[Op.operands])).gt n2) hb;exact⟨r,qla hr,hV⟩
 ·rename_i x ix;split at h
  ·rename_i l hg;obtain⟨hb,h⟩:=ai h;cases h;have hv:=(hx x (by simp[Op.operands])).gt hC;rw[hg]at hv;obtain⟨vs,hl,hc⟩:=hv;obtain⟨u,hu,hV⟩:=hc.getD ix (cm hb);exact⟨u,qla (by simp[Instr.extract,hl,hu]),hV⟩
  ·cases h
 ·rename_i x t;obtain⟨cs',hb,rfl⟩:=qgl h;obtain⟨n1,hC'⟩:=hC.app;obtain⟨r,hr,hV⟩:=jqr (P:=P) hF hS (ty:=type) ((hx x (by simp[Op.operands,Call.operands])).gt n1) hb;refine⟨r,?_,hV⟩;simp[resolve,invoke,builtin,hr]
 ·rename_i x t;split at h
  ·rename_i el a b z ht hg;cases h;have v1:=(hx x (by simp[Op.operands,Call.operands])).gt hC;rw[hg]at v1;simp only[VR]at v1;refine⟨.int .i64 0,?_,rfl⟩;simp[resolve,invoke,builtin,v1,Builtin.cap_,Wq (jh hF ht),goInt]
  ·cases h
 ·rename_i x y ts;split at h
  ·rename_i k m k' n hg1 hg2;cases h;obtain⟨n1,n2⟩:=hC.app;have v1:=(hx x (by simp[Op.operands,Call.operands])).gt n1;have v2:=(hx y (by simp[Op.operands,Call.operands])).gt n2;rw[hg1]at v1;rw[hg2]at v2;simp only[VR]at v1 v2;refine⟨.int k (max m n),?_,rfl⟩;simp only[resolve,invoke,builtin,WU,Hm,Kd,KH,v1,v2,Builtin.max_,List.foldlM_cons,List.foldlM_nil,Builtin.max2,K7];congr 3;rw[Int.max_def];split<;>split<;>omega
  ·cases h
 ·rename_i x y ts;split at h
  ·rename_i k m k' n hg1 hg2;cases h;obtain⟨n1,n2⟩:=hC.app;have v1:=(hx x (by simp[Op.operands,Call.operands])).gt n1;have v2:=(hx y (by simp[Op.operands,Call.operands])).gt n2;rw[hg1]at v1;rw[hg2]at v2;simp only[VR]at v1 v2;refine⟨.int k (min m n),?_,rfl⟩;simp only[resolve,invoke,builtin,WU,Hm,Kd,KH,v1,v2,Builtin.min_,List.foldlM_cons,List.foldlM_nil,Builtin.min2,K7];congr 3;rw[Int.min_def];split<;>split<;>omega
  ·cases h
 ·rename_i t ps;split at h
  ·rename_i A' hb;cases h;obtain⟨r,hr,hV⟩:=jj9 (P:=P) hF (vs:=ps.toList.map fun p=>(p.1,a.eval p.2)) (G:=G) (by simp) (by
    intro j p v hp hv;rw[W6]at hp hv;cases hq:ps.toList[j]? with
    |none=>simp[hq]at hp
    |some q=>
     simp only[hq,Wd,Wb]at hp hv;subst hp;subst hv;have hm:q∈ps.toList:=WV hq;refine⟨rfl,(hx q.2 ?_).gt (q7q hC q.2 (WG.2 ⟨q,hm,rfl⟩))⟩;simp only[Op.operands];exact List.mem_toArray.2 (WG.2 ⟨q,hm,rfl⟩)) hb
   refine⟨r,qla ?_,hV⟩;rw[<-hr];congr 2;apply Array.ext';simp
  ·cases h
 ·rename_i f caps;obtain⟨hbf,h⟩:=ai h;cases h;refine⟨.func (.func f) #[] (caps.map a.eval),by simp[Instr.makeFunc],caps.toList.map a.eval,?_,gf.of (by simp) fun j A u hA hu=> ?_⟩
  ·unfold fnV;rw[hbf];simp only[WQ];congr 1;apply Array.ext';simp
  ·rw[W6]at hA hu;cases hq:caps.toList[j]? with
   |none=>simp[hq]at hA
   |some q=>
    simp only[hq,Wd,Wb]at hA hu;subst hA;subst hu;exact hx q (by simp only[Op.operands];exact Array.mem_append.2 (.inr (Array.mem_toList_iff.1 (WV hq))))
 ·rename_i f bs _;obtain⟨hbf,h⟩:=ai h;have hbf:=cm hbf;cases h;refine⟨.func (.func f) (bs.map a.eval) #[],by simp[Instr.makeFunc],bs.toList.map a.eval,?_,gf.of (by simp) fun j A u hA hu=> ?_⟩
  ·unfold fnV;rw[show Nat.blt (f+qcw) qcw=false by
    cases hb:Nat.blt (f+qcw) qcw with
    |false=>rfl
    |true=>have:=cm hb;omega,show Nat.blt (f+qcw) qc2=true from Nat.ble_eq_true_of_le (by unfold qcw at hbf⊢;unfold qc2;omega)]
   simp only[W9,WQ,HS];congr 1;apply Array.ext';simp
  ·rw[W6]at hA hu;cases hq:bs.toList[j]? with
   |none=>simp[hq]at hA
   |some q=>
    simp only[hq,Wd,Wb]at hA hu;subst hA;subst hu;exact hx q (by simp only[Op.operands];exact Array.mem_append.2 (.inl (Array.mem_toList_iff.1 (WV hq))))
 ·rename_i t x;obtain⟨hc,h⟩:=ai h;cases h;obtain⟨d,hd,hn⟩:=jc7 hF hc;refine⟨.iface t (a.eval x),qla (jhn hd hn),[a.eval x],?_,⟨_,_,rfl,hx x (by simp[Op.operands]),rfl⟩⟩;unfold fnV;rw[show Nat.blt (t+qc2) qcw=false by
   cases hb:Nat.blt (t+qc2) qcw with
   |false=>rfl
   |true=>have:=cm hb;unfold qcw qc2 at this;omega,show Nat.blt (t+qc2) qc2=false by
   cases hb:Nat.blt (t+qc2) qc2 with
   |false=>rfl
   |true=>have:=cm hb;omega]
  simp only[W9,HS,List.headD]
 ·rename_i x xt t;have h0:=hx x (by simp[Op.operands]);split at h
  ·rename_i f A hg;have hb:=ai h;clear h;obtain⟨hc,h⟩:=hb;obtain⟨hc1,hf⟩:=Bool.and_eq_true_iff.1 hc
   replace hf:=ax hf
   subst hf;cases h;obtain⟨d,hd,hn⟩:=jc7 hF hc1;have hv:=h0.gt hC;rw[hg]at hv;obtain⟨l,hp,u,r,rfl,hA,hr⟩:=hv;unfold fnV at hp;rw[show Nat.blt (t+qc2) qcw=false by
    cases hb:Nat.blt (t+qc2) qcw with
    |false=>rfl
    |true=>have:=cm hb;unfold qcw qc2 at this;omega,show Nat.blt (t+qc2) qc2=false by
    cases hb:Nat.blt (t+qc2) qc2 with
    |false=>rfl
    |true=>have:=cm hb;omega]at hp
   simp only[W9,HS,List.headD]at hp;exact⟨u,qla (by rw[hp];exact jrh hd hn),hA⟩
  ·cases h
 ·rename_i x;have h0:=hx x (by simp[Op.operands]);split at h
  ·rename_i hg;cases h;have hv:=h0.gt hC;rw[hg]at hv;have hv' :=hv;obtain⟨g,o,n,sz,_,_,hp⟩:=hv;rw[hp]at hv';exact⟨_,by simp[hp],hv'⟩
  ·rename_i hg;cases h;have hv:=h0.gt hC;rw[hg]at hv;have hv' :=hv;obtain⟨b,o,hp,hrest⟩:=hv;rw[hp]at hv';exact⟨_,by simp[hp],hv'⟩
  ·rename_i hg;cases h;have hv:=h0.gt hC;rw[hg]at hv;have hv' :=hv;obtain⟨l,hp,hrest⟩:=hv;rcases jx9 _ l with⟨g,x,y,e⟩|⟨g,x,e⟩<;>
   ·rw[e]at hp;rw[hp]at hv';exact⟨_,by simp[hp],hv'⟩
  ·cases h
 ·cases h
end
end Go.K
namespace Go.K
open Go.M Go.RowKit
def TG.ob:TG->Nat
 | .o t=>t
 | .r t _ _=>t
theorem fv(θ:TG->Ac):∀(S:List (Nat×TV)) (t:Nat),bu (sbS θ S) t=(bu S t).sb θ
 |[],t=>rfl
 |(a,v)::l,t=>by
  simp only[sbS,bu];cases Nat.beq a t with
  |true=>rfl
  |false=>exact fv θ l t
theorem q7{a:Nat}{v:TV}{S:List (Nat×TV)}{t:Nat}:bu ((a,v)::S) t=if a=t then v else bu S t:=by
 simp only[bu];by_cases h:a=t
 ·subst h;simp[W5]
 ·rw[if_neg h];have:Nat.beq a t=false:=by
   cases hb:Nat.beq a t with
   |false=>rfl
   |true=>exact absurd (ax hb) h
  rw[this];rfl
mutual
theorem TV.sb_id:∀(A:TV),A.sb (fun _=> .id)=A
 | .any=>rfl
 | .int _ _=>rfl
 | .bool _=>rfl
 | .val _=>rfl
 | .e0=>rfl
 | .sl _ _ _=>rfl
 | .rptr _ _ _ _ _=>rfl
 | .own _=>rfl
 | .ownS _ _ _=>rfl
 | .ptr _ _ _=>rfl
 | .mp _=>rfl
 | .dm _ _ _ _=>rfl
 | .fn f cs=>by simp only[TV.sb,TV.sbL_id cs]
 | .agg cs=>by simp only[TV.sb,TV.sbL_id cs]
 | .tup cs=>by simp only[TV.sb,TV.sbL_id cs]
 | .cond c a=>by simp only[TV.sb,TV.sb_id a]
 | .nl _ a=>by simp only[TV.sb,TV.sb_id a]
theorem TV.sbL_id:∀(cs:List TV),TV.sbL (fun _=> .id) cs=cs
 |[]=>rfl
 |v::l=>by simp only[TV.sbL,TV.sb_id v,TV.sbL_id l]
end
theorem TV.sbL_at(θ:TG->Ac):∀(cs:List TV) (j:Nat),(TV.sbL θ cs).getD j .any=(cs.getD j .any).sb θ
 |[],j=>by simp[TV.sbL,TV.sb]
 |v::l,0=>by simp[TV.sbL]
 |v::l,j+1=>by simpa[TV.sbL]using TV.sbL_at θ l j
theorem ij(θ:TG->Ac):∀(H:List TOb) (t:Nat),(cx θ H)[t]? =(H[t]?).map (TOb.sb θ)
 |[],t=>by simp[cx]
 |o::l,0=>by simp[cx]
 |o::l,t+1=>by simpa[cx]using ij θ l t
theorem c7(θ:TG->Ac):∀(H:List TOb),(cx θ H).length=H.length
 |[]=>rfl
 |o::l=>by simp[cx,c7 θ l]
mutual
theorem Ty.cells_sb(θ:TG->Ac)(fr:Bool):∀(t:Ty) (x:t.den) (f:Nat),((t.cells fr x).getD f .any).sb θ=(t.cells fr x).getD f .any
 | .int k,n,f=>by cases f<;>simp[Ty.cells,TV.sb]
 | .bool,b,f=>by cases f<;>simp[Ty.cells,TV.sb]
 | .str,s,f=>by cases f<;>simp[Ty.cells,TV.sb]
 | .slice t,xs,f=>by cases f<;>simp[Ty.cells,TV.sb]
 | .struct l,x,f=>TyL.cells_sb θ fr l x f
 | .tree l m,x,f=>by
  rw[qyz];split
  ·exact TyL.cells_sb θ fr l _ f
  ·split
   ·simp[TV.sb]
   ·exact TyL.cells_sb θ fr m _ _
theorem TyL.cells_sb(θ:TG->Ac)(fr:Bool):∀(l:TyL) (x:l.den) (f:Nat),((l.cells fr x).getD f .any).sb θ=(l.cells fr x).getD f .any
 | .nil,_,f=>by simp[TyL.cells,TV.sb]
 | .cons t l,x,f=>by
  have h1:=Ty.cells_sb θ fr t x.1;have h2:=TyL.cells_sb θ fr l x.2;simp only[Wa]at h1 h2;simp only[TyL.cells,Wa,Hg];split
  ·exact h1 f
  ·exact h2 _
end
def Vw.sb(θ:TG->Ac)(v:Vw):Vw:={v with cs:=fun i f=>(v.cs i f).sb θ}
theorem jy5{θ:TG->Ac}{t:Nat}(hθ:∀i f,θ (.r t i f)= .id)(md:Md)(u:Ty)(xs:List u.den)(i f:Nat):(b7 t md u xs i f).sb θ=b7 t md u xs i f:=by
 unfold b7;split
 ·cases md with
  |fz fr=>rfl
  |own=>simp[TV.sb,hθ]
  |hole i0 f0=>simp only[];split<;>simp[TV.sb,hθ]
  |swap i0 j0=>simp only[];split<;>simp[TV.sb,hθ]
 ·exact Ty.cells_sb θ _ u _ f
theorem js3(θ:TG->Ac)(kt vt:Ty)(es:List (kt.den×vt.den))(i f:Nat):(qzc kt vt es i f).sb θ=qzc kt vt es i f:=by
 unfold qzc;split
 ·split<;>rfl
 ·rfl
theorem zaa{θ:TG->Ac}{t:Nat}(hθ:∀i f,θ (.r t i f)= .id)(kt:Ty){β:Type}(es:List (kt.den×β))(h:Option Nat)(i f:Nat):(moC t kt es h i f).sb θ=moC t kt es h i f:=by
 unfold moC;split
 ·split
  ·rfl
  ·split<;>simp[TV.sb,hθ]
  ·rfl
 ·rfl
theorem qj3{u:Ty}(h:u.sz=0)(fr:Bool)(x:u.den)(f:Nat):(u.cells fr x).getD f .any= .any:=by
 rw[Wa,Wp (by rw[Ty.cells_len];omega)];rfl
theorem qbe{t:Nat}{md:Md}{u:Ty}{xs:List u.den}{i f:Nat}(h:u.sz=0):b7 t md u xs i f= .any:=by
 unfold b7;rw[qj3 h]
theorem zap{θ:TG->Ac}{A B:TV}(h1:A= .any)(h2:B= .any):B=A.sb θ:=by subst h1 h2;rfl
theorem qya{θ:TG->Ac}{H:List TOb}{T:TG}(hθ:∀i f,θ (.r T.ob i f)= .id):vw (cx θ H) T=(vw H T).map (Vw.sb θ):=by
 cases T with
 |o t=>
  simp only[vw,ij];cases hq:H[t]? with
  |none=>rfl
  |some ob=>
   cases ob with
   |arr ty md its u xs=>
    simp only[Wd,TOb.sb,vwO,Vw.sb];congr 2;funext i f;exact(jy5 hθ md u xs i f).symm
   |cs ty sz n l=>
    simp only[Wd,TOb.sb,vwO,Vw.sb];congr 2;funext i f;exact TV.sbL_at θ l _
   |mp kt vt es=>
    simp only[Wd,TOb.sb,vwO,Vw.sb];congr 2;funext i f;exact(js3 θ kt vt es i f).symm
   |mo kt u ety es h=>
    simp only[Wd,TOb.sb,vwO,Vw.sb];congr 2;funext i f;exact(zaa hθ kt es h i f).symm
   |gone=>rfl
 |r t i f=>
  simp only[vw,ij];cases hq:H[t]? with
  |none=>rfl
  |some ob=>
   cases ob with
   |arr ty md its u xs=>
    simp only[Wd,TOb.sb,vwR];split
    ·split
     ·simp only[Wd,Vw.sb];congr 2;funext j g;exact(Ty.cells_sb θ true _ _ g).symm
     ·rfl
    ·rfl
   |cs ty sz n l=>rfl
   |mp kt vt es=>rfl
   |mo kt u ety es h=>
    simp only[Wd,TOb.sb,vwR];split
    ·simp only[Wd,Vw.sb];congr 2;funext j g;exact(Ty.cells_sb θ true _ _ g).symm
    ·rfl
   |gone=>rfl
theorem qda{θ:TG->Ac}{V V' :TG->Option Vw}{T:TG}(h:V' T=(V T).map (Vw.sb θ)):aj V' T=aj V T:=by
 simp only[aj,h,Option.map_map];rfl
theorem eh{H:List TOb}{t:Nat}{ob:TOb}{T:TG}(h:T.ob≠t):vw (H.set t ob) T=vw H T:=by
 cases T with
 |o t' =>simp only[TG.ob]at h;simp only[vw,WF (Ko h)]
 |r t' i f=>simp only[TG.ob]at h;simp only[vw,WF (Ko h)]
section
variable {U : Nat -> Prop} {w0 : World} {J0 : Pl} {K : Nat -> Bool}
theorem HR.lt{V:TG->Option Vw}{w:World}{J:Pl}(h:HR U w0 J0 K V w J){T:TG}{g o:Nat}(hJ:J T=some (g,o)):g<w.heap.size:=by
 obtain⟨v,hv⟩:=h.dom T _ hJ;have:=h.obj T v hv;rw[hJ]at this;have hh:∃b,w.heap[g]? =some b:=by
  rcases this with⟨_,cur,c,hh,_⟩|⟨_,_,es,k,hh,_⟩<;>exact⟨_,hh⟩
 obtain⟨b,hh⟩:=hh;rcases Wz g w.heap.size with h' |h'
 ·exact h'
 ·rw[KV h']at hh;cases hh
def HZ(G G' :Gr)(v v' :Vw):Prop:=(∃θ' :TG->Ac,∀i f,v'.cs i f=(v.cs i f).sb θ')/\∀i u,VR G (v.cs i 1) u->VR G' (v'.cs i 1) u
theorem HZ.any{G G' :Gr}{v v' :Vw}(h1:∀i f,v.cs i f= .any)(h2:∀i f,v'.cs i f= .any):HZ G G' v v' :=⟨⟨fun _=> .id,fun i f=>by rw[h1,h2];rfl⟩,fun i u _=>by rw[h2];trivial⟩
theorem HZ.of{θ:TG->Ac}{G G' :Gr}(m:Mv θ G G'){v v' :Vw}(h:∀i f,v'.cs i f=(v.cs i f).sb θ):HZ G G' v v' :=⟨⟨θ,h⟩,fun i u hu=>by rw[h];exact VR.mv m _ u hu⟩
theorem OR.mv{θ:TG->Ac}{G G' :Gr}(_h:Mv θ G G'){p:Option (Nat×Nat)}{v v' :Vw}(ho:OR G p v)(hb:∀g o,p=some (g,o)->G'.w.heap[g]? =G.w.heap[g]?)(ht:v'.ty=v.ty)(hs:v'.sz=v.sz)(hn:v'.n=v.n)
  (hc:∀i f,i<v.n->f<v.sz->∀u,VR G (v.cs i f) u->VR G' (v'.cs i f) u) (hz:v.sz=0->v.n=0->HZ G G' v v'):OR G' p v' :=by
 cases p with
 |none=>simp only[OR]at ho⊢;omega
 |some p=>
  obtain⟨g,o⟩:=p;rcases ho with⟨hp0,cur,c,hh,hsz,hle,hcell⟩|⟨h1,h2,es,k,hh,hm⟩
  ·refine .inl ⟨by omega,cur,c,by rw[hb g o rfl,hh,ht],by rw[hsz,hs],by omega,fun i f hi hf=> ?_⟩;rw[hn]at hi;rw[hs]at hf⊢;obtain⟨u,hu,h1,hV⟩:=hcell i f hi hf;exact⟨u,hu,h1,hc i f hi hf u hV⟩
  ·obtain⟨⟨θ',hθ⟩,hv1⟩:=hz h1 h2;exact .inr ⟨by omega,by omega,es,k,by rw[hb g o rfl,hh],hm.sb hθ hv1⟩
theorem HR.upd{V V' :TG->Option Vw}{w w' :World}{J J' :Pl}(h:HR U w0 J0 K V w J){θ:TG->Ac}(chg:Nat->Prop)(m:Mv θ (gr U V w J) (gr U V' w' J'))
  (hV:∀T,¬chg T.ob->V' T=(V T).map (Vw.sb θ)) (hJ:∀T,¬chg T.ob->J' T=J T) (hblk:∀T g o,¬chg T.ob->J T=some (g,o)->w'.heap[g]? =w.heap[g]?)
  (hobj:∀T v,chg T.ob->V' T=some v->OR (gr U V' w' J') (J' T) v) (hdom:∀T p,chg T.ob->J' T=some p->∃v,V' T=some v)
  (hown:∀T g o,chg T.ob->J' T=some (g,o)->(∃T0 o0,J T0=some (g,o0))\/w.heap.size<=g) (hinj:∀T T' g o o',J' T=some (g,o)->J' T' =some (g,o')->T=T')
  (hos:w'.os=w.os) (htape:w'.tape=w.tape) (hout:w'.output=w.output) (hkeep:∀t,K t=true->chg t->J' (.o t)=J (.o t))
  (hksz:∀t g o,K t=true->chg t->J (.o t)=some (g,o)->∀cur e,w.heap[g]? =some (.cells cur e (0,0))->∃cur',w'.heap[g]? =some (.cells cur' e (0,0))/\cur'.size=cur.size):
  HR U w0 J0 K V' w' J' :=by
 refine⟨hinj,fun T p hp=> ?_,fun T v hv=> ?_,fun T g o hT=> ?_,hos.trans h.os,htape.trans h.tape,hout.trans h.output,Kb h.size m.size,fun b hb hn=> ?_,fun t ht=> ?_,fun t g o ht hg cur e hc=> ?_,h.ulow,h.tb0⟩
 ·by_cases hc:chg T.ob
  ·exact hdom T p hc hp
  ·rw[hJ T hc]at hp;obtain⟨v,hv⟩:=h.dom T p hp;exact⟨_,by rw[hV T hc,hv];rfl⟩
 ·by_cases hc:chg T.ob
  ·exact hobj T v hc hv
  ·rw[hV T hc]at hv;cases hq:V T with
   |none=>rw[hq]at hv;cases hv
   |some v0=>
    rw[hq]at hv;simp only[Wd,Wb]at hv;subst hv;rw[hJ T hc];exact(h.obj T v0 hq).mv m (fun g o hp=>hblk T g o hc hp) rfl rfl rfl (fun i f _ _ u hu=>VR.mv m _ u hu) (fun _ _=>⟨⟨θ,fun _ _=>rfl⟩,fun i u hu=>VR.mv m _ u hu⟩)
 ·by_cases hc:chg T.ob
  ·rcases hown T g o hc hT with⟨T0,o0,h0⟩|hge
   ·exact h.own T0 g o0 h0
   ·refine⟨fun hu=> ?_, .inl (Kb h.size hge)⟩;have:=h.ulow g hu;have:=h.size;omega
  ·rw[hJ T hc]at hT;exact h.own T g o hT
 ·refine(m.blk b (WL hb h.size) ?_).trans (h.blk b hb hn);rintro⟨T,o,hT⟩;rcases(h.own T b o hT).2 with hge|⟨T',o',h'⟩
  ·omega
  ·exact hn T' o' h'
 ·by_cases hc:chg t
  ·rw[hkeep t ht hc];exact h.keep t ht
  ·rw[hJ (.o t) hc];exact h.keep t ht
 ·obtain⟨cur1,h1,h2⟩:=h.ksz t g o ht hg cur e hc;have hg' :J (.o t)=some (g,o):=by rw[h.keep t ht];exact hg
  by_cases hcg:chg t
  ·obtain⟨cur2,h3,h4⟩:=hksz t g o ht hcg hg' cur1 e h1;exact⟨cur2,h3,h4.trans h2⟩
  ·exact⟨cur1,by rw[hblk (.o t) g o hcg hg'];exact h1,h2⟩
theorem Mv.upd{V V' :TG->Option Vw}{w w' :World}{J J' :Pl}(h:HR U w0 J0 K V w J){θ:TG->Ac}(chg:Nat->Prop)(hsize:w.heap.size<=w'.heap.size)
  (hV:∀T,¬chg T.ob->V' T=(V T).map (Vw.sb θ)) (hJ:∀T,¬chg T.ob->J' T=J T) (hblk:∀T g o,¬chg T.ob->J T=some (g,o)->w'.heap[g]? =w.heap[g]?)
  (hfree:∀b,b<w.heap.size->¬da J b->w'.heap[b]? =w.heap[b]?) (hown:∀T g o,chg T.ob->J' T=some (g,o)->(∃T0 o0,J T0=some (g,o0))\/w.heap.size<=g)
  (hid:∀T q,¬chg T.ob->∀T',θ T= .to T' ->aj V T=some q->aj V' T' =some q/\∀g o,J T=some (g,o)->J' T' =some (g,o))
  (hto:∀T T' q,chg T.ob->(θ T= .id/\T' =T)\/θ T= .to T' ->aj V T=some q->aj V' T' =some q/\∀g o,J T=some (g,o)->J' T' =some (g,o)/\
   ∀cur e,w.heap[g]? =some (.cells cur e (0,0))->∃cur',w'.heap[g]? =some (.cells cur' e (0,0))/\cur'.size=cur.size)
  (hfz:∀T fr u xs q,θ T= .fz fr u xs->aj V T=some q->q=(xs.length,u.sz)/\∀g o,J T=some (g,o)->qqw w' (YY (da J') U fr) u xs g o):
  Mv θ (gr U V w J) (gr U V' w' J'):=by
 refine⟨hsize,fun b hb hx hx' => ?_,fun b _ _ hu=>hu,hfree,fun T T' q ht hq=> ?_,hfz⟩
 ·obtain⟨T,o,hT⟩:=hx';by_cases hc:chg T.ob
  ·rcases hown T b o hc hT with⟨T0,o0,h0⟩|hge
   ·exact hx ⟨T0,o0,h0⟩
   ·have:b<w.heap.size:=hb;omega
  ·rw[hJ T hc]at hT;exact hx ⟨T,o,hT⟩
 ·by_cases hc:chg T.ob
  ·exact hto T T' q hc ht hq
  ·have hq' :aj V T=some q:=hq;rcases ht with⟨_,rfl⟩|ht
   ·refine⟨by show aj V' T' =some q;rw[qda (hV T' hc)];exact hq',fun g o hg=>⟨by show J' T' =_;rw[hJ T' hc];exact hg,fun cur e hh=>⟨cur,by show w'.heap[g]? =_;rw[hblk T' g o hc hg];exact hh,rfl⟩⟩⟩
   ·obtain⟨h1,h2⟩:=hid T q hc T' ht hq';exact⟨h1,fun g o hg=>⟨h2 g o hg,fun cur e hh=>⟨cur,by show w'.heap[g]? =_;rw[hblk T g o hc hg];exact hh,rfl⟩⟩⟩
variable {N : Nat}
theorem ARel.go{S S' :Nat->TV}{V V' :TG->Option Vw}{a:Act}{w w' :World}{J J' :Pl}(h:ARel U w0 J0 K N S V a w J){θ:TG->Ac}(m:Mv θ (gr U V w J) (gr U V' w' J'))(hS:∀t,S' t=(S t).sb θ)
  (hr:HR U w0 J0 K V' w' J'):ARel U w0 J0 K N S' V' a w' J' :=
 ⟨h.defers,h.len,fun t ht=>by
  obtain⟨v,hv,hV⟩:=h.slot t ht;exact⟨v,hv,by rw[hS];exact VR.mv m _ v hV⟩,hr⟩
theorem dr.put{s:TS}{a:Act}{w:World}{J:Pl}(h:dr U w0 J0 K N s a w J)(d:Option Tmp){A:TV}{v:Value}(hv:VR (gr U (vw s.H) w J) A v):dr U w0 J0 K N (s.put d A) (a.put d v) w J:=by
 cases d with
 |none=>exact h
 |some d=>
  refine⟨h.defers,by simp[Act.put,h.len],fun t ht=> ?_,h.hr⟩;simp only[TS.put,Act.put,q7];by_cases htd:d=t
  ·subst htd;rw[if_pos rfl];exact⟨v,by rw[Array.getElem?_setIfInBounds_self_of_lt (by rw[h.len];exact ht)],hv⟩
  ·rw[if_neg htd,Hf htd];exact h.slot t ht
theorem dr.ev{s:TS}{a:Act}{w:World}{J:Pl}(h:dr U w0 J0 K N s a w J)(x:Operand):VR (gr U (vw s.H) w J) (evT N s.S x) (a.eval x):=by
 cases x with
 |tmp t=>
  simp only[evT,rd,Act.eval,Kz];cases hb:Nat.blt t N with
  |false=>exact trivial
  |true=>
   obtain⟨v,hv,hV⟩:=h.slot t (cm hb);simpa[hv]using hV
 |const v=>exact jpx _ v
 |func f=>
  simp only[evT];cases hb:Nat.blt f qcw with
  |true=>exact⟨[],by simp only[fnV,hb];rfl,rfl⟩
  |false=>trivial
 |global g=>exact trivial
theorem HR.sees{H:List TOb}{w:World}{J:Pl}(h:HR U w0 J0 K (vw H) w J):Sees (gr U (vw H) w J) H:=by
 refine⟨fun T v hv=>⟨by simp[gr,aj,hv],h.obj T v hv⟩,fun t i f ob ho hng q hq=> ?_⟩;simp only[gr,aj]at hq;cases hv:vw H (.r t i f)with
 |none=>rw[hv]at hq;cases hq
 |some v=>exact⟨v,rfl⟩
def CsW(ob ob' :TOb):Prop:=∃ty sz n cs,ob= .cs ty sz n cs/\0<sz/\((∃cs',ob' = .cs ty sz n cs' /\∀i,cs.getD i .any= .any\/cs.getD i .any=cs'.getD i .any)\/(∃md its u xs,ob' = .arr ty md its u xs/\u.sz=sz/\xs.length=n/\∀i,cs.getD i .any= .any))
theorem jv6{G:Gr}{H Hv:List TOb}(h:Sees G H)(hw:∀(t:Nat) (ob:TOb),Hv[t]? =some ob->ob= .gone\/H[t]? =some ob\/∃ob',H[t]? =some ob' /\CsW ob ob'):Sees G Hv:=by
 refine⟨fun T v hv=> ?_,fun t i f ob ho hng q hq=> ?_⟩
 ·cases T with
  |o t=>
   cases hq:Hv[t]? with
   |none=>simp only[vw,hq]at hv;cases hv
   |some ob=>
    rcases hw t ob hq with rfl|ho|⟨ob',ho,ty,sz,n,cs,rfl,hsz0,hc⟩
    ·simp only[vw,hq]at hv;cases hv
    ·refine h.see _ _ ?_;simp only[vw,hq]at hv;simp only[vw,ho];exact hv
    ·rw[qfs hq]at hv;injection hv with hv
     subst hv;have key:∀v' :Vw,vw H (.o t)=some v' ->v'.ty=ty->v'.sz=sz->v'.n=n->(∀i f,cs.getD (i*sz+f) .any= .any\/cs.getD (i*sz+f) .any=v'.cs i f)->G.I (.o t)=some (n,sz)/\OR G (G.J (.o t)) ⟨ty,sz,n,fun i f=>cs.getD (i*sz+f) .any⟩:=by
      intro v' hv' e1 e2 e3 e4;obtain⟨ty',sz',n',cs'⟩:=v';simp only at e1 e2 e3 e4;subst e1 e2 e3;obtain⟨h1,h2⟩:=h.see _ _ hv';refine⟨h1,?_⟩;cases hp:G.J (.o t)with
      |none=>rw[hp]at h2;exact h2
      |some p=>
       obtain⟨g,o⟩:=p;rw[hp]at h2;rcases h2 with⟨hp0,cur,c,hh,hsz,hle,hcell⟩|⟨h1,h2,es,k,hh,hm⟩
       ·refine .inl ⟨hp0,cur,c,hh,hsz,hle,fun i f hi hf=> ?_⟩;obtain⟨u,hu,h3,hV⟩:=hcell i f hi hf;refine⟨u,hu,h3,?_⟩;show VR G (cs.getD (i*sz' +f) .any) u;rcases e4 i f with e|e
        ·rw[e];exact trivial
        ·rw[e];exact hV
       ·exact absurd (show sz' =0 from h1) (by omega)
     rcases hc with⟨cs',rfl,hc⟩|⟨md,its,u,xs,rfl,e1,e2,hc⟩
     ·exact key _ (qfs ho) rfl rfl rfl fun i f=>hc _
     ·exact key _ (az ho) rfl e1 e2 fun i f=> .inl (hc _)
  |r t i f=>
   cases hq:Hv[t]? with
   |none=>simp only[vw,hq]at hv;cases hv
   |some ob=>
    rcases hw t ob hq with rfl|ho|⟨ob',ho,ty,sz,n,cs,rfl,hsz0,hc⟩
    ·simp only[vw,hq]at hv;cases hv
    ·refine h.see _ _ ?_;simp only[vw,hq]at hv;simp only[vw,ho];exact hv
    ·simp only[vw,hq,vwR]at hv;cases hv
 ·rcases hw t ob ho with rfl|ho' |⟨ob',ho',ty,sz,n,cs,rfl,hsz0,hc⟩
  ·cases hng
  ·obtain⟨v,hv⟩:=h.all t i f ob ho' hng q hq;refine⟨v,?_⟩;simp only[vw,ho']at hv;simp only[vw,ho];exact hv
  ·cases hng
structure HLe (F : Nat -> Prop) (Hv H : List TOb) : Prop where
 at_ : ∀ (t : Nat) (ob : TOb), Hv[t]? = some ob -> ob = .gone \/ H[t]? = some ob
 free : ∀ t : Nat, Hv.length <= t -> F t -> H[t]? = none \/ H[t]? = some TOb.gone
 len : Hv.length <= H.length
variable {F : Nat -> Prop}
theorem HLe.refl(H:List TOb):HLe F H H:=⟨fun t ob h=> .inr h,fun t ht _=> .inl (Wp ht),Wg _⟩
theorem HLe.sub{Hv H:List TOb}(h:HLe F Hv H){T:TG}{v:Vw}(hv:vw Hv T=some v):vw H T=some v:=by
 cases T with
 |o t=>
  simp only[vw]at hv⊢;cases hq:Hv[t]? with
  |none=>rw[hq]at hv;cases hv
  |some ob=>
   rw[hq]at hv;rcases h.at_ t ob hq with rfl|ho
   ·cases hv
   ·rw[ho];exact hv
 |r t i f=>
  simp only[vw]at hv⊢;cases hq:Hv[t]? with
  |none=>rw[hq]at hv;cases hv
  |some ob=>
   rw[hq]at hv;rcases h.at_ t ob hq with rfl|ho
   ·cases hv
   ·rw[ho];exact hv
theorem HLe.sees{Hv H:List TOb}(hl:HLe F Hv H){w:World}{J:Pl}(h:HR U w0 J0 K (vw H) w J):Sees (gr U (vw H) w J) Hv:=by
 refine⟨fun T v hv=>h.sees.see T v (hl.sub hv),fun t i f ob ho hng q hq=> ?_⟩;rcases hl.at_ t ob ho with rfl|ho'
 ·cases hng
 ·obtain⟨v,hv⟩:=h.sees.all t i f ob ho' hng q hq;refine⟨v,?_⟩;simp only[vw,ho']at hv;simp only[vw,ho];exact hv
theorem ko(H:List TOb)(n:Nat)(ob:TOb)(hn:n<=H.length)(t:Nat):(fq H n ob)[t]? =if t=n then some ob else H[t]? :=by
 unfold fq;cases hb:Nat.blt n H.length with
 |true=>
  have:=cm hb;by_cases h:t=n
  ·subst h;simp[this]
  ·rw[if_neg h];show(H.set n ob)[t]? =_;rw[WF (Ko h)]
 |false=>
  have:n=H.length:=by
   have:¬n<H.length:=fun h=>by rw[show Nat.blt n H.length=true by simpa[HW]using h]at hb;cases hb
   omega
  subst this;show(H++[ob])[t]? =_;by_cases h:t=H.length
  ·subst h;simp
  ·rw[if_neg h];rcases Wz t H.length with h' |h'
   ·rw[Wo h']
   ·rw[Wp (by simp;omega),Wp h']
theorem jjd{H:List TOb}{n:Nat}{ob:TOb}(hn:n<=H.length){T:TG}(h:T.ob≠n):vw (fq H n ob) T=vw H T:=by
 cases T with
 |o t' =>simp only[TG.ob]at h;simp only[vw,ko H n ob hn,if_neg h]
 |r t' i f=>simp only[TG.ob]at h;simp only[vw,ko H n ob hn,if_neg h]
theorem Vw.sb_id(v:Vw):v.sb (fun _=> .id)=v:=by
 unfold Vw.sb;simp only[TV.sb_id]
theorem dr.alloc{s:TS}{a:Act}{w:World}{J:Pl}(h:dr U w0 J0 K N s a w J){n:Nat}(hfree:s.H[n]? =none\/s.H[n]? =some .gone)(hn:n<=s.H.length)(hK:K n=false)(ob:TOb)(o:Obj)
  (hobj:∀G',G' =gr U (vw (fq s.H n ob)) (w.alloc o) (fun T=>if T= .o n then some (w.heap.size,0)else J T)->Mv (fun _=> .id) (gr U (vw s.H) w J) G' ->∀T v,T.ob=n->vw (fq s.H n ob) T=some v->OR G' (if T= .o n then some (w.heap.size,0)else none) v)
  (hdom:∃v,vw (fq s.H n ob) (.o n)=some v):
  dr U w0 J0 K N ⟨s.S,fq s.H n ob⟩ a (w.alloc o) (fun T=>if T= .o n then some (w.heap.size,0)else J T)/\Mv (fun _=> .id) (gr U (vw s.H) w J) (gr U (vw (fq s.H n ob)) (w.alloc o) (fun T=>if T= .o n then some (w.heap.size,0)else J T)):=by
 have hvn:∀T,T.ob=n->vw s.H T=none:=by
  intro T hT;cases T with
  |o t=>simp only[TG.ob]at hT;subst hT;rcases hfree with e|e<;>simp[vw,e,vwO]
  |r t i f=>simp only[TG.ob]at hT;subst hT;rcases hfree with e|e<;>simp[vw,e,vwR]
 have hJn:∀T,T.ob=n->J T=none:=by
  intro T hT;cases hq:J T with
  |none=>rfl
  |some p=>
   obtain⟨v,hv⟩:=h.hr.dom T p hq;rw[hvn T hT]at hv;cases hv
 have hV:∀T,¬T.ob=n->vw (fq s.H n ob) T=(vw s.H T).map (Vw.sb fun _=> .id):=by
  intro T hT;rw[jjd hn hT];cases vw s.H T with
  |none=>rfl
  |some v=>simp[Vw.sb_id]
 have hJ:∀T:TG,¬T.ob=n->(if T= .o n then some (w.heap.size,0)else J T)=J T:=by
  intro T hT;rw[if_neg];rintro rfl;exact hT rfl
 have hblk:∀(T:TG) g o',¬T.ob=n->J T=some (g,o')->(w.alloc o).heap[g]? =w.heap[g]? :=fun T g o' _ hT=>Hn w o g (h.hr.lt hT)
 have hown:∀(T:TG) g o',T.ob=n->(if T= .o n then some (w.heap.size,0)else J T)=some (g,o')->(∃T0 o0,J T0=some (g,o0))\/w.heap.size<=g:=by
  intro T g o' hT hg;split at hg
  ·cases hg;exact .inr (Wg _)
  ·rw[hJn T hT]at hg;cases hg
 have hm:=Mv.upd (V' :=vw (fq s.H n ob)) (w' :=w.alloc o) (J' :=fun T=>if T= .o n then some (w.heap.size,0)else J T) (θ:=fun _=> .id) h.hr (fun t=>t=n) (by simp) hV hJ hblk (fun b hb _=>Hn w o b hb) hown
  (fun T q _ T' e=>by cases e) (fun T T' q hT _ hq=>by simp only[aj,hvn T hT]at hq;cases hq) (fun T fr u xs q e=>by cases e)
 have hgo:=hobj _ rfl hm;refine⟨ARel.go (S' :=bu s.S) (V' :=vw (fq s.H n ob)) h hm (fun t=>(TV.sb_id _).symm) (h.hr.upd (fun t=>t=n) hm hV hJ hblk (fun T v hT hv=> ?_) (fun T p hT hp=> ?_) hown ?_ rfl rfl rfl (fun t ht e=>by subst e;rw[hK]at ht;cases ht) (fun t g o' ht e=>by subst e;rw[hK]at ht;cases ht)),hm⟩
 ·have:=hgo T v hT hv;by_cases e:T= .o n
  ·subst e;simpa using this
  ·rw[if_neg e]at this⊢;rw[hJn T hT];exact this
 ·split at hp
  ·rename_i e;subst e;exact hdom
  ·rw[hJn T hT]at hp;cases hp
 ·intro T T' g o1 o2 h1 h2;split at h1<;>split at h2
  ·rename_i e e';rw[e,e']
  ·cases h1;have:=h.hr.lt h2;omega
  ·cases h2;have:=h.hr.lt h1;omega
  ·exact h.hr.inj T T' g o1 o2 h1 h2
end
end Go.K
