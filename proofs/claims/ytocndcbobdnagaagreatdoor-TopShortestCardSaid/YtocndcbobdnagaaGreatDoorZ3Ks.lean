/-
  slices.SortFunc of rows of numbers: the contract, out of the library's.
-/
import Derived.Test.YtocndcbobdnagaaGreatDoorZ3Sl
import Derived.Test.YtocndcbobdnagaaGreatDoorZ3Sm
import Derived.Test.YtocndcbobdnagaaGreatDoorZ3KE
set_option linter.all false
namespace Go.Proofs.YtocndcbobdnagaaGreatDoor
open Go.RowKit Go.K Go.M Go.Shelf Go.Sort
theorem jcb:∀a,ltL a a=false
 |[]=>rfl
 |a::l=>by rw[ltL,if_pos rfl,jcb l]
theorem qo6:∀a b c,ltL a b=true->ltL b c=true->ltL a c=true
 |x,[],_,h,_=>by cases x<;>simp[ltL]at h
 |[],_::_,[],_,h=>by cases h
 |[],_::_,_::_,_,_=>rfl
 |_::_,_::_,[],_,h=>by cases h
 |a::x,b::y,c::z,h1,h2=>by
  rw[ltL]at h1 h2⊢;by_cases e1:a=b
  ·subst e1;rw[if_pos rfl]at h1;by_cases e2:a=c
   ·rw[if_pos e2]at h2⊢;exact qo6 x y z h1 h2
   ·rw[if_neg e2]at h2⊢;exact h2
  ·rw[if_neg e1,WH]at h1;by_cases e2:b=c
   ·subst e2;rw[if_neg e1];exact Ws h1
   ·rw[if_neg e2,WH]at h2;rw[if_neg (by omega)];exact Ws (by omega)
theorem jcd:∀a b,ltL a b=false->ltL b a=false->a=b
 |[],[],_,_=>rfl
 |[],_::_,h,_=>by cases h
 |_::_,[],_,h=>by cases h
 |a::x,b::y,h1,h2=>by
  rw[ltL]at h1 h2;by_cases e:a=b
  ·subst e;rw[if_pos rfl]at h1 h2;rw[jcd x y h1 h2]
  ·rw[if_neg e,K5]at h1;rw[if_neg fun h=>e h.symm,K5]at h2;omega
theorem jcc:SWO ltL:=by
 refine⟨jcb,qo6,fun x y z h1 h2=> ?_⟩;cases h:ltL x z with
 |false=>rfl
 |true=>
  exfalso;cases h3:ltL y x with
  |true=>
   have:=qo6 _ _ _ h3 h;rw[h2]at this;cases this
  |false=>
   obtain rfl:=jcd _ _ h1 h3;rw[h2]at h;cases h
theorem jsh:∀a b:List Int,decide (qom a b<0)=ltL a b
 |[],[]=>rfl
 |[],_::_=>rfl
 |_::_,[]=>rfl
 |a::l,b::m=>by
  rw[qom,ltL];by_cases e:a=b
  ·subst e;simp[jsh l m]
  ·by_cases h:a<b
   ·simp[e,h]
   ·simp[e,h,show a>b by omega]
theorem q7j(x:List Int):∀l,(jvd x l).Perm (x::l)
 |[]=>Kl _
 |y::l=>by
  unfold jvd;split
  ·exact((q7j x l).cons y).trans (List.Perm.swap x y l)
  ·exact Kl _
theorem q57:∀l,(srt l).Perm l
 |[]=>Kl _
 |x::l=>(q7j x (srt l)).trans ((q57 l).cons x)
theorem q9q(x:List Int):∀l:List (List Int),l.Pairwise (fun a b=>ltL b a=false)->(jvd x l).Pairwise (fun a b=>ltL b a=false)
 |[],_=>KR _ _
 |y::l,h=>by
  obtain⟨h1,h2⟩:=HO.1 h;unfold jvd;split
  ·rename_i hlt;refine HO.2 ⟨fun z hz=> ?_,q9q x l h2⟩;rcases Wr.1 ((q7j x l).mem_iff.1 hz)with rfl|hz
   ·cases e:ltL z y with
    |false=>rfl
    |true=>have:=qo6 _ _ _ e hlt;rw[jcb]at this;cases this
   ·exact h1 z hz
  ·rename_i hge;have hge:ltL y x=false:=by simpa using hge
   refine HO.2 ⟨fun z hz=> ?_,h⟩;rcases Wr.1 hz with rfl|hz
   ·exact hge
   ·exact jcc.ntrans _ _ _ (h1 z hz) hge
theorem jfz:∀l,(srt l).Pairwise (fun a b=>ltL b a=false)
 |[]=>List.Pairwise.nil
 |x::l=>q9q x _ (jfz l)
theorem jv9{l:List (List Int)}(h:l.Pairwise (fun a b=>ltL b a=false))(n:Nat)(hn:n=l.length):SortedIn ltL 0 n l.toArray:=fun i j _ hij hj=>by
 rw[Hh _ j (by simp;omega),Hh _ i (by simp;omega)];have:=List.pairwise_iff_getElem.1 h i j (by omega) (by omega) hij;simpa using this
theorem jtg{l m:List (List Int)}(h:l.Perm m):PermIn 0 m.toArray.size m.toArray l.toArray:=by
 have hl:=h.length_eq;have a1:∀l:List (List Int),l.length=m.length->(l.toArray.extract 0 m.toArray.size).toList=l:=fun l h=>by
  rw[show m.toArray.size=l.toArray.size by simp[h],Array.extract_size]
 refine⟨by simp[hl],fun i hi=> ?_,?_⟩
 ·rw[getElem!_neg _ i (by simp at hi⊢;omega),getElem!_neg _ i (by simp at hi⊢;omega)]
 ·rw[a1 _ hl,a1 _ rfl];exact h
theorem j3w{out d:List (List Int)}(hp:out.Perm d)(hs:SortedIn ltL 0 d.length out.toArray):out=srt d:=by
 have h1:out=_:=sorted_unique_holds jcc jcd d.toArray out.toArray (jtg hp) (by simpa using hs);have h2:srt d=_:=sorted_unique_holds jcc jcd d.toArray (srt d).toArray (jtg (q57 d)) (jv9 (jfz d) _ (by simp[(q57 d).length_eq]));rw[h1,h2]
theorem j3v(d:List (List Int)):(srt d).length=d.length:=(q57 d).length_eq
abbrev u1:Ty:= .slice (.int .i64)
abbrev ob(xs:List (List Int)):List TOb:=[TOb.arr 27 (.fz true) [3] u1 xs]
def Hd(w:World)(g:Nat)(l:List Int)(v:Value):Prop:=∃a c,v= .slice a l.length c/\l.length<=9223372036854775807/\(0<l.length->∃b o,a=some ⟨b,o,none⟩/\b≠g/\b<w.heap.size/\∀i,i<l.length->w.cell? ⟨b,o+i,none⟩=some (.int .i64 (l.getD i 0)))
theorem Hd.sw{w:World}{g:Nat}{l:List Int}{v:Value}(h:Hd w g l v){enc:Nat->Value}{off m:Nat}{dk:Array Nat}{os:Array Obj}:Hd (sortWorld enc w g off m dk os) g l v:=by
 obtain⟨a,c,h1,h2,h3⟩:=h;refine⟨a,c,h1,h2,fun h0=> ?_⟩;obtain⟨b,o,k1,k2,k3,k4⟩:=h3 h0;have hs:w.heap.size<=(sortWorld enc w g off m dk os).heap.size:=by
  show w.heap.size<=((putRow enc (Sort.ahead w m) g off dk).heap++os).size;rw[HF,size_putRow,heap_ahead];omega
 refine⟨b,o,k1,k2,by omega,fun i hi=> ?_⟩;rw[<-k4 i hi];show(grow (putRow enc (Sort.ahead w m) g off dk) os).cell? _=_;rw[cell?_grow _ _ _ (by rw[size_putRow,heap_ahead];exact k3),cell?_putRow_other _ _ _ _ _ _ (.inl k2)];rfl
theorem jv8(g0:Nat)(hg:g0=143\/g0=144)(w:World)(g o n c:Nat)(cur:Array Value)(e:TypeId)(xs:List (List Int))(hn:xs.length=n)(hh:w.heap[g]? =some (.cells cur e (0,0)))(hsz:n<4611686018427387904)
  (hcell:∀k,k<n->∃y,w.cell? ⟨g,o+k,none⟩=some y/\y.oneCell' =true/\Hd w g (xs.getD k []) y):
  Calls Tryz.prog 142 #[.slice (some ⟨g,o,none⟩) n c, .func (.func g0) #[] #[]] w fun e' w' =>e' = .returned (.tuple #[])/\w'.os=w.os/\w'.tape=w.tape/\w'.output=w.output/\w.heap.size<=w'.heap.size/\(∀b,b≠g->b<w.heap.size->w'.heap[b]? =w.heap[b]?)/\
   (∃cur',w'.heap[g]? =some (.cells cur' e (0,0))/\cur'.size=cur.size)/\∀k,k<n->∃j,j<n/\(srt xs).getD k []=xs.getD j []/\w'.cell? ⟨g,o+k,none⟩=w.cell? ⟨g,o+j,none⟩:=by
 rcases HD n with rfl|hpos
 ·have hcon:=AnyF.slices_SortFunc_none (P:=Tryz.prog) (ρ:=zas) {j0b with} (some ⟨g,o,none⟩) c (.func (.func g0) #[] #[]) w;change Calls Tryz.prog 142 _ _ _ at hcon;refine hcon.mono ?_;rintro e' w' ⟨rfl,rfl⟩;exact⟨rfl,rfl,rfl,rfl,Wg _,fun _ _ _=>rfl,⟨cur,hh,rfl⟩,fun k hk=>absurd hk (Nat.not_lt_zero k)⟩
 obtain⟨d,hd1,hd2⟩:∃d:Array Nat,d.size=n/\d.toList=List.range n:=⟨(List.range n).toArray,by simp,rfl⟩;have hd3:∀j,j<n->d[j]! =j:=fun j hj=>by
  rw[Hh d j (by omega),<-Array.getElem_toList (by rw[hd2];simpa using hj)];simp only[hd2,List.getElem_range]
 have hidx:∃idx:Nat->Nat,(∀i,idx i<n)/\∀i,i<n->idx i=i:=⟨fun i=>if i<n then i else 0,fun i=>by dsimp only;split<;>omega,fun i hi=>if_pos hi⟩;obtain⟨idx,hi1,hi2⟩:=hidx;have henc:∃enc:Nat->Value,∀i,w.cell? ⟨g,o+idx i,none⟩=some (enc i)/\(enc i).oneCell' =true/\Hd w g (xs.getD (idx i) []) (enc i):=by
  refine⟨fun i=>(w.cell? ⟨g,o+idx i,none⟩).getD undef,fun i=> ?_⟩;obtain⟨y,h1,h2,h3⟩:=hcell (idx i) (hi1 i);show w.cell? _=some ((w.cell? _).getD undef)/\((w.cell? _).getD undef).oneCell' =true/\Hd w g _ ((w.cell? _).getD undef);rw[h1];exact⟨rfl,h2,h3⟩
 obtain⟨enc,henc⟩:=henc;have hgl:g<w.heap.size:=(W4.1 hh).1;have hH:Holds enc w g o d:=fun j hj=>by
  rw[hd3 j (by omega)];have:=(henc j).1;rw[hi2 j (by omega)]at this;exact⟨this,by simp[World.frozen?,hh]⟩
 have hlt:∀i j,ltOf (fun i j=>qom (xs.getD (idx i) []) (xs.getD (idx j) [])) i j=ltL (xs.getD (idx i) []) (xs.getD (idx j) []):=fun i j=>jsh _ _
 have hO:SWO (ltOf (fun i j=>qom (xs.getD (idx i) []) (xs.getD (idx j) []))):=⟨fun x=>by rw[hlt];exact jcb _,fun x y z=>by rw[hlt,hlt,hlt];exact qo6 _ _ _,fun x y z=>by rw[hlt,hlt,hlt];exact jcc.ntrans _ _ _⟩;have eg:∀args w,(callFunc g0 args).run Tryz.prog w= .ok (.enter g0 args) w:=by
  rcases hg with rfl|rfl
  ·exact enters_of Tryz.func143 (by kernel_rfl) rfl
  ·exact enters_of Tryz.func144 (by kernel_rfl) rfl
 have hcmp:CmpReads Tryz.prog g0 #[] enc (fun i j=>qom (xs.getD (idx i) []) (xs.getD (idx j) [])) g o d.size w:=fun m os dk _ x y=>by
  obtain⟨a1,c1,k1,k2,k3⟩:=((henc x).2.2).sw (enc:=enc) (off:=o) (m:=m) (dk:=dk) (os:=os);obtain⟨a2,c2,j1,j2,j3⟩:=((henc y).2.2).sw (enc:=enc) (off:=o) (m:=m) (dk:=dk) (os:=os);have e1:∀(l:List Int) (a:Option Addr),(0<l.length->∃b o',a=some ⟨b,o',none⟩/\b≠g/\b<(sortWorld enc w g o m dk os).heap.size/\∀i,i<l.length->(sortWorld enc w g o m dk os).cell? ⟨b,o' +i,none⟩=some (.int .i64 (l.getD i 0)))->0<l.length->∃b o',a=some ⟨b,o',none⟩/\∀i,i<l.length->(sortWorld enc w g o m dk os).cell? ⟨b,o' +i,none⟩=some (.int .i64 (l.getD i 0)):=fun l a h h0=>by
   obtain⟨b,o',p1,_,_,p2⟩:=h h0;exact⟨b,o',p1,p2⟩
  show Calls Tryz.prog g0 #[enc x,enc y] _ _;rw[k1,j1];rcases hg with rfl|rfl
  ·exact juu _ _ a1 a2 c1 c2 _ k2 j2 (e1 _ _ k3) (e1 _ _ j3)
  ·exact jm8 _ _ a1 a2 c1 c2 _ k2 j2 (e1 _ _ k3) (e1 _ _ j3)
 have hcon:=Any.slices_SortFunc j0b enc (fun i=>(henc i).2.1) _ hO g0 #[] g o c d w eg hcmp.lays hH hgl (by omega);change Calls Tryz.prog 142 _ _ _ at hcon;rw[hd1]at hcon;refine hcon.mono ?_;rintro e' w' ⟨rfl,d',m,os,⟨p1,_,p2⟩,hs,rfl⟩;have q1:d'.size=n:=p1.trans hd1;have hperm:d'.toList.Perm (List.range n):=by
  have a1:d'.extract 0 n=d' :=by rw[<-q1];exact Array.extract_size
  have a2:d.extract 0 n=d:=by rw[<-hd1];exact Array.extract_size
  rw[a1,a2,hd2]at p2;exact p2
 have hlt' :∀k,k<n->d'[k]! <n:=fun k hk=>by
  rw[Hh d' k (by omega)];exact Kk.1 (hperm.mem_iff.1 (Array.getElem_mem_toList (by omega)))
 have hR:d'.toList.map (fun i=>xs.getD (idx i) [])=srt xs:=by
  have hmap:(List.range n).map (fun i=>xs.getD (idx i) [])=xs:=by
   refine List.ext_getElem (by simp[hn]) fun k h1 h2=> ?_
   simp only[List.getElem_map,List.getElem_range];rw[hi2 k (by omega),Wa,Wi h2,WX]
  have hp:=hperm.map (fun i=>xs.getD (idx i) []);rw[hmap]at hp;have hl:(d'.toList.map (fun i=>xs.getD (idx i) [])).length=n:=by simp[q1]
  refine j3w hp fun i j _ hij hj=> ?_
  have hj:j<n:=by rwa[hn]at hj
  have:=hs i j (W7 _) hij hj;rw[hlt]at this;rw[Hh _ j (by simp[q1];omega),Hh _ i (by simp[q1];omega)];rw[Hh d' j (by omega),Hh d' i (by omega)]at this;simpa using this
 refine⟨rfl,rfl,rfl,rfl,?_,fun b hb hbl=> ?_,?_,fun k hk=>⟨d'[k]!,hlt' k hk,?_,?_⟩⟩
 ·show w.heap.size<=((putRow enc (Sort.ahead w m) g o d').heap++os).size;rw[HF,size_putRow,heap_ahead];omega
 ·show((putRow enc (Sort.ahead w m) g o d').heap++os)[b]? =_;rw[Ku (by rw[size_putRow,heap_ahead];exact hbl)];show(w.heap.modify g _)[b]? =_;rw[Hc,if_neg fun h=>hb h.symm]
 ·refine⟨putCells enc o d' cur,?_,by simp[putCells]⟩;show((putRow enc (Sort.ahead w m) g o d').heap++os)[g]? =_;rw[Ku (by rw[size_putRow,heap_ahead];exact hgl)];show(w.heap.modify g _)[g]? =_;rw[Hc,if_pos rfl,hh];rfl
 ·rw[<-hR,Wa,W6,WY,Hh d' k (by omega),Ht (by omega)];have:=hlt' k hk;rw[Hh d' k (by omega)]at this;simp only[Wd,WX,hi2 _ this]
 ·have h1:=(holds_sortWorld enc w g o m d d' os hgl hH p1 k (by omega)).1;have h2:=(henc d'[k]!).1;rw[hi2 _ (hlt' k hk)]at h2;rw[h1,h2]
theorem jwa{d b:List (List Int)}(h:j0e d=some b):d.length<4611686018427387904/\b=srt d:=by
 unfold j0e at h;split at h
 ·rename_i h1;exact⟨h1,(Kp h).symm⟩
 ·cases h
theorem jt1(g0:Nat)(hg:g0=143\/g0=144):MdlOK Tryz.prog 142 (ar (.cons (.own 0) (.cons (.fn g0 .nil) .nil)) [.arr 27 (.fz true) [3] u1] [true] 0 ⟨[],[.arr 27 (.fz true) [3] u1]⟩ (B:=List (List Int)) (fun b=>((),(b,()))) (fun a=>j0e a.2.1)):=by
 have hvw:∀ys:List (List Int),vw (ob ys) (.o 0)=some ⟨27,1,ys.length,fun i f=>b7 0 (.fz true) u1 ys i f⟩:=fun _=>rfl
 have honly:∀(ys:List (List Int)) (T:TG) (v:Vw),vw (ob ys) T=some v->T= .o 0:=fun ys T v hT=>by
  cases T with
  |o t=>cases t with
   |zero=>rfl
   |succ t=>cases hT
  |r t i f=>cases t with
   |zero=>cases hT
   |succ t=>cases hT
 suffices core:∀xs:List (List Int),xs.length<4611686018427387904->∀(U:Nat->Prop) (w:World) (J:Pl),HR U w J (bt [true]) (vw (ob xs)) w J->∀vs:List Value,gf (gr U (vw (ob xs)) w J) [.own (.o 0), .fn g0 []] vs->
   Calls Tryz.prog 142 vs.toArray w fun e w' =>∃v J',e= .returned v/\HR U w J (bt [true]) (vw (ob (srt xs))) w' J' /\VR (gr U (vw (ob (srt xs))) w' J') (.tup []) v by
  refine⟨⟨Tryz.f142,Tryz.func142,by kernel_rfl,by kernel_rfl⟩,fun a b hm U w J hHR vs hvs=> ?_,q4l,fun a b _=>⟨rfl,rfl⟩,fun _ _ _ _ h=>h⟩;obtain⟨h1,rfl⟩:=jwa hm;exact core a.2.1 h1 U w J hHR vs hvs
 intro xs hlen0 U w J hHR vs hvs;obtain⟨v,r1,rfl,hv,hr1⟩:=hvs;obtain⟨vf,r2,rfl,hvf,hr2⟩:=hr1;have hr2:r2=[]:=hr2;subst hr2;obtain⟨lf,hvf1,hlf⟩:∃l:List Value,vf=fnV g0 l/\l=[]:=hvf;have hbg:Nat.blt g0 qcw=true:=by rcases hg with rfl|rfl<;>rfl
 rw[fnV,hbg,WQ]at hvf1;subst hvf1;subst hlf;obtain⟨n,sz,hI,hS⟩:∃n sz,aj (vw (ob xs)) (.o 0)=some (n,sz)/\SlR w J (.o 0) sz 0 n v:=hv;have hI' :aj (vw (ob xs)) (.o 0)=some (xs.length,1):=rfl;rw[hI']at hI;have hI:=Kp hI;have hn:n=xs.length:=(W0 Prod.fst hI).symm;have hsz:sz=1:=(W0 Prod.snd hI).symm;subst hn hsz;rcases hS with⟨a,rfl,hz⟩|⟨g,o,c,cur,e,hJ,rfl,hnc,hcm,hh,hfit⟩
 ·have hx:xs=[]:=KJ hz;subst hx;have hcon:=AnyF.slices_SortFunc_none (P:=Tryz.prog) (ρ:=zas) {j0b with} a 0 (.func (.func g0) #[] #[]) w;change Calls Tryz.prog 142 _ _ _ at hcon;refine hcon.mono ?_;rintro e' w' ⟨rfl,rfl⟩;rw[show srt []=[]from rfl];exact⟨_,J,rfl,hHR,[],rfl,rfl⟩
 have hOR:=hHR.obj _ _ (hvw xs);rw[hJ]at hOR;have hX:da J g:=⟨_,_,hJ⟩;have hgl:g<w.heap.size:=(W4.1 hh).1;obtain⟨cur2,c2,hh2,hfit2,hnc2,hc2⟩:=hOR.cells (.inl K8);have hh2:w.heap[g]? =some (.cells cur2 27 (0,0)):=hh2;rw[hh]at hh2;have hcu:cur=cur2/\e=27:=by
  injection hh2 with hh2
  injection hh2 with h1 h2
  exact⟨h1,h2⟩
 obtain⟨rfl,rfl⟩:=hcu;have hat:∀k,k<xs.length->∃y,w.cell? ⟨g,o+k,none⟩=some y/\y.oneCell' =true/\Ty.C w (YY (da J) U true) u1 (xs.getD k []) 0 y:=fun k hk=>by
  obtain⟨y,y1,y2,y3⟩:=hOR.at_ (i:=k) (f:=0) hk K8;refine⟨y,?_,y2,y3⟩;rw[<-y1];show _=w.cell? ⟨g,o+(k*1+0),none⟩;rw[Nat.mul_one,KU]
 have hadd:o+0*1=o:=rfl;have hw:=jv8 g0 hg w g o xs.length c cur 27 xs rfl hh hlen0 fun k hk=>by
  obtain⟨y,y1,y2,a,c',y3,y4,y5,y6⟩:=hat k hk;refine⟨y,y1,y2,a,c',y3,?_,fun h0=> ?_⟩
  ·have:List.length (xs.getD k [])<=c' :=y4;unfold maxLen at y5;omega
  ·obtain⟨b,o',z1,z2,z3,z4⟩:=y6 h0;refine⟨b,o',z1,fun hb=>z3 (.inl (hb▸hX)),z2,fun i hi=> ?_⟩;obtain⟨u,hu,_,hC⟩:=z4 i 0 hi K8;have hC:u= .int .i64 ((xs.getD k []).getD i 0):=hC;rw[<-hC,<-hu];show _=w.cell? ⟨b,o' +(i*1+0),none⟩;rw[Nat.mul_one,KU]
 refine hw.mono ?_;rintro e' w' ⟨rfl,e1,e2,e3,e4,e5,⟨cur',e7,e8⟩,e6⟩;have hlen:(srt xs).length=xs.length:=j3v xs;have hlow:Low w (YY (da J) U true) w' (YY (da J) U true):=⟨e4,fun b _ hb=>hb,fun b hb hY=>e5 b (fun h=>hY (.inl (h▸hX))) hb⟩;have hnew:∀k,k<xs.length->∃y,cur'[o+(k*1+0)]? =some y/\y.oneCell' =true/\VR (gr U (vw (ob (srt xs))) w' J) (b7 0 (.fz true) u1 (srt xs) k 0) y:=fun k hk=>by
  obtain⟨j,hj,he,hc⟩:=e6 k hk;obtain⟨y,y1,y2,y3⟩:=hat j hj;refine⟨y,?_,y2,?_⟩
  ·rw[Nat.mul_one,KU,<-y1,<-hc];simp[World.cell?,e7]
  ·have:Ty.C w' (YY (da J) U true) u1 ((srt xs).getD k []) 0 y:=by
    rw[he];exact Ty.C_low hlow u1 _ 0 y y3
   exact this
 refine⟨_,J,rfl,⟨hHR.inj,fun T p hT=> ?_,fun T v hv=> ?_,hHR.own,e1,e2,e3,e4,fun b hb hJb=>e5 b (fun hbg=>hJb (.o 0) o (hbg▸hJ)) hb,fun _ _=>rfl,fun t g' o' _ hs cur0 e0 hc0=> ?_,hHR.ulow,hHR.tb0⟩,[],rfl,rfl⟩
 ·obtain⟨v,hv⟩:=hHR.dom T p hT;rw[honly xs T v hv];exact⟨_,hvw _⟩
 ·have hT:=honly _ T v hv;subst hT;rw[hvw]at hv;have hv:=Kp hv;subst hv;rw[hJ];refine .inl ⟨.inl K8,cur',c2,e7,by rw[e8,hfit2],?_,fun k f hk hf=> ?_⟩
  ·show(srt xs).length<=c2;rw[hlen];exact hnc2
  ·have hk:k<(srt xs).length:=hk;rw[hlen]at hk;have hf:f=0:=by
    have:f<1:=hf;omega
   subst hf;exact hnew k hk
 ·by_cases hg' :g' =g
  ·subst hg';rw[hh]at hc0;injection hc0 with hc0
   injection hc0 with h1 h2
   subst h1 h2;exact⟨cur',e7,e8⟩
  ·exact⟨cur0,(e5 g' hg' (W4.1 hc0).1).trans hc0,rfl⟩
end Go.Proofs.YtocndcbobdnagaaGreatDoor
