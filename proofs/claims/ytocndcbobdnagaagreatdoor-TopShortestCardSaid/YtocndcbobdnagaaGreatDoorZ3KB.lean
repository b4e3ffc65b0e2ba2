/-
  A typed machine over the model's memory (part KB). No program is named.
-/
import Derived.Test.YtocndcbobdnagaaGreatDoorZ3KA
set_option linter.all false
namespace Go.K
open Go.M Go.RowKit
def upd(V:TG->Option Vw)(T:TG)(v:Vw):TG->Option Vw:=fun T' =>if T' =T then some v else V T'
def Vw.put(v:Vw)(i f:Nat)(L:List TV):Vw:={v with cs:=fun i' f' =>if i' =i/\f<=f' /\f' <f+L.length then L.getD (f' -f) .any else v.cs i' f'}
theorem jtq{sz i f i' f' :Nat}(hf:f<sz)(hf' :f' <sz)(h:i*sz+f=i' *sz+f'):i=i' /\f=f' :=by
 have h1:(i*sz+f)/sz=i:=by rw[HT,Nat.mul_add_div (by omega),Nat.div_eq_of_lt hf];omega
 have h2:(i' *sz+f')/sz=i' :=by rw[HT,Nat.mul_add_div (by omega),Nat.div_eq_of_lt hf'];omega
 have:i=i' :=by rw[<-h1,h,h2]
 subst this;exact⟨rfl,by omega⟩
section
variable {U : Nat -> Prop} {w0 : World} {J0 : Pl} {K : Nat -> Bool} {N : Nat} {S : Nat -> TV} {V : TG -> Option Vw} {a : Act} {w : World} {J : Pl}
theorem qo7(o:Option Vw):o.map (Vw.sb fun _=> .id)=o:=by
 cases o with
 |none=>rfl
 |some v=>simp[Vw.sb_id]
theorem ARel.write(P:Program)(h:ARel U w0 J0 K N S V a w J){T:TG}{v:Vw}(hT:V T=some v){g o:Nat}(hJ:J T=some (g,o)){i f:Nat}{new:List Value}{L:List TV}(hi:i<v.n)(hf:f+L.length<=v.sz)
  (hnew:mm (gr U V w J) new L):
  ∃w',(storeCells ⟨g,o+(i*v.sz+f),none⟩ new).run P w= .ok () w' /\ARel U w0 J0 K N S (upd V T (v.put i f L)) a w' J/\Mv (fun _=> .id) (gr U V w J) (gr U (upd V T (v.put i f L)) w' J):=by
 have hob:=h.hr.obj T v hT;rw[hJ]at hob;obtain⟨cur,c,hcur,hcs,hle,hcells⟩:=hob.cells (.inr (by omega));have hcur:w.heap[g]? =some (.cells cur v.ty (0,0)):=hcur;have hlen:=hnew.1.len;have hlt:o+(i*v.sz+f)+new.length<=cur.size:=by
  have:(i+1)*v.sz<=c*v.sz:=WC _ (by omega);rw[WM]at this;rw[hcs,hlen];omega
 have hst:=run_storeCells_at P g (o+(i*v.sz+f)) v.ty new 0 cur w hcur (by simpa using hlt) hnew.2;simp only[KU]at hst;refine⟨_,hst,?_⟩;generalize hw' :w.setRow g (cur.toList.take (o+(i*v.sz+f))++new++cur.toList.drop (o+(i*v.sz+f)+new.length)).toArray=w';have hrow:w'.heap[g]? =some (.cells (cur.toList.take (o+(i*v.sz+f))++new++cur.toList.drop (o+(i*v.sz+f)+new.length)).toArray v.ty (0,0)):=by rw[<-hw'];exact setRow_heap w g cur _ v.ty _ hcur
 have hother:∀k,k≠g->w'.heap[k]? =w.heap[k]? :=fun k hk=>by rw[<-hw'];exact setRow_other w g k _ hk
 have hsize:w'.heap.size=w.heap.size:=by rw[<-hw'];simp
 have hcsz:(cur.toList.take (o+(i*v.sz+f))++new++cur.toList.drop (o+(i*v.sz+f)+new.length)).toArray.size=cur.size:=by simp;omega
 have key:∀j,(cur.toList.take (o+(i*v.sz+f))++new++cur.toList.drop (o+(i*v.sz+f)+new.length)).toArray[j]? =
   if o+(i*v.sz+f)<=j/\j<o+(i*v.sz+f)+new.length then new[j-(o+(i*v.sz+f))]? else cur[j]? :=by
  intro j;rw[List.getElem?_toArray,HE];rcases Wz j (o+(i*v.sz+f))with h1|h1
  ·rw[Wo (by simp;omega),WZ,if_pos h1,WY,if_neg (by omega)]
  ·rw[Wu (by simp;omega)];have hl:(cur.toList.take (o+(i*v.sz+f))).length=o+(i*v.sz+f):=by simp;omega
   rw[hl];rcases Wz j (o+(i*v.sz+f)+new.length)with h2|h2
   ·rw[Wo (by omega),if_pos ⟨h1,h2⟩]
   ·rw[Wu (by omega),if_neg (by omega),WI,WY];congr 1;omega
 have hV:∀T',¬T' =T->upd V T (v.put i f L) T' =(V T').map (Vw.sb fun _=> .id):=fun T' hne=>by rw[qo7];simp[upd,hne]
 have hI:aj (upd V T (v.put i f L))=aj V:=by
  funext T';by_cases e:T' =T
  ·subst e;simp[aj,upd,hT,Vw.put]
  ·simp[aj,upd,e]
 have hown:da J g:=⟨T,o,hJ⟩;have hm:Mv (fun _=> .id) (gr U V w J) (gr U (upd V T (v.put i f L)) w' J):=by
  refine⟨Nat.le_of_eq hsize.symm,fun _ _ hx=>hx,fun _ _ _ hu=>hu,fun b _ hx=>hother b (fun e=>hx (e▸hown)),fun T1 T2 q ht hq=> ?_,fun T1 fr u xs q e=>by cases e⟩;rcases ht with⟨_,rfl⟩|ht
  ·refine⟨by show aj _ T2=_;rw[hI];exact hq,fun g1 o1 hg1=>⟨hg1,fun cur1 e1 hc1=> ?_⟩⟩;by_cases e:g1=g
   ·subst e;have hc1' :w.heap[g1]? =some (.cells cur1 e1 (0,0)):=hc1;rw[hcur]at hc1';simp only[Wb,KO]at hc1';obtain⟨rfl,rfl,_⟩:=hc1';exact⟨_,hrow,hcsz⟩
   ·exact⟨cur1,(hother g1 e).trans hc1,rfl⟩
  ·cases ht
 refine⟨h.go hm (fun t=>(TV.sb_id _).symm) ⟨h.hr.inj,fun T1 p hp=> ?_,fun T1 v1 hv1=> ?_,h.hr.own,?_,?_,?_,by rw[hsize];exact h.hr.size,fun b hb hn=> ?_,h.hr.keep,fun t g1 o1 ht hg1 cur1 e1 hc1=> ?_,h.hr.ulow,h.hr.tb0⟩,hm⟩
 ·by_cases e:T1=T
  ·exact⟨v.put i f L,by simp[upd,e]⟩
  ·obtain⟨v1,hv1⟩:=h.hr.dom T1 p hp;exact⟨v1,by simp[upd,e,hv1]⟩
 ·by_cases e:T1=T
  ·subst e;simp only[upd,Kw,Wb]at hv1;subst hv1;rw[hJ];refine .inl ⟨.inr (show 0<v.n by omega),_,c,hrow,by rw[hcsz,hcs];rfl,hle,fun i' f' hi' hf' => ?_⟩;have hf' :f' <v.sz:=hf'
   suffices hsuf:∀G',G' =gr U (upd V T1 (v.put i f L)) w' J->∃u,(cur.toList.take (o+(i*v.sz+f))++new++cur.toList.drop (o+(i*v.sz+f)+new.length)).toArray[o+(i' *v.sz+f')]? =some u/\u.oneCell' =true/\
     VR G' (if i' =i/\f<=f' /\f' <f+L.length then L.getD (f' -f) .any else v.cs i' f') u from hsuf _ rfl
   intro G' hG';rw[<-hG']at hm;rw[key];by_cases hin:i' =i/\f<=f' /\f' <f+L.length
   ·obtain⟨rfl,hf1,hf2⟩:=hin;rw[if_pos (by omega),if_pos ⟨rfl,hf1,hf2⟩];obtain⟨u,hu,hVu⟩:=hnew.1.getD (f' -f) (by omega);refine⟨u,?_,hnew.2 u (WV hu),?_⟩
    ·rw[<-hu];congr 1;omega
    ·have:=VR.mv hm _ u hVu;rwa[TV.sb_id]at this
   ·rw[if_neg,if_neg hin]
    ·obtain⟨u,hu,h1,hVu⟩:=hcells i' f' hi' hf';refine⟨u,hu,h1,?_⟩;have:=VR.mv hm _ u hVu;rwa[TV.sb_id]at this
    ·intro hcon;have hcon:o+(i*v.sz+f)<=o+(i' *v.sz+f')/\o+(i' *v.sz+f')<o+(i*v.sz+f)+new.length:=hcon;rw[hlen]at hcon;apply hin;have hd:i' *v.sz+f' =i*v.sz+(i' *v.sz+f' -i*v.sz):=by omega
     obtain⟨e1,e2⟩:=jtq hf' (show i' *v.sz+f' -i*v.sz<v.sz by omega) hd;exact⟨e1,by omega,by omega⟩
  ·have hv1' :V T1=some v1:=by simpa[upd,e]using hv1
   refine(h.hr.obj T1 v1 hv1').mv hm (fun g1 o1 hp=>hother g1 (fun eg=> ?_)) rfl rfl rfl (fun i' f' _ _ u hu=>by have:=VR.mv hm _ u hu;rwa[TV.sb_id]at this) (fun _ _=>HZ.of hm fun _ _=>(TV.sb_id _).symm);subst eg;exact e (h.hr.inj T1 T g1 o1 o hp hJ)
 ·rw[<-hw'];exact h.hr.os
 ·rw[<-hw'];exact h.hr.tape
 ·rw[<-hw'];exact h.hr.output
 ·refine(hother b (fun e=> ?_)).trans (h.hr.blk b hb hn);subst e;rcases(h.hr.own T b o hJ).2 with hge|⟨T',o',h'⟩
  ·omega
  ·exact hn T' o' h'
 ·obtain⟨cur2,h1,h2⟩:=h.hr.ksz t g1 o1 ht hg1 cur1 e1 hc1;by_cases e:g1=g
  ·subst e;rw[hcur]at h1;simp only[Wb,KO]at h1;obtain⟨rfl,rfl,_⟩:=h1;exact⟨_,hrow,hcsz.trans h2⟩
  ·exact⟨cur2,(hother g1 e).trans h1,h2⟩
theorem ARel.re(h:ARel U w0 J0 K N S V a w J){θ:TG->Ac}{S' :Nat->TV}{V' :TG->Option Vw}{J' :Pl}(hS:∀t,S' t=(S t).sb θ)
  (hto:∀T T' q,(θ T= .id/\T' =T)\/θ T= .to T' ->aj V T=some q->aj V' T' =some q/\∀g o,J T=some (g,o)->J' T' =some (g,o))
  (hfz:∀T fr u xs q,θ T= .fz fr u xs->aj V T=some q->q=(xs.length,u.sz)/\∀g o,J T=some (g,o)->qqw w (YY (da J') U fr) u xs g o)
  (hown:∀T g o,J' T=some (g,o)->∃T0,J T0=some (g,o)) (hinj:∀T T' g o o',J' T=some (g,o)->J' T' =some (g,o')->T=T') (hdom:∀T p,J' T=some p->∃v,V' T=some v) (hkeep:∀t,K t=true->J' (.o t)=J (.o t))
  (hobj:Mv θ (gr U V w J) (gr U V' w J')->∀T v,V' T=some v->OR (gr U V' w J') (J' T) v):ARel U w0 J0 K N S' V' a w J' :=by
 have hm:Mv θ (gr U V w J) (gr U V' w J'):=by
  refine⟨Wg _,fun b _ hx hx' => ?_,fun _ _ _ hu=>hu,fun _ _ _=>rfl,fun T T' q ht hq=> ?_,hfz⟩
  ·obtain⟨T,o,hT⟩:=hx';obtain⟨T0,h0⟩:=hown T b o hT;exact hx ⟨T0,o,h0⟩
  ·obtain⟨h1,h2⟩:=hto T T' q ht hq;exact⟨h1,fun g o hg=>⟨h2 g o hg,fun cur e hh=>⟨cur,hh,rfl⟩⟩⟩
 refine h.go hm hS ⟨hinj,hdom,hobj hm,fun T g o hT=> ?_,h.hr.os,h.hr.tape,h.hr.output,h.hr.size,h.hr.blk,fun t ht=>(hkeep t ht).trans (h.hr.keep t ht),h.hr.ksz,h.hr.ulow,h.hr.tb0⟩;obtain⟨T0,h0⟩:=hown T g o hT;exact h.hr.own T0 g o h0
theorem OR.re{θ:TG->Ac}{V' :TG->Option Vw}{J' :Pl}(m:Mv θ (gr U V w J) (gr U V' w J')){p:Option (Nat×Nat)}{v v' :Vw}(ho:OR (gr U V w J) p v)(ht:v'.ty=v.ty)(hs:v'.sz=v.sz)(hn:v'.n=v.n)
  (hc:∀i f,i<v.n->f<v.sz->v'.cs i f=(v.cs i f).sb θ\/v'.cs i f= .any) (hz:v.sz=0->v.n=0->HZ (gr U V w J) (gr U V' w J') v v'):OR (gr U V' w J') p v' :=
 ho.mv m (fun _ _ _=>rfl) ht hs hn (fun i f hi hf u hu=>by
  rcases hc i f hi hf with e|e
  ·rw[e];exact VR.mv m _ u hu
  ·rw[e];exact trivial) hz
end
end Go.K
namespace Go.K
open Go.M Go.RowKit
def cb(T:TG):TG->Ac:=fun T' =>if T' =T then .kill else .id
theorem q8{T T' :TG}(h:T' ≠T):cb T T' = .id:=if_neg h
theorem qvz(T:TG):cb T T= .kill:=if_pos rfl
section
variable {U : Nat -> Prop} {w0 : World} {J0 : Pl} {K : Nat -> Bool} {N : Nat} {S : Nat -> TV} {V : TG -> Option Vw} {a : Act} {w : World} {J : Pl}
theorem ARel.grown(h:ARel U w0 J0 K N S V a w J){T:TG}(hK:∀t,T= .o t->K t=false){w' :World}(hos:w'.os=w.os)(htape:w'.tape=w.tape)(hout:w'.output=w.output)(hsize:w.heap.size<=w'.heap.size)
  (hblk:∀b,b<w.heap.size->(∀o,J T≠some (b,o))->w'.heap[b]? =w.heap[b]?) {p' :Option (Nat×Nat)} (hp' :∀g o,p' =some (g,o)->(∃o0,J T=some (g,o0))\/w.heap.size<=g) (v' :Vw)
  (hrow:Mv (cb T) (gr U V w J) (gr U (upd (fun T' =>(V T').map (Vw.sb (cb T))) T v') w' (fun T' =>if T' =T then p' else J T'))->OR (gr U (upd (fun T' =>(V T').map (Vw.sb (cb T))) T v') w' (fun T' =>if T' =T then p' else J T')) p' v'):
  ARel U w0 J0 K N (fun t=>(S t).sb (cb T)) (upd (fun T' =>(V T').map (Vw.sb (cb T))) T v') a w' (fun T' =>if T' =T then p' else J T')/\
   Mv (cb T) (gr U V w J) (gr U (upd (fun T' =>(V T').map (Vw.sb (cb T))) T v') w' (fun T' =>if T' =T then p' else J T')):=by
 have hoth:∀T' g o,T' ≠T->J T' =some (g,o)->w'.heap[g]? =w.heap[g]? :=fun T' g o hne hg=>hblk g (h.hr.lt hg) (fun o' h' =>hne (h.hr.inj T' T g o o' hg h'))
 have hm:Mv (cb T) (gr U V w J) (gr U (upd (fun T' =>(V T').map (Vw.sb (cb T))) T v') w' (fun T' =>if T' =T then p' else J T')):=by
  refine⟨hsize,fun b hb hx hx' => ?_,fun _ _ _ hu=>hu,fun b hb hx=>hblk b hb (fun o e=>hx ⟨T,o,e⟩),fun T1 T2 q ht hq=> ?_,fun T1 fr u xs q e=> ?_⟩
  ·obtain⟨T1,o1,h1⟩:=hx';simp only[gr]at h1;split at h1
   ·rcases hp' b o1 h1 with⟨o0,h0⟩|hge
    ·exact hx ⟨T,o0,h0⟩
    ·have:b<w.heap.size:=hb;omega
   ·exact hx ⟨T1,o1,h1⟩
  ·by_cases e:T1=T
   ·subst e;rw[qvz]at ht;rcases ht with⟨ht,_⟩|ht<;>cases ht
   ·rw[q8 e]at ht;rcases ht with⟨_,rfl⟩|ht
    ·refine⟨?_,fun g o hg=>⟨by simp only[gr,if_neg e];exact hg,fun cur e' hh=>⟨cur,(hoth T2 g o e hg).trans hh,rfl⟩⟩⟩;show aj _ T2=some q;have hq' :aj V T2=some q:=hq;simp only[aj,upd,if_neg e,Option.map_map]at hq' ⊢;exact hq'
    ·cases ht
  ·by_cases e1:T1=T
   ·subst e1;rw[qvz]at e;cases e
   ·rw[q8 e1]at e;cases e
 refine⟨h.go hm (fun t=>rfl) ⟨fun T1 T2 g o1 o2 h1 h2=> ?_,fun T1 p hp=> ?_,fun T1 v1 hv1=> ?_,fun T1 g o hT=> ?_,hos.trans h.hr.os,htape.trans h.hr.tape,hout.trans h.hr.output,Kb h.hr.size hsize,fun b hb hn=> ?_,fun t ht=> ?_,fun t g o ht hg cur e hc=> ?_,h.hr.ulow,h.hr.tb0⟩,hm⟩
 ·split at h1<;>split at h2
  ·rename_i e e';rw[e,e']
  ·rename_i e e';rcases hp' g o1 h1 with⟨o0,h0⟩|hge
   ·exact absurd (h.hr.inj T2 T g o2 o0 h2 h0) e'
   ·have:=h.hr.lt h2;omega
  ·rename_i e e';rcases hp' g o2 h2 with⟨o0,h0⟩|hge
   ·exact absurd (h.hr.inj T1 T g o1 o0 h1 h0) e
   ·have:=h.hr.lt h1;omega
  ·exact h.hr.inj T1 T2 g o1 o2 h1 h2
 ·split at hp
  ·rename_i e;exact⟨v',by simp[upd,e]⟩
  ·rename_i e;obtain⟨v1,hv1⟩:=h.hr.dom T1 p hp;exact⟨_,by simp only[upd,if_neg e,hv1];rfl⟩
 ·by_cases e:T1=T
  ·subst e;simp only[upd,Kw,Wb]at hv1;subst hv1;rw[if_pos rfl];exact hrow hm
  ·simp only[upd,if_neg e]at hv1;cases hq:V T1 with
   |none=>rw[hq]at hv1;cases hv1
   |some v0=>
    rw[hq]at hv1;simp only[Wd,Wb]at hv1;subst hv1;rw[if_neg e];exact(h.hr.obj T1 v0 hq).mv hm (fun g o hp=>hoth T1 g o e hp) rfl rfl rfl (fun i f _ _ u hu=>VR.mv hm _ u hu) (fun _ _=>HZ.of hm fun _ _=>rfl)
 ·split at hT
  ·rcases hp' g o hT with⟨o0,h0⟩|hge
   ·exact h.hr.own T g o0 h0
   ·refine⟨fun hu=> ?_, .inl (Kb h.hr.size hge)⟩;have:=h.hr.ulow g hu;have:=h.hr.size;omega
  ·exact h.hr.own T1 g o hT
 ·refine(hblk b (WL hb h.hr.size) (fun o e=> ?_)).trans (h.hr.blk b hb hn);rcases(h.hr.own T b o e).2 with hge|⟨T',o',h'⟩
  ·omega
  ·exact hn T' o' h'
 ·have:(TG.o t)≠T:=fun e=>by rw[hK t e.symm]at ht;cases ht
  simp only[if_neg this];exact h.hr.keep t ht
 ·obtain⟨cur1,h1,h2⟩:=h.hr.ksz t g o ht hg cur e hc;have hne:(TG.o t)≠T:=fun e=>by rw[hK t e.symm]at ht;cases ht
  have hg' :J (.o t)=some (g,o):=by rw[h.hr.keep t ht];exact hg
  exact⟨cur1,(hoth (.o t) g o hne hg').trans h1,h2⟩
variable {P : Program} {tt : TT}
theorem q8q(w:World)(t ty e:TypeId)(i:TypeInfo)(ht:P.underlying t=some (.slice e))(hi:P.info? e=some i)
  (g o sLen sCap:Nat) (cur:Array Value) (hg:w.heap[g]? =some (.cells cur e (0,0)))
  (a:Addr) (m c:Nat) (news:List Value) (hl:news.length=m*i.size) (hnews:∀j u,news[j]? =some u->w.cell? (a.add j)=some u) (h1:∀u∈news,u.oneCell' =true)
  (hroom:sLen+m<=sCap) (hfit:o+sLen*i.size+news.length<=cur.size):
  (Builtin.append_ #[t,t] ty #[.slice (some ⟨g,o,none⟩) sLen sCap, .slice (some a) m c]).run P w=
   .ok (.slice (some ⟨g,o,none⟩) (sLen+m) sCap) (w.setRow g (cur.toList.take (o+sLen*i.size)++news++cur.toList.drop (o+sLen*i.size+news.length)).toArray):=by
 have hf:=run_firstCells_some (P:=P) w i.size m a m c news hl hnews;have hst:=run_storeCells_at P g (o+sLen*i.size) e news 0 cur w hg (by simpa using hfit) h1;simp only[KU]at hst;simp[Builtin.append_,Wq ht,sizeOf,typeInfo,hi,Builtin.lenOf,hroom,hf,KL,hst]
theorem qtr(hF:dq P tt){st ty el:TypeId}{b1 b2:Nat}{z1:List Value}{ei:TI}(hst:tt st=some ⟨.slice el,b1,b2,z1⟩)(hel:tt el=some ei)(w:World)(base a:Option Addr)(n c c' :Nat)(hn:n<=c):
  (Builtin.append_ #[st,st] ty #[.slice base n c, .slice a 0 c']).run P w= .ok (.slice base n c) w:=by
 obtain⟨inf,d,z,hi1,hi2,hi3,hi4,hi5,hi6,hi7⟩:=(hF el ei hel).1;have hu:=jh hF hst;have hcells:(Builtin.firstCells inf.size 0 (.slice a 0 c')).run P w= .ok #[] w:=by
  cases a<;>simp[Builtin.firstCells,loadCells,loadCellsFrom]
 unfold Builtin.append_;cases base with
 |none=>simp[hu,sizeOf,typeInfo,hi1,Builtin.lenOf,hn,hcells,storeCells,underlying]
 |some b=>simp[hu,sizeOf,typeInfo,hi1,Builtin.lenOf,hn,hcells,storeCells,underlying]
def Vw.app(v:Vw)(θ:TG->Ac)(off n m:Nat)(src:Nat->Nat->TV):Vw:=
 ⟨v.ty,v.sz,n+m,fun i f=>if i<n then(v.cs (off+i) f).sb θ else(src (i-n) f).sb θ⟩
theorem ARel.append(hF:dq P tt)(h:ARel U w0 J0 K N S V a w J){st ty el:TypeId}{b1 b2:Nat}{z1:List Value}{ei:TI}(hst:tt st=some ⟨.slice el,b1,b2,z1⟩)(hel:tt el=some ei)
  {T:TG} {v:Vw} (hT:V T=some v) (hty:v.ty=el) (hsz:ei.sz=v.sz) (hpos:0<v.sz) (hz:ei.zero.length=ei.sz) (hK:∀t,T= .o t->K t=false) {off n:Nat} {vd:Value} (hd:SlR w J T v.sz off n vd) (hle:off+n<=v.n)
  {sa:Option Addr} {m c:Nat} {news:List Value} {src:Nat->Nat->TV} (hl:news.length=m*v.sz) (hsa:0<m->∃ad,sa=some ad/\∀j u,news[j]? =some u->w.cell? (ad.add j)=some u) (h1:∀u∈news,u.oneCell' =true)
  (hsrc:∀i f,i<m->f<v.sz->∃u,news[i*v.sz+f]? =some u/\VR (gr U V w J) (src i f) u) (h63:n+m<=maxLen) (hbytes:(n+m)*ei.bytes<=140737488355328):
  ∃v' w' J',(Builtin.append_ #[st,st] ty #[vd, .slice sa m c]).run P w= .ok v' w' /\
   ARel U w0 J0 K N (fun t=>(S t).sb (cb T)) (upd (fun T' =>(V T').map (Vw.sb (cb T))) T (v.app (cb T) off n m src)) a w' J' /\
   Mv (cb T) (gr U V w J) (gr U (upd (fun T' =>(V T').map (Vw.sb (cb T))) T (v.app (cb T) off n m src)) w' J')/\
   VR (gr U (upd (fun T' =>(V T').map (Vw.sb (cb T))) T (v.app (cb T) off n m src)) w' J') (.own T) v' :=by
 have hI:∀V0:TG->Option Vw,aj (upd V0 T (v.app (cb T) off n m src)) T=some (n+m,v.sz):=fun V0=>by simp[aj,upd,Vw.app]
 obtain⟨inf,d,z,hi1,hi2,hi3,hi4,hi5,hi6,hi7⟩:=(hF el ei hel).1;have hu:=jh hF hst;have hob:=h.hr.obj T v hT;have hzs:z.cells.size=inf.size:=by rw[<-WO,hi7,hz,hi4]
 have hnn:n+m<=9223372036854775807:=by unfold maxLen at h63;omega
 rcases HD m with hm0|hm0
 ·subst hm0;rcases hd with⟨b,rfl,rfl⟩|⟨g,o,cc,cur,e,hJ,rfl,hn,hcm,hh,hcs⟩
  ·obtain⟨hr,hm⟩:=h.grown (T:=T) hK (w' :=w) rfl rfl rfl (Wg _) (fun _ _ _=>rfl) (p' :=J T) (fun g o hg=> .inl ⟨o,hg⟩) (v.app (cb T) off 0 0 src) (fun hm=>by
    cases hq:J T with
    |none=>simp[OR,Vw.app]
    |some p=>
     obtain⟨g,o⟩:=p;rw[hq]at hob;obtain⟨cur,c',hh,hs,hle',_⟩:=hob.cells (.inl hpos);exact .inl ⟨.inl hpos,cur,c',hh,hs,W7 _,fun i f hi=>by simp[Vw.app]at hi⟩)
   exact⟨_,w,_,qtr hF hst hel w b sa 0 0 c (Wg _),hr,hm,0,v.sz,hI _, .inl ⟨b,rfl,rfl⟩⟩
  ·rw[hJ]at hob;obtain⟨cur2,c2,hh2,hs2,hle2,hcell⟩:=hob.cells (.inl hpos);have hh2:w.heap[g]? =some (.cells cur2 v.ty (0,0)):=hh2;rw[hh]at hh2;simp only[Wb,KO]at hh2;obtain⟨rfl,rfl,_⟩:=hh2;obtain⟨hr,hm⟩:=h.grown (T:=T) hK (w' :=w) rfl rfl rfl (Wg _) (fun _ _ _=>rfl) (p' :=some (g,o+off*v.sz)) (fun g' o' hg=>by cases hg;exact .inl ⟨o,hJ⟩) (v.app (cb T) off n 0 src) (fun hm=>by
    refine .inl ⟨.inl hpos,cur,cc,hh,by rw[hcs,WM,Km];rfl,hn,fun i f hi hf=> ?_⟩;have hi:i<n:=hi;obtain⟨u,hu',h1',hV⟩:=hcell (off+i) f (by omega) hf;refine⟨u,?_,h1',?_⟩
    ·rw[<-hu'];show cur[o+off*v.sz+(i*v.sz+f)]? =_;congr 1;rw[WM];omega
    ·have:=VR.mv hm _ u hV;simp only[Vw.app,if_pos hi];exact this)
   exact⟨_,w,_,qtr hF hst hel w _ sa n cc c hn,hr,hm,n,v.sz,hI _, .inr ⟨g,o+off*v.sz,cc,cur,_,by simp[gr],by simp,hn,hcm,hh,by rw[hcs,WM,WR,Km]⟩⟩
 obtain⟨ad,rfl,hnews⟩:=hsa hm0;have hsz' :inf.size=v.sz:=hi4.trans hsz;have grow:∀(base:Option Addr) (cc:Nat) (olds:List Value),vd= .slice base n cc->olds.length=n*v.sz->(∀b,base=some b->∀j u,olds[j]? =some u->w.cell? (b.add j)=some u)->(base=none->n=0/\cc=0)->cc<n+m->
   (∀i f,i<n->f<v.sz->∃u,olds[i*v.sz+f]? =some u/\u.oneCell' =true/\VR (gr U V w J) (v.cs (off+i) f) u)->
   ∃v' w' J',(Builtin.append_ #[st,st] ty #[vd, .slice (some ad) m c]).run P w= .ok v' w' /\
    ARel U w0 J0 K N (fun t=>(S t).sb (cb T)) (upd (fun T' =>(V T').map (Vw.sb (cb T))) T (v.app (cb T) off n m src)) a w' J' /\
    Mv (cb T) (gr U V w J) (gr U (upd (fun T' =>(V T').map (Vw.sb (cb T))) T (v.app (cb T) off n m src)) w' J')/\
    VR (gr U (upd (fun T' =>(V T').map (Vw.sb (cb T))) T (v.app (cb T) off n m src)) w' J') (.own T) v' :=by
  intro base cc olds hvd hlo holds hnone hcc hold;have hrun:(Builtin.append_ #[st,st] ty #[vd, .slice (some ad) m c]).run P w= .ok (.slice (some ⟨w.heap.size,0,none⟩) (n+m) (grownCap w (n+m) cc el))
    (w.drew.alloc (.cells (olds.toArray++news.toArray++Builtin.zeroCells z.cells (grownCap w (n+m) cc el-(n+m))) el)):=by
   rw[hvd];cases base with
   |some b=>
    exact run_append_grow (P:=P) w st ty el inf z hu hi1 hi6 b n cc olds (by rw[hlo,hsz']) (holds b rfl) ad m c news (by rw[hl,hsz']) hnews hcc (by omega) (growslice_fits (by omega) (by rw[hi5];exact hbytes))
   |none=>
    obtain⟨rfl,rfl⟩:=hnone rfl;have:olds=[]:=KJ (by simpa using hlo);subst this;have:=run_append_nil (P:=P) w st ty el inf z hu hi1 hi6 ad m c news (by rw[hl,hsz']) hnews hm0 (by omega) (by rw[hi5];simp only[WR]at hbytes;omega);simpa using this
  have hge:=grownCap_ge w (n+m) cc el;have hcm:grownCap w (n+m) cc el<=maxLen:=grownCap_le_maxLen w (n+m) cc el h63;generalize hcur' :olds.toArray++news.toArray++Builtin.zeroCells z.cells (grownCap w (n+m) cc el-(n+m))=cur' at hrun;have hcs' :cur'.size=grownCap w (n+m) cc el*v.sz:=by
   rw[<-hcur'];simp only[HF,List.size_toArray,size_zeroCells,hzs,hsz',hlo,hl,<-WM];congr 1;omega
  have hcell' :∀j,j<(n+m)*v.sz->cur'[j]? =(olds++news)[j]? :=by
   intro j hj;rw[<-hcur',Ku (by simp[hlo,hl,<-WM];exact hj),<-WY];simp
  obtain⟨hr,hm⟩:=h.grown (T:=T) hK (w' :=w.drew.alloc (.cells cur' el)) rfl rfl rfl (by simp) (fun b hb _=>Hn w.drew _ b hb) (p' :=some (w.heap.size,0)) (fun g' o' hg=>by cases hg;exact .inr (Wg _)) (v.app (cb T) off n m src) (fun hm=>by
   refine .inl ⟨.inl hpos,cur',grownCap w (n+m) cc el,by rw[show(v.app (cb T) off n m src).ty=el from hty];exact KM w.drew _,by rw[hcs',WR];rfl,hge,fun i f hi hf=> ?_⟩;have hi:i<n+m:=hi;have hf:f<v.sz:=hf;have hlt:i*v.sz+f<(n+m)*v.sz:=by
    have:(i+1)*v.sz<=(n+m)*v.sz:=WC _ hi;rw[WM i 1]at this;omega
   show∃u,cur'[0+(i*v.sz+f)]? =some u/\_;rw[WR,hcell' _ hlt];by_cases hin:i<n
   ·obtain⟨u,hu',h1',hV⟩:=hold i f hin hf;refine⟨u,?_,h1',?_⟩
    ·rw[Wo]
     ·exact hu'
     ·rcases Wz (i*v.sz+f) olds.length with h' |h'
      ·exact h'
      ·rw[Wp h']at hu';cases hu'
    ·have:=VR.mv hm _ u hV;simp only[Vw.app,if_pos hin];exact this
   ·obtain⟨u,hu',hV⟩:=hsrc (i-n) f (by omega) hf;have hsub:i*v.sz+f-olds.length=(i-n)*v.sz+f:=by
     rw[hlo,Nat.sub_mul];have:n*v.sz<=i*v.sz:=WC _ (by omega);omega
    refine⟨u,?_,h1 u (WV hu'),?_⟩
    ·rw[Wu (by rw[hlo];have:n*v.sz<=i*v.sz:=WC _ (by omega);omega),hsub];exact hu'
    ·have:=VR.mv hm _ u hV;simp only[Vw.app,if_neg hin];exact this)
  exact⟨_,_,_,hrun,hr,hm,n+m,v.sz,hI _, .inr ⟨w.heap.size,0,grownCap w (n+m) cc el,cur',el,by simp[gr],by simp,hge,hcm,KM w.drew _,by rw[hcs'];simp⟩⟩
 rcases hd with⟨b,rfl,rfl⟩|⟨g,o,cc,cur,e,hJ,rfl,hn,hcm,hh,hcs⟩
 ·exact grow b 0 [] rfl (by simp) (fun _ _ j u hj=>by simp at hj) (fun _=>⟨rfl,rfl⟩) (by omega) (fun i f hi=>by omega)
 ·rw[hJ]at hob;obtain⟨cur2,c2,hh2,hs2,hle2,hcell⟩:=hob.cells (.inl hpos);have hh2:w.heap[g]? =some (.cells cur2 v.ty (0,0)):=hh2;rw[hh]at hh2;simp only[Wb,KO]at hh2;obtain⟨rfl,rfl,_⟩:=hh2;subst hty;have hold:∀i f,i<n->f<v.sz->∃u,cur[o+off*v.sz+(i*v.sz+f)]? =some u/\u.oneCell' =true/\VR (gr U V w J) (v.cs (off+i) f) u:=by
   intro i f hi hf;obtain⟨u,hu',h1',hV⟩:=hcell (off+i) f (by omega) hf;refine⟨u,?_,h1',hV⟩;rw[<-hu'];congr 1;rw[WM];omega
  by_cases hroom:n+m<=cc
  ·
   have hfit:o+off*v.sz+n*inf.size+news.length<=cur.size:=by
    rw[hl,hcs,hsz',WM];have:(n+m)*v.sz<=cc*v.sz:=WC _ hroom;rw[WM]at this;omega
   have hrun:=q8q (P:=P) w st ty v.ty inf hu hi1 g (o+off*v.sz) n cc cur hh ad m c news (by rw[hl,hsz']) hnews h1 hroom hfit;rw[hsz']at hrun hfit;generalize hcur' :(cur.toList.take (o+off*v.sz+n*v.sz)++news++cur.toList.drop (o+off*v.sz+n*v.sz+news.length)).toArray=cur' at hrun;have hsize' :cur'.size=cur.size:=by rw[<-hcur'];simp;omega
   have hcell' :∀j,cur'[j]? =if o+off*v.sz+n*v.sz<=j/\j<o+off*v.sz+n*v.sz+news.length then news[j-(o+off*v.sz+n*v.sz)]? else cur[j]? :=by
    intro j;rw[<-hcur',List.getElem?_toArray,HE];rcases Wz j (o+off*v.sz+n*v.sz)with h' |h'
    ·rw[Wo (by simp;omega),WZ,if_pos h',WY,if_neg (by omega)]
    ·rw[Wu (by simp;omega)];have hl' :(cur.toList.take (o+off*v.sz+n*v.sz)).length=o+off*v.sz+n*v.sz:=by simp;omega
     rw[hl'];rcases Wz j (o+off*v.sz+n*v.sz+news.length)with h2|h2
     ·rw[Wo (by omega),if_pos ⟨h',h2⟩]
     ·rw[Wu (by omega),if_neg (by omega),WI,WY];congr 1;omega
   have hrow:=setRow_heap w g cur cur' v.ty _ hh;obtain⟨hr,hm⟩:=h.grown (T:=T) hK (w' :=w.setRow g cur') rfl rfl rfl (by simp) (fun b _ hb=>setRow_other w g b _ (fun e=>hb o (e▸hJ))) (p' :=some (g,o+off*v.sz)) (fun g' o' hg=>by cases hg;exact .inl ⟨o,hJ⟩) (v.app (cb T) off n m src) (fun hm=>by
    refine .inl ⟨.inl hpos,cur',cc,hrow,by rw[hsize',hcs,WM,Km];rfl,hroom,fun i f hi hf=> ?_⟩;have hi:i<n+m:=hi;have hf:f<v.sz:=hf;show∃u,cur'[o+off*v.sz+(i*v.sz+f)]? =some u/\_;rw[hcell'];by_cases hin:i<n
    ·have:(i+1)*v.sz<=n*v.sz:=WC _ hin;rw[WM]at this;rw[if_neg (by omega)];obtain⟨u,hu',h1',hV⟩:=hold i f hin hf;refine⟨u,hu',h1',?_⟩;have:=VR.mv hm _ u hV;simp only[Vw.app,if_pos hin];exact this
    ·have hge:n*v.sz<=i*v.sz:=WC _ (by omega);have hlt:(i-n)*v.sz+f<m*v.sz:=by
      have:(i-n+1)*v.sz<=m*v.sz:=WC _ (by omega);rw[WM]at this;omega
     have hsub:i*v.sz=n*v.sz+(i-n)*v.sz:=by rw[<-WM];congr 1;omega
     rw[if_pos (by rw[hl];omega)];obtain⟨u,hu',hV⟩:=hsrc (i-n) f (by omega) hf;refine⟨u,?_,h1 u (WV hu'),?_⟩
     ·rw[<-hu'];congr 1;omega
     ·have:=VR.mv hm _ u hV;simp only[Vw.app,if_neg hin];exact this)
   exact⟨_,_,_,hrun,hr,hm,n+m,v.sz,hI _, .inr ⟨g,o+off*v.sz,cc,cur',v.ty,by simp[gr],by simp,hroom,hcm,hrow,by rw[hsize',hcs,WM,WR,Km]⟩⟩
  ·
   have hfitn:o+off*v.sz+n*v.sz<=cur.size:=by
    rw[hcs,WM];have:n*v.sz<=cc*v.sz:=WC _ hn;omega
   refine grow (some ⟨g,o+off*v.sz,none⟩) cc ((cur.toList.drop (o+off*v.sz)).take (n*v.sz)) rfl (by simp;omega) (fun b hb j u hj=> ?_) (fun e=>by cases e) (by omega) (fun i f hi hf=> ?_)
   ·cases hb;rw[WZ]at hj;split at hj
    ·rw[WI,WY]at hj;rw[KL,cell_of_row w g _ cur v.ty (0,0) hh];exact hj
    ·cases hj
   ·obtain⟨u,hu',h1',hV⟩:=hold i f hi hf;refine⟨u,?_,h1',hV⟩;have:(i+1)*v.sz<=n*v.sz:=WC _ hi;rw[WM]at this;rw[WZ,if_pos (by omega),WI,WY];exact hu'
end
end Go.K
namespace Go.K
open Go.M Go.RowKit
variable {F : Nat -> Prop}
def jkt:TV->Bool
 | .int _ _| .bool _| .val _| .sl _ _ _=>true
 |_=>false
mutual
theorem Ty.cells_data(fr:Bool):∀(t:Ty) (x:t.den) (f:Nat),f<t.sz->jkt ((t.cells fr x).getD f .any)=true
 | .int k,n,f,h=>by obtain rfl:f=0:=(by simp[Ty.sz]at h;omega);rfl
 | .bool,b,f,h=>by obtain rfl:f=0:=(by simp[Ty.sz]at h;omega);rfl
 | .str,s,f,h=>by obtain rfl:f=0:=(by simp[Ty.sz]at h;omega);rfl
 | .slice t,xs,f,h=>by obtain rfl:f=0:=(by simp[Ty.sz]at h;omega);rfl
 | .struct l,x,f,h=>TyL.cells_data fr l x f h
 | .tree l m,x,f,h=>by
  rw[qyz];split
  ·rename_i hlt;exact TyL.cells_data fr l _ f hlt
  ·split
   ·rfl
   ·exact TyL.cells_data fr m _ _ (by simp[Ty.sz]at h;omega)
theorem TyL.cells_data(fr:Bool):∀(l:TyL) (x:l.den) (f:Nat),f<l.sz->jkt ((l.cells fr x).getD f .any)=true
 | .nil,_,f,h=>by simp[TyL.sz]at h
 | .cons t l,x,f,h=>by
  unfold TyL.cells;simp only[Wa,Hg,Ty.cells_len];split
  ·rename_i hlt;simpa[Wa]using Ty.cells_data fr t x.1 f hlt
  ·simpa[Wa]using TyL.cells_data fr l x.2 (f-t.sz) (by simp[TyL.sz]at h;omega)
end
def DC(w:World)(Y:Nat->Prop):TV->Value->Prop
 | .int k n,v=>v= .int k n
 | .bool b,v=>v= .bool b
 | .val u,v=>v=u
 | .sl _ t xs,v=>Ty.C w Y (.slice t) xs 0 v
 |_,_=>False
mutual
theorem Ty.C_dc(w:World)(Y:Nat->Prop)(fr:Bool):∀(t:Ty) (x:t.den) (f:Nat) (v:Value),f<t.sz->(Ty.C w Y t x f v↔DC w Y ((t.cells fr x).getD f .any) v)
 | .int k,n,f,v,h=>by obtain rfl:f=0:=(by simp[Ty.sz]at h;omega);rfl
 | .bool,b,f,v,h=>by obtain rfl:f=0:=(by simp[Ty.sz]at h;omega);rfl
 | .str,s,f,v,h=>by obtain rfl:f=0:=(by simp[Ty.sz]at h;omega);rfl
 | .slice t,xs,f,v,h=>by obtain rfl:f=0:=(by simp[Ty.sz]at h;omega);rfl
 | .struct l,x,f,v,h=>TyL.C_dc w Y fr l x f v h
 | .tree l m,x,f,v,h=>by
  rw[q86,qyz];split
  ·rename_i hlt;exact TyL.C_dc w Y fr l _ f v hlt
  ·split
   ·exact Iff.rfl
   ·exact TyL.C_dc w Y fr m _ _ v (by simp[Ty.sz]at h;omega)
theorem TyL.C_dc(w:World)(Y:Nat->Prop)(fr:Bool):∀(l:TyL) (x:l.den) (f:Nat) (v:Value),f<l.sz->(TyL.C w Y l x f v↔DC w Y ((l.cells fr x).getD f .any) v)
 | .nil,_,f,v,h=>by simp[TyL.sz]at h
 | .cons t l,x,f,v,h=>by
  unfold TyL.C TyL.cells;simp only[Wa];split
  ·rename_i hlt;rw[Wo (by rw[Ty.cells_len];exact hlt)];simpa[Wa]using Ty.C_dc w Y fr t x.1 f v hlt
  ·rename_i hge;rw[Wu (by rw[Ty.cells_len];omega),Ty.cells_len];have h' :f-t.sz<l.sz:=by simp[TyL.sz]at h;omega
   simpa[Wa]using TyL.C_dc w Y fr l x.2 (f-t.sz) v h'
end
theorem VR.dc{G:Gr}{A:TV}{v:Value}(hd:jkt A=true)(hns:∀fr t xs,A≠ .sl fr t xs)(w:World)(Y:Nat->Prop)(h:VR G A v):DC w Y A v:=by
 cases A<;>simp only[jkt,KP]at hd<;>first|exact h|exact absurd rfl (hns _ _ _)
section
variable {U : Nat -> Prop} {w0 : World} {J0 : Pl} {K : Nat -> Bool} {N : Nat}
theorem qih{H:List TOb}{t:Nat}{ty:TypeId}{md:Md}{its:List TypeId}{u:Ty}{xs:List u.den}(ho:H[t]? =some (.arr ty md its u xs))(hm:md.isOwn=true){i f:Nat}(hi:i<xs.length){v:Ty}{ys:List v.den}(hin:ek u (xs.getD i u.dft) f=some ⟨v,ys⟩):
  vw H (.r t i f)=some ⟨its.getD f 0,v.sz,ys.length,fun j g=>(v.cells true (ys.getD j v.dft)).getD g .any⟩:=by
 simp only[vw,ho,vwR,hm,hi,and_self,Kw,hin]
theorem jdn{u:Ty}{x:u.den}{f:Nat}{v:Ty}{ys:List v.den}(h:ek u x f=some ⟨v,ys⟩):∃fr,(u.cells true x).getD f .any= .sl fr v ys:=by
 unfold ek at h;split at h
 ·rename_i fr v' ys' e;simp only[Wb,Sigma.mk.injEq]at h;obtain⟨rfl,h⟩:=h;rw[HU h]at e;exact⟨fr,e⟩
 ·cases h
theorem qq1{u:Ty}{x:u.den}{f:Nat}{fr:Bool}{v:Ty}{ys:List v.den}(h:(u.cells true x).getD f .any= .sl fr v ys):ek u x f=some ⟨v,ys⟩:=by
 unfold ek;rw[h]
theorem OR.row{G:Gr}{g o:Nat}{v:Vw}(h:OR G (some (g,o)) v){Y:Nat->Prop}(hlt:g<G.w.heap.size)(hY:¬Y g){u:Ty}{xs:List u.den}(hs:v.sz=u.sz)(hn:v.n=xs.length)
  (hc:∀i f,i<xs.length->f<u.sz->∀y,VR G (v.cs i f) y->Ty.C G.w Y u (xs.getD i u.dft) f y):qqw G.w Y u xs g o:=by
 refine⟨hlt,hY,fun i f hi hf=> ?_⟩;obtain⟨y,hy,h1,hV⟩:=h.at_ (i:=i) (f:=f) (by omega) (by omega);exact⟨y,by rw[<-hs];exact hy,h1,hc i f hi hf y hV⟩
theorem jca{H:List TOb}{w:World}{J:Pl}(h:HR U w0 J0 K (vw H) w J){t:Nat}{ty:TypeId}{md:Md}{its:List TypeId}{u:Ty}{xs:List u.den}(ho:H[t]? =some (.arr ty md its u xs))(hm:md.isOwn=true){Y:Nat->Prop}
  (hlow:Low w (YY (da J) U true) w Y) {i f:Nat} (hi:i<xs.length) {v:Ty} {ys:List v.den} (hin:ek u (xs.getD i u.dft) f=some ⟨v,ys⟩) {g o:Nat} (hJ:J (.r t i f)=some (g,o)) (hY:¬Y g):qqw w Y v ys g o:=by
 have hv:=qih ho hm hi hin;have hob:=h.obj _ _ hv;rw[hJ]at hob;refine OR.row hob (h.lt hJ) hY rfl rfl fun j f' hj hf' y hV=> ?_
 exact Ty.C_low hlow v _ f' y ((Ty.C_iff (gr U (vw H) w J) true v _ f' y hf').2 hV)
theorem jyy{H:List TOb}{w:World}{J:Pl}(h:HR U w0 J0 K (vw H) w J){t:Nat}{ty:TypeId}{its:List TypeId}{u:Ty}{xs:List u.den}(ho:H[t]? =some (.arr ty .own its u xs)){Y:Nat->Prop}
  (hlow:Low w (YY (da J) U true) w Y) (hrows:∀i f g o,J (.r t i f)=some (g,o)->¬Y g) {i f:Nat} {y:Value} (hi:i<xs.length) (hf:f<u.sz) (hV:VR (gr U (vw H) w J) (b7 t .own u xs i f) y):
  Ty.C w Y u (xs.getD i u.dft) f y:=by
 rw[Ty.C_dc w Y true u _ f y hf];have hd:=Ty.cells_data true u (xs.getD i u.dft) f hf;unfold b7 at hV;simp only[Md.fr]at hV;split at hV
 ·rename_i fr v ys e;rw[e];have hin:=qq1 e;obtain⟨n,sz,hI,hs⟩:=hV;have hv:=qih ho rfl hi hin;have hI' :aj (vw H) (.r t i f)=some (n,sz):=hI;simp only[aj,hv,Wd,Wb,Wj]at hI';obtain⟨rfl,rfl⟩:=hI';have:=SlR.fz (w' :=w) (Y:=Y) (n:=ys.length) (off:=0) (by omega) (fun g o hJ=>jca h ho rfl hlow hi hin hJ (hrows i f g o hJ)) hs;simp only[K3,WW]at this;exact this
 ·rename_i hns;exact VR.dc hd hns w Y hV
def q6v(U:Nat->Prop)(w0:World)(J0:Pl)(K:Nat->Bool)(N:Nat)(s:TS)(δ:List St):Prop:=
 ∀a w J,dr U w0 J0 K N s a w J->∃J',dr U w0 J0 K N (s.aps δ) a w J' /\∀A v,VR (gr U (vw s.H) w J) A v->VR (gr U (vw (s.aps δ).H) w J') (vAps A δ) v
theorem q6v.nil(s:TS):q6v U w0 J0 K N s []:=fun a w J h=>⟨J,h,fun A v hv=>hv⟩
theorem qja(s:TS):∀(δ δ' :List St),s.aps (δ++δ')=(s.aps δ).aps δ'
 |[],_=>rfl
 |x::δ,δ' =>qja (s.ap x) δ δ'
theorem jpk(A:TV):∀(δ δ' :List St),vAps A (δ++δ')=vAps (vAps A δ) δ'
 |[],_=>rfl
 |x::δ,δ' =>jpk (vAp A x) δ δ'
theorem ut(H:List TOb):∀(δ δ' :List St),jt H (δ++δ')=jt (jt H δ) δ'
 |[],_=>rfl
 |x::δ,δ' =>ut (hAp H x) δ δ'
theorem qol(s:TS):∀(δ:List St),(s.aps δ).H=jt s.H δ
 |[]=>rfl
 |x::δ=>qol (s.ap x) δ
theorem q6v.app{s:TS}{δ δ' :List St}(h:q6v U w0 J0 K N s δ)(h' :q6v U w0 J0 K N (s.aps δ) δ'):q6v U w0 J0 K N s (δ++δ'):=by
 intro a w J hr;obtain⟨J1,h1,h2⟩:=h a w J hr;obtain⟨J2,h3,h4⟩:=h' a w J1 h1;rw[qja];exact⟨J2,h3,fun A v hv=>by rw[jpk];exact h4 _ v (h2 A v hv)⟩
theorem HLe.sb{Hv H:List TOb}(h:HLe F Hv H)(θ:TG->Ac):HLe F (cx θ Hv) (cx θ H):=by
 refine⟨fun t ob ho=> ?_,fun t ht hf=> ?_,by rw[c7,c7];exact h.len⟩
 ·rw[ij]at ho⊢;cases hq:Hv[t]? with
  |none=>rw[hq]at ho;cases ho
  |some o=>
   rw[hq]at ho;simp only[Wd,Wb]at ho;subst ho;rcases h.at_ t o hq with rfl|h'
   ·exact .inl rfl
   ·exact .inr (by rw[h'];rfl)
 ·rw[c7]at ht;rw[ij];rcases h.free t ht hf with e|e<;>rw[e]
  ·exact .inl rfl
  ·exact .inr rfl
theorem HLe.set{Hv H:List TOb}(h:HLe F Hv H)(t:Nat)(o:TOb)(ht:t<Hv.length\/o= .gone):HLe F (Hv.set t o) (H.set t o):=by
 refine⟨fun t1 ob ho=> ?_,fun t1 ht1 hf=> ?_,by simpa using h.len⟩
 ·by_cases e:t=t1
  ·subst e;have hl:t<Hv.length:=by
    rcases Wz t Hv.length with h' |h'
    ·exact h'
    ·rw[Wp (by simpa using h')]at ho;cases ho
   rw[Wl hl]at ho;right;rw[Wl (WL hl h.len)];exact ho
  ·rw[WF e]at ho⊢;exact h.at_ t1 ob ho
 ·simp only[WB]at ht1;by_cases e:t=t1
  ·subst e;rcases ht with h' |rfl
   ·omega
   ·rcases Wz t H.length with h' |h'
    ·right;rw[Wl h']
    ·left;rw[Wp (by simpa using h')]
  ·rw[WF e];exact h.free t1 ht1 hf
theorem HLe.new{Hv H:List TOb}(h:HLe F Hv H)(o:TOb):HLe F (fq Hv Hv.length o) (fq H Hv.length o):=by
 have hl:(fq Hv Hv.length o).length=Hv.length+1:=by
  unfold fq;rw[show Nat.blt Hv.length Hv.length=false by cases hb:Nat.blt Hv.length Hv.length with|false=>rfl|true=>exact absurd (cm hb) (Nat.lt_irrefl _)];simp
 refine⟨fun t ob ho=> ?_,fun t ht hf=> ?_,?_⟩
 ·rw[ko _ _ _ (Wg _)]at ho;rw[ko _ _ _ h.len];split
  ·rename_i e;rw[if_pos e]at ho;exact .inr ho
  ·rename_i e;rw[if_neg e]at ho;exact h.at_ t ob ho
 ·rw[hl]at ht;rw[ko _ _ _ h.len,if_neg (by omega)];exact h.free t (by omega) hf
 ·rw[hl];unfold fq;cases hb:Nat.blt Hv.length H.length with
  |true=>simp;exact cm hb
  |false=>simp;exact h.len
theorem HLe.ob{Hv H:List TOb}(h:HLe F Hv H){t:Nat}{ty:TypeId}{md:Md}{its:List TypeId}{u:Ty}{xs:List u.den}(ho:Hv[t]? =some (.arr ty md its u xs)):H[t]? =some (.arr ty md its u xs):=by
 rcases h.at_ t _ ho with e|e
 ·cases e
 ·exact e
theorem HLe.obc{Hv H:List TOb}(h:HLe F Hv H){t:Nat}{ty:TypeId}{sz n:Nat}{cs:List TV}(ho:Hv[t]? =some (.cs ty sz n cs)):H[t]? =some (.cs ty sz n cs):=by
 rcases h.at_ t _ ho with e|e
 ·cases e
 ·exact e
theorem HLe.obm{Hv H:List TOb}(h:HLe F Hv H){t:Nat}{kt vt:Ty}{es:List (kt.den×vt.den)}(ho:Hv[t]? =some (.mp kt vt es)):H[t]? =some (.mp kt vt es):=by
 rcases h.at_ t _ ho with e|e
 ·cases e
 ·exact e
theorem HLe.obo{Hv H:List TOb}(h:HLe F Hv H){t:Nat}{kt u:Ty}{ety:TypeId}{es:List (kt.den×List u.den)}{h0:Option Nat}(ho:Hv[t]? =some (.mo kt u ety es h0)):H[t]? =some (.mo kt u ety es h0):=by
 rcases h.at_ t _ ho with e|e
 ·cases e
 ·exact e
theorem jb7{ob:TOb}{t:Nat}{T:TG}(h:T.ob≠t):qfx ob t T= .id:=by
 cases T with
 |o t' =>simp only[TG.ob]at h;simp only[qfx];rw[show Nat.beq t' t=false by cases hb:Nat.beq t' t with|false=>rfl|true=>exact absurd (ax hb) h];rfl
 |r t' i f=>simp only[TG.ob]at h;simp only[qfx];rw[show Nat.beq t' t=false by cases hb:Nat.beq t' t with|false=>rfl|true=>exact absurd (ax hb) h];rfl
theorem qv2{w:World}{X X' :Nat->Prop}(h:∀b,X' b->X b)(fr:Bool):Low w (YY X U fr) w (YY X' U fr):=
 ⟨Wg _,fun b _ hY hY' =>hY (hY'.elim (fun e=> .inl (h b e)) .inr),fun _ _ _=>rfl⟩
theorem j9y{H:List TOb}{w:World}{J:Pl}(h:HR U w0 J0 K (vw H) w J){t:Nat}{ty:TypeId}{fr:Bool}{its:List TypeId}{u:Ty}{xs:List u.den}(ho:H[t]? =some (.arr ty (.fz fr) its u xs)){X' :Nat->Prop}(hX:∀b,X' b->da J b){g o:Nat}(hJ:J (.o t)=some (g,o))(hg:¬X' g):
  qqw w (YY X' U (fr||u.flat)) u xs g o:=by
 have hob:=h.obj _ _ (az ho);rw[hJ]at hob;refine OR.row hob (h.lt hJ) (fun hY=>hY.elim hg (fun e=>(h.own _ _ _ hJ).1 e.2)) rfl rfl fun j f hj hf y hV=> ?_
 have hV' :VR (gr U (vw H) w J) ((u.cells fr (xs.getD j u.dft)).getD f .any) y:=by
  have:b7 t (.fz fr) u xs j f=(u.cells fr (xs.getD j u.dft)).getD f .any:=by
   unfold b7;simp only[Md.fr];split<;>simp_all
  rw[<-this];exact hV
 have hC:=(Ty.C_iff (gr U (vw H) w J) fr u _ f y hf).2 hV';cases hfl:u.flat with
 |true=>exact Ty.C_flat u _ f y hfl hC
 |false=>
  rw[Bool.or_false];exact Ty.C_low (qv2 hX fr) u _ f y hC
theorem qnf{a b:Nat}(h:a≠b):Nat.beq a b=false:=by
 cases hb:Nat.beq a b with
 |false=>rfl
 |true=>exact absurd (ax hb) h
theorem j9x{s:TS}{Hv:List TOb}(hl:HLe F Hv s.H){t:Nat}(hK:K t=false):q6v U w0 J0 K N s (jau Hv t):=by
 intro a w J h;generalize hob:Hv.getD t .gone=ob;have hobH:ob≠ .gone->s.H[t]? =some ob:=by
  intro hne;rw[Wa]at hob;cases hq:Hv[t]? with
  |none=>rw[hq]at hob;exact absurd hob.symm hne
  |some o=>
   rw[hq]at hob;simp only[WX]at hob;subst hob;rcases hl.at_ t o hq with e|e
   ·exact absurd e hne
   ·exact e
 let J' :Pl:=fun T=>if T.ob=t then none else J T
 have hX:∀b,da J' b->da J b:=by
  rintro b ⟨T,o,hT⟩;simp only[J']at hT;split at hT
  ·cases hT
  ·exact⟨T,o,hT⟩
 have hgX:∀T g o,T.ob=t->J T=some (g,o)->¬da J' g:=by
  rintro T g o hT hg ⟨T',o',h'⟩;simp only[J']at h';split at h'
  ·cases h'
  ·rename_i hne;have:=h.hr.inj T T' g o o' hg h';subst this;exact hne hT
 have hV:∀T,¬T.ob=t->vw ((cx (qfx ob t) s.H).set t .gone) T=(vw s.H T).map (Vw.sb (qfx ob t)):=by
  intro T hT;rw[eh hT,qya (fun i f=>jb7 (T:= .r T.ob i f) hT)]
 have hVt:∀T,T.ob=t->vw ((cx (qfx ob t) s.H).set t .gone) T=none:=by
  intro T hT;have:((cx (qfx ob t) s.H).set t .gone)[t]? =none\/((cx (qfx ob t) s.H).set t .gone)[t]? =some .gone:=by
   rcases Wz t (cx (qfx ob t) s.H).length with h' |h'
   ·right;rw[Wl h']
   ·left;rw[Wp (by simpa using h')]
  cases T with
  |o t' =>simp only[TG.ob]at hT;subst hT;rcases this with e|e<;>simp[vw,e,vwO]
  |r t' i f=>simp only[TG.ob]at hT;subst hT;rcases this with e|e<;>simp[vw,e,vwR]
 have hid:∀T,qfx ob t T= .id->¬T.ob=t:=by
  intro T hT e;cases T with
  |o t' =>
   simp only[TG.ob]at e;subst e;simp only[qfx,W5,WQ]at hT;split at hT<;>cases hT
  |r t' i f=>
   simp only[TG.ob]at e;subst e;simp only[qfx,W5,WQ]at hT;split at hT
   ·simp only[jnu]at hT;split at hT<;>cases hT
   ·cases hT
 have hnto:∀T T',qfx ob t T≠ .to T' :=by
  intro T T' hT;by_cases e:T.ob=t
  ·cases T with
   |o t' =>
    simp only[TG.ob]at e;subst e;simp only[qfx,W5,WQ]at hT;split at hT<;>cases hT
   |r t' i f=>
    simp only[TG.ob]at e;subst e;simp only[qfx,W5,WQ]at hT;split at hT
    ·simp only[jnu]at hT;split at hT<;>cases hT
    ·cases hT
  ·rw[jb7 e]at hT;cases hT
 have hfz:∀T fr u xs q,qfx ob t T= .fz fr u xs->aj (vw s.H) T=some q->q=(xs.length,u.sz)/\∀g o,J T=some (g,o)->qqw w (YY (da J') U fr) u xs g o:=by
  intro T fr u xs q hT hq;by_cases e:T.ob=t
  ·cases T with
   |o t' =>
    simp only[TG.ob]at e;subst e;simp only[qfx,W5,WQ]at hT;split at hT
    ·rename_i ty fr0 its u0 xs0;have ho:=hobH (by simp);simp only[Ac.fz.injEq]at hT;obtain⟨rfl,rfl,hxs⟩:=hT;have hxs:=HU hxs;subst hxs;simp only[aj,az ho,Wd,Wb]at hq;exact⟨hq.symm,fun g o hg=>j9y h.hr ho hX hg (hgX (.o t') g o rfl hg)⟩
    ·rename_i ty its u0 xs0;have ho:=hobH (by simp);simp only[Ac.fz.injEq]at hT;obtain⟨rfl,rfl,hxs⟩:=hT;have hxs:=HU hxs;subst hxs;simp only[aj,az ho,Wd,Wb]at hq;refine⟨hq.symm,fun g o hg=> ?_⟩;have hob' :=h.hr.obj _ _ (az ho);rw[hg]at hob';refine OR.row hob' (h.hr.lt hg) (fun hY=>hY.elim (hgX (.o t') g o rfl hg) (fun e=>(h.hr.own _ _ _ hg).1 e.2)) rfl rfl fun j f hj hf y hV=> ?_
     exact jyy h.hr ho (qv2 hX true) (fun i f g o hr hY=>hY.elim (hgX (.r t' i f) g o rfl hr) (fun e=>(h.hr.own _ _ _ hr).1 e.2)) hj hf hV
    ·cases hT
   |r t' i f=>
    simp only[TG.ob]at e;subst e;simp only[qfx,W5,WQ]at hT;split at hT
    ·rename_i ty its u0 xs0;have ho:=hobH (by simp);simp only[jnu]at hT;split at hT
     ·rename_i v ys hin;simp only[Ac.fz.injEq]at hT;obtain⟨rfl,rfl,hxs⟩:=hT;have hxs:=HU hxs;subst hxs;have hi:i<xs0.length:=by
       rcases Wz i xs0.length with h' |h'
       ·exact h'
       ·simp only[aj,vw,ho,vwR,Md.isOwn,show¬i<xs0.length by omega,and_false,KI,KN]at hq;cases hq
      simp only[aj,qih ho rfl hi hin,Wd,Wb]at hq;exact⟨hq.symm,fun g o hg=>jca h.hr ho rfl (qv2 hX true) hi hin hg (fun hY=>hY.elim (hgX (.r t' i f) g o rfl hg) (fun e=>(h.hr.own _ _ _ hg).1 e.2))⟩
     ·cases hT
    ·cases hT
  ·rw[jb7 e]at hT;cases hT
 have hm:∀V',V' =vw ((cx (qfx ob t) s.H).set t .gone)->Mv (qfx ob t) (gr U (vw s.H) w J) (gr U V' w J'):=by
  rintro V' rfl;refine⟨Wg _,fun b _ hx hx' =>hx (hX b hx'),fun _ _ _ hu=>hu,fun _ _ _=>rfl,fun T T' q ht hq=> ?_,hfz⟩;rcases ht with⟨e,rfl⟩|e
  ·have hne:=hid T' e;refine⟨by show aj _ T' =_;rw[qda (hV T' hne)];exact hq,fun g o hg=>⟨by show J' T' =_;simp only[J',if_neg hne];exact hg,fun cur e' hh=>⟨cur,hh,rfl⟩⟩⟩
  ·exact absurd e (hnto T T')
 have hre:=h.re (θ:=qfx ob t) (S' :=bu (sbS (qfx ob t) s.S)) (V' :=vw ((cx (qfx ob t) s.H).set t .gone)) (J' :=J') (fun t' =>fv _ _ t') (fun T T' q ht hq=>by
   rcases ht with⟨e,rfl⟩|e
   ·have hne:=hid T' e;exact⟨by rw[qda (hV T' hne)];exact hq,fun g o hg=>by simp only[J',if_neg hne];exact hg⟩
   ·exact absurd e (hnto T T')) hfz (fun T g o hT=>by
   simp only[J']at hT;split at hT
   ·cases hT
   ·exact⟨T,hT⟩) (fun T T' g o o' h1 h2=>by
   simp only[J']at h1 h2;split at h1
   ·cases h1
   ·split at h2
    ·cases h2
    ·exact h.hr.inj T T' g o o' h1 h2) (fun T p hp=>by
   simp only[J']at hp;split at hp
   ·cases hp
   ·rename_i hne;obtain⟨v,hv⟩:=h.hr.dom T p hp;exact⟨_,by rw[hV T hne,hv];rfl⟩) (fun t' ht' =>by
   have:¬(TG.o t').ob=t:=fun e=>by simp only[TG.ob]at e;subst e;rw[hK]at ht';cases ht'
   simp only[J',if_neg this]) (fun hm T v hv=>by
   by_cases e:T.ob=t
   ·rw[hVt T e]at hv;cases hv
   ·rw[hV T e]at hv;cases hq:vw s.H T with
    |none=>rw[hq]at hv;cases hv
    |some v0=>
     rw[hq]at hv;simp only[Wd,Wb]at hv;subst hv;simp only[J',if_neg e];exact OR.re hm (h.hr.obj T v0 hq) rfl rfl rfl (fun i f _ _=> .inl rfl) (fun _ _=>HZ.of hm fun _ _=>rfl))
 unfold jau;rw[hob];refine⟨J',hre,fun A v hv=> ?_⟩;exact VR.mv (hm _ rfl) A v hv
theorem jkd{u:Ty}{xs:List u.den}{t:Nat}{T:TG}(h:T.ob≠t):qh4 u xs t T= .id:=by
 cases T with
 |o t' =>rfl
 |r t' i f=>simp only[TG.ob]at h;simp only[qh4,qnf h,W9]
theorem jkf{s:TS}{Hv:List TOb}(hl:HLe F Hv s.H){t:Nat}:q6v U w0 J0 K N s (qeg Hv t):=by
 unfold qeg;split
 ·rename_i ty its u xs hov;have ho:=hl.ob hov;intro a w J h;have htl:t<s.H.length:=(Wh.1 ho).1;let J' :Pl:=fun T=>match T with| .o _=>J T| .r t' _ _=>if t' =t then none else J T
  have hJo:∀t',J' (.o t')=J (.o t'):=fun _=>rfl
  have hJne:∀T,¬T.ob=t->J' T=J T:=by
   intro T hT;cases T with
   |o t' =>rfl
   |r t' i f=>simp only[TG.ob]at hT;simp only[J',if_neg hT]
  have hJr:∀i f,J' (.r t i f)=none:=fun i f=>by simp[J']
  have hsub:∀T p,J' T=some p->J T=some p:=by
   intro T p hT;cases T with
   |o t' =>exact hT
   |r t' i f=>
    simp only[J']at hT;split at hT
    ·cases hT
    ·exact hT
  have hX:∀b,da J' b->da J b:=fun b ⟨T,o,hT⟩=>⟨T,o,hsub T _ hT⟩
  have hgX:∀i f g o,J (.r t i f)=some (g,o)->¬da J' g:=by
   rintro i f g o hg ⟨T',o',h'⟩;have:=h.hr.inj _ T' g o o' hg (hsub T' _ h');subst this;rw[hJr]at h';cases h'
  have hV:∀T,¬T.ob=t->vw ((cx (qh4 u xs t) s.H).set t (.arr ty (.fz true) its u xs)) T=(vw s.H T).map (Vw.sb (qh4 u xs t)):=by
   intro T hT;rw[eh hT,qya (fun i f=>jkd (T:= .r T.ob i f) hT)]
  have hoN:((cx (qh4 u xs t) s.H).set t (.arr ty (.fz true) its u xs))[t]? =some (.arr ty (.fz true) its u xs):=Wl (by rw[c7];exact htl);have hVo:vw ((cx (qh4 u xs t) s.H).set t (.arr ty (.fz true) its u xs)) (.o t)=some ⟨ty,u.sz,xs.length,fun i f=>b7 t (.fz true) u xs i f⟩:=az hoN;have hVr:∀i f,vw ((cx (qh4 u xs t) s.H).set t (.arr ty (.fz true) its u xs)) (.r t i f)=none:=by
   intro i f;simp[vw,hoN,vwR,Md.isOwn]
  have hid:∀T,qh4 u xs t T= .id->¬T.ob=t\/T= .o t:=by
   intro T hT;by_cases e:T.ob=t
   ·right;cases T with
    |o t' =>simp only[TG.ob]at e;rw[e]
    |r t' i f=>
     simp only[TG.ob]at e;subst e;simp only[qh4,W5,WQ,jnu]at hT;split at hT<;>cases hT
   ·exact .inl e
  have hnto:∀T T',qh4 u xs t T≠ .to T' :=by
   intro T T' hT;cases T with
   |o t' =>cases hT
   |r t' i f=>
    by_cases e:t' =t
    ·subst e;simp only[qh4,W5,WQ,jnu]at hT;split at hT<;>cases hT
    ·rw[jkd (T:= .r t' i f) e]at hT;cases hT
  have hfz:∀T fr v ys q,qh4 u xs t T= .fz fr v ys->aj (vw s.H) T=some q->q=(ys.length,v.sz)/\∀g o,J T=some (g,o)->qqw w (YY (da J') U fr) v ys g o:=by
   intro T fr v ys q hT hq;cases T with
   |o t' =>cases hT
   |r t' i f=>
    by_cases e:t' =t
    ·subst e;simp only[qh4,W5,WQ,jnu]at hT;split at hT
     ·rename_i v0 ys0 hin;simp only[Ac.fz.injEq]at hT;obtain⟨rfl,rfl,hxs⟩:=hT;have hxs:=HU hxs;subst hxs;have hi:i<xs.length:=by
       rcases Wz i xs.length with h' |h'
       ·exact h'
       ·simp only[aj,vw,ho,vwR,Md.isOwn,show¬i<xs.length by omega,and_false,KI,KN]at hq;cases hq
      simp only[aj,qih ho rfl hi hin,Wd,Wb]at hq;exact⟨hq.symm,fun g o hg=>jca h.hr ho rfl (qv2 hX true) hi hin hg (fun hY=>hY.elim (hgX i f g o hg) (fun e=>(h.hr.own _ _ _ hg).1 e.2))⟩
     ·cases hT
    ·rw[jkd (T:= .r t' i f) e]at hT;cases hT
  have hIo:aj (vw ((cx (qh4 u xs t) s.H).set t (.arr ty (.fz true) its u xs))) (.o t)=aj (vw s.H) (.o t):=by simp only[aj,hVo,az ho,Wd]
  have hto:∀T T' q,(qh4 u xs t T= .id/\T' =T)\/qh4 u xs t T= .to T' ->aj (vw s.H) T=some q->aj (vw ((cx (qh4 u xs t) s.H).set t (.arr ty (.fz true) its u xs))) T' =some q/\∀g o,J T=some (g,o)->J' T' =some (g,o):=by
   intro T T' q ht hq;rcases ht with⟨e,rfl⟩|e
   ·rcases hid T' e with hne|rfl
    ·exact⟨by rw[qda (hV T' hne)];exact hq,fun g o hg=>by rw[hJne T' hne];exact hg⟩
    ·exact⟨by rw[hIo];exact hq,fun g o hg=>hg⟩
   ·exact absurd e (hnto T T')
  have hm:Mv (qh4 u xs t) (gr U (vw s.H) w J) (gr U (vw ((cx (qh4 u xs t) s.H).set t (.arr ty (.fz true) its u xs))) w J'):=by
   refine⟨Wg _,fun b _ hx hx' =>hx (hX b hx'),fun _ _ _ hu=>hu,fun _ _ _=>rfl,fun T T' q ht hq=> ?_,hfz⟩;obtain⟨h1,h2⟩:=hto T T' q ht hq;exact⟨h1,fun g o hg=>⟨h2 g o hg,fun cur e' hh=>⟨cur,hh,rfl⟩⟩⟩
  have hre:=h.re (θ:=qh4 u xs t) (S' :=bu (sbS (qh4 u xs t) s.S)) (V' :=vw ((cx (qh4 u xs t) s.H).set t (.arr ty (.fz true) its u xs))) (J' :=J') (fun t' =>fv _ _ t') hto hfz (fun T g o hT=>⟨T,hsub T _ hT⟩)
   (fun T T' g o o' h1 h2=>h.hr.inj T T' g o o' (hsub T _ h1) (hsub T' _ h2)) (fun T p hp=>by
    by_cases e:T.ob=t
    ·cases T with
     |o t' =>simp only[TG.ob]at e;subst e;exact⟨_,hVo⟩
     |r t' i f=>simp only[TG.ob]at e;subst e;rw[hJr]at hp;cases hp
    ·rw[hJne T e]at hp;obtain⟨v,hv⟩:=h.hr.dom T p hp;exact⟨_,by rw[hV T e,hv];rfl⟩) (fun t' _=>rfl) (fun hm T v hv=>by
    by_cases e:T.ob=t
    ·cases T with
     |o t' =>
      simp only[TG.ob]at e;subst e;rw[hVo]at hv;cases hv;refine(h.hr.obj _ _ (az ho)).mv hm (fun _ _ _=>rfl) rfl rfl rfl (fun i f hi hf y hV' => ?_) (fun h0 _=>HZ.any (fun i f=>qbe (t:=t') (md:= .own) (xs:=xs) h0) (fun i f=>qbe (t:=t') (md:= .fz true) (xs:=xs) h0));have hC:=jyy (Y:=YY (da J') U true) h.hr ho (qv2 hX true) (fun i f g o hr hY=>hY.elim (hgX i f g o hr) (fun e=>(h.hr.own _ _ _ hr).1 e.2)) hi hf hV';have:=(Ty.C_iff (gr U (vw ((cx (qh4 u xs t') s.H).set t' (.arr ty (.fz true) its u xs))) w J') true u _ f y hf).1 hC;have e2:b7 t' (.fz true) u xs i f=(u.cells true (xs.getD i u.dft)).getD f .any:=by
       unfold b7;simp only[Md.fr];split<;>simp_all
      show VR _ (b7 t' (.fz true) u xs i f) y;rw[e2];exact this
     |r t' i f=>simp only[TG.ob]at e;subst e;rw[hVr]at hv;cases hv
    ·rw[hV T e]at hv;cases hq:vw s.H T with
     |none=>rw[hq]at hv;cases hv
     |some v0=>
      rw[hq]at hv;simp only[Wd,Wb]at hv;subst hv;rw[hJne T e];exact OR.re hm (h.hr.obj T v0 hq) rfl rfl rfl (fun i f _ _=> .inl rfl) (fun _ _=>HZ.of hm fun _ _=>rfl))
  exact⟨J',hre,fun A v hv=>VR.mv hm A v hv⟩
 ·exact q6v.nil s
theorem j2e{Hv H:List TOb}(h:HLe F Hv H)(t:Nat)(ob:List TOb):HLe F (jt Hv (jau ob t)) (jt H (jau ob t)):=(h.sb _).set t .gone (.inr rfl)
theorem jke{Hv H:List TOb}(h:HLe F Hv H)(t:Nat):HLe F (jt Hv (qeg Hv t)) (jt H (qeg Hv t)):=by
 unfold qeg;split
 ·rename_i ho;exact(h.sb _).set t _ (.inl (by rw[c7];exact(Wh.1 ho).1))
 ·exact h
theorem qjs{kp:List Bool}(hK:∀t,bt kp t=false->K t=false):∀(l:List TG) (Hv:List TOb) (s:TS) (δ:List St),HLe F Hv s.H->ov kp l Hv=some δ->q6v U w0 J0 K N s δ/\HLe F (jt Hv δ) (jt s.H δ)
 |[],Hv,s,δ,hl,h=>by
  simp only[ov,Wb]at h;subst h;exact⟨q6v.nil s,hl⟩
 | .o t::l,Hv,s,δ,hl,h=>by
  simp only[ov]at h;obtain⟨hb,h⟩:=ai h;split at h
  ·rename_i δ1 h1;cases h;have hl1:=j2e hl t Hv;obtain⟨g1,g2⟩:=qjs hK l (jt Hv (jau Hv t)) (s.aps (jau Hv t)) δ1 (by rw[qol];exact hl1) h1;refine⟨(j9x hl (hK t (by simpa using hb))).app g1,?_⟩;rw[ut,ut,<-qol s];exact g2
  ·cases h
 | .r t i f::l,Hv,s,δ,hl,h=>by
  simp only[ov]at h;obtain⟨hb,h⟩:=ai h;split at h
  ·rename_i δ1 h1;cases h;have hl1:=jke hl t;obtain⟨g1,g2⟩:=qjs hK l (jt Hv (qeg Hv t)) (s.aps (qeg Hv t)) δ1 (by rw[qol];exact hl1) h1;refine⟨(jkf hl).app g1,?_⟩;rw[ut,ut,<-qol s];exact g2
  ·cases h
end
end Go.K
namespace Go.K
open Go.M Go.RowKit
mutual
theorem TV.sb_sb(θ1 θ2 θ3:TG->Ac)(h:∀T,θ3 T=match θ1 T with| .id=>θ2 T| .kill=> .kill| .to T' =>(match θ2 T' with| .id=> .to T' |a=>a)| .fz fr u xs=> .fz fr u xs):∀(A:TV),(A.sb θ1).sb θ2=A.sb θ3
 | .any=>rfl
 | .int _ _=>rfl
 | .bool _=>rfl
 | .val _=>rfl
 | .e0=>rfl
 | .sl _ _ _=>rfl
 | .rptr _ _ _ _ _=>rfl
 | .own T=>by
  simp only[TV.sb,h T];cases θ1 T with
  |id=>rfl
  |kill=>rfl
  |to T' =>simp only[TV.sb];cases θ2 T' <;>rfl
  |fz=>rfl
 | .ownS T off n=>by
  simp only[TV.sb,h T];cases θ1 T with
  |id=>rfl
  |kill=>rfl
  |to T' =>simp only[TV.sb];cases θ2 T' <;>rfl
  |fz=>rfl
 | .ptr T i f=>by
  simp only[TV.sb,h T];cases θ1 T with
  |id=>rfl
  |kill=>rfl
  |to T' =>simp only[TV.sb];cases θ2 T' <;>rfl
  |fz=>rfl
 | .dm _ _ _ _=>rfl
 | .mp T=>by
  simp only[TV.sb,h T];cases θ1 T with
  |id=>rfl
  |kill=>rfl
  |to T' =>simp only[TV.sb];cases θ2 T' <;>rfl
  |fz=>rfl
 | .fn f cs=>by simp only[TV.sb,TV.sbL_sbL θ1 θ2 θ3 h cs]
 | .agg cs=>by simp only[TV.sb,TV.sbL_sbL θ1 θ2 θ3 h cs]
 | .tup cs=>by simp only[TV.sb,TV.sbL_sbL θ1 θ2 θ3 h cs]
 | .cond c a=>by simp only[TV.sb,TV.sb_sb θ1 θ2 θ3 h a]
 | .nl _ a=>by simp only[TV.sb,TV.sb_sb θ1 θ2 θ3 h a]
theorem TV.sbL_sbL(θ1 θ2 θ3:TG->Ac)(h:∀T,θ3 T=match θ1 T with| .id=>θ2 T| .kill=> .kill| .to T' =>(match θ2 T' with| .id=> .to T' |a=>a)| .fz fr u xs=> .fz fr u xs):∀(cs:List TV),TV.sbL θ2 (TV.sbL θ1 cs)=TV.sbL θ3 cs
 |[]=>rfl
 |v::l=>by simp only[TV.sbL,TV.sb_sb θ1 θ2 θ3 h v,TV.sbL_sbL θ1 θ2 θ3 h l]
end
theorem Mv.kill{G:Gr}{θ:TG->Ac}(h:∀T,θ T= .id\/θ T= .kill):Mv θ G G:=by
 refine⟨Wg _,fun _ _ hx=>hx,fun _ _ _ hu=>hu,fun _ _ _=>rfl,fun T T' q ht hq=> ?_,fun T fr u xs q e=> ?_⟩
 ·rcases ht with⟨_,rfl⟩|ht
  ·exact⟨hq,fun g o hg=>⟨hg,fun cur e hh=>⟨cur,hh,rfl⟩⟩⟩
  ·rcases h T with e|e<;>rw[e]at ht<;>cases ht
 ·rcases h T with e' |e' <;>rw[e']at e<;>cases e
theorem qo3(t:Nat)(T:TG):ba t T= .id\/ba t T= .kill:=by
 cases T with
 |o t' =>exact .inl rfl
 |r t' _ _=>simp only[ba];cases Nat.beq t' t<;>simp
theorem q4b(t:Nat):bi t=cb (.o t):=by
 funext T;cases T with
 |o t' =>
  by_cases e:t' =t
  ·subst e;simp[bi,cb,W5]
  ·simp[bi,cb,qnf e,e]
 |r _ _ _=>simp[bi,cb]
section
variable {U : Nat -> Prop} {w0 : World} {J0 : Pl} {K : Nat -> Bool} {N : Nat} {S : Nat -> TV} {V : TG -> Option Vw} {a : Act} {w : World} {J : Pl}
theorem qki{G:Gr}(v:Vw):v.sz=0->v.n=0->HZ G G v v:=fun _ _=>⟨⟨fun _=> .id,fun _ _=>(TV.sb_id _).symm⟩,fun _ _ hu=>hu⟩
theorem ARel.tell(h:ARel U w0 J0 K N S V a w J){S' :Nat->TV}{V' :TG->Option Vw}(hI:aj V' =aj V)(hS:∀t v,VR (gr U V w J) (S t) v->VR (gr U V w J) (S' t) v)
  (hV:∀T v',V' T=some v' ->∃v,V T=some v/\v'.ty=v.ty/\(∀i f,i<v.n->f<v.sz->∀y,VR (gr U V w J) (v.cs i f) y->VR (gr U V w J) (v'.cs i f) y)/\(v.sz=0->v.n=0->HZ (gr U V w J) (gr U V w J) v v')):ARel U w0 J0 K N S' V' a w J:=by
 have hG:gr U V' w J=gr U V w J:=by simp only[gr,hI]
 refine⟨h.defers,h.len,fun t ht=> ?_,h.hr.inj,fun T p hp=> ?_,fun T v' hv' => ?_,h.hr.own,h.hr.os,h.hr.tape,h.hr.output,h.hr.size,h.hr.blk,h.hr.keep,h.hr.ksz,h.hr.ulow,h.hr.tb0⟩
 ·obtain⟨v,hv,hVv⟩:=h.slot t ht;exact⟨v,hv,by rw[hG];exact hS t v hVv⟩
 ·obtain⟨v,hv⟩:=h.hr.dom T p hp;have:aj V' T=aj V T:=by rw[hI]
  simp only[aj,hv,Wd]at this;cases hq:V' T with
  |none=>rw[hq]at this;cases this
  |some v' =>exact⟨v',rfl⟩
 ·obtain⟨v,hv,hty,hc,hz⟩:=hV T v' hv';have hi:aj V' T=aj V T:=by rw[hI]
  simp only[aj,hv,hv',Wd,Wb,Wj]at hi;rw[hG];have ho:=h.hr.obj T v hv;cases hp:J T with
  |none=>rw[hp]at ho;simp only[OR]at ho⊢;omega
  |some p=>
   obtain⟨g,o⟩:=p;rw[hp]at ho;rcases ho with⟨hp0,cur,c,hh,hs,hle,hcell⟩|⟨h1,h2,es,k,hh,hm⟩
   ·refine .inl ⟨by omega,cur,c,by rw[hty];exact hh,by rw[hi.2];exact hs,by omega,fun i f hi' hf' => ?_⟩;rw[hi.2]at hf' ⊢;obtain⟨u,hu,h1,hVu⟩:=hcell i f (by omega) hf';exact⟨u,hu,h1,hc i f (by omega) hf' u hVu⟩
   ·obtain⟨⟨θ,hθ⟩,hv1⟩:=hz h1 h2;exact .inr ⟨by omega,by omega,es,k,hh,hm.sb hθ hv1⟩
theorem HR.info_lt{V:TG->Option Vw}{T:TG}{q:Nat×Nat}(h:aj V T=some q):∃v,V T=some v/\q=(v.n,v.sz):=by
 simp only[aj]at h;cases hv:V T with
 |none=>rw[hv]at h;cases h
 |some v=>rw[hv]at h;simp only[Wd,Wb]at h;exact⟨v,rfl,h.symm⟩
theorem VR.fr{G:Gr}{fr fr' :Bool}(hf:fr' =true->fr=true){t:Ty}{xs:List t.den}{v:Value}(h:VR G (.sl fr t xs) v):VR G (.sl fr' t xs) v:=
 Ty.C_low (w:=G.w) (w' :=G.w) ⟨Wg _,fun b _ hY hY' =>hY (hY'.elim .inl fun e=> .inr ⟨hf e.1,e.2⟩),fun _ _ _=>rfl⟩ (.slice t) xs 0 v h
theorem Ty.C_fr{G:Gr}{fr fr' :Bool}(hf:fr' =true->fr=true){t:Ty}{x:t.den}{f:Nat}{v:Value}(h:Ty.C G.w (YY G.X G.U fr) t x f v):Ty.C G.w (YY G.X G.U fr') t x f v:=
 Ty.C_low (w:=G.w) (w' :=G.w) ⟨Wg _,fun b _ hY hY' =>hY (hY'.elim .inl fun e=> .inr ⟨hf e.1,e.2⟩),fun _ _ _=>rfl⟩ t x f v h
theorem Ty.C_fl{G:Gr}{fr fr' :Bool}{t:Ty}(hf:fr' =true->fr=true\/t.flat=true){x:t.den}{f:Nat}{v:Value}(h:Ty.C G.w (YY G.X G.U fr) t x f v):Ty.C G.w (YY G.X G.U fr') t x f v:=by
 cases hfl:t.flat with
 |true=>exact Ty.C_flat t x f v hfl h
 |false=>exact Ty.C_fr (fun e=>(hf e).elim (fun e=>e) (fun e=>by rw[hfl]at e;cases e)) h
theorem jed(G:Gr)(t:Ty)(cs:List TV)(x:List t.den)(fr:Bool)(r:List TV)(h:jit t cs=some (x,fr,r)):r=cs.drop 1/\1<=cs.length/\∀y,VR G (cs.getD 0 .any) y->Ty.C G.w (YY G.X G.U fr) (.slice t) x 0 y:=by
 unfold jit at h;split at h
 ·rename_i fr' t' xs r';split at h
  ·rename_i he _;subst he;cases h;exact⟨rfl,by simp,fun y hy=>hy⟩
  ·cases h
 ·cases h;refine⟨rfl,by simp,fun y hy=> ?_⟩;have hy:y= .slice none 0 0:=hy;subst hy;exact⟨none,0,rfl,Wg _,W7 _,fun h0=>by simp at h0⟩
 ·cases h;refine⟨rfl,by simp,fun y hy=> ?_⟩;obtain⟨b,rfl⟩:=hy;exact⟨b,0,rfl,Wg _,W7 _,fun h0=>by simp at h0⟩
 ·cases h
mutual
theorem Ty.pack_ok(G:Gr):∀(t:Ty) (cs:List TV) (x:t.den) (fr:Bool) (r:List TV),t.pack cs=some (x,fr,r)->r=cs.drop t.sz/\t.sz<=cs.length/\∀f,f<t.sz->∀y,VR G (cs.getD f .any) y->Ty.C G.w (YY G.X G.U fr) t x f y
 | .int k,cs,x,fr,r,h=>by
  unfold Ty.pack at h;split at h
  ·split at h
   ·rename_i hk;subst hk;cases h;refine⟨rfl,by simp[Ty.sz],fun f hf y hy=> ?_⟩;obtain rfl:f=0:=by simp[Ty.sz]at hf;omega
    exact hy
   ·cases h
  ·cases h
 | .bool,cs,x,fr,r,h=>by
  unfold Ty.pack at h;split at h
  ·cases h;refine⟨rfl,by simp[Ty.sz],fun f hf y hy=> ?_⟩;obtain rfl:f=0:=by simp[Ty.sz]at hf;omega
   exact hy
  ·cases h
 | .str,cs,x,fr,r,h=>by
  unfold Ty.pack at h;split at h
  ·cases h;refine⟨rfl,by simp[Ty.sz],fun f hf y hy=> ?_⟩;obtain rfl:f=0:=by simp[Ty.sz]at hf;omega
   exact hy
  ·cases h
 | .slice t,cs,x,fr,r,h=>by
  obtain⟨h1,h2,h3⟩:=jed G t cs x fr r h;refine⟨h1,h2,fun f hf y hy=> ?_⟩;obtain rfl:f=0:=by simp[Ty.sz]at hf;omega
  exact h3 y hy
 | .struct l,cs,x,fr,r,h=>TyL.pack_ok G l cs x fr r h
 | .tree l m,cs,x,fr,r,h=>by
  unfold Ty.pack at h;split at h
  ·rename_i x1 f1 r1 h1;split at h
   ·rename_i y1 g1 r2 h2;split at h
    ·rename_i z1 k1 r3 h3;cases h;obtain⟨e1,e2,e3⟩:=TyL.pack_ok G l cs x1 f1 r1 h1;obtain⟨e4,e5,e6⟩:=jed G _ r1 y1 g1 r2 h2;obtain⟨e7,e8,e9⟩:=TyL.pack_ok G m r2 z1 k1 r h3;subst e1;subst e4;have low:∀{a b:Bool},(b=true->a=true)->Low G.w (YY G.X G.U a) G.w (YY G.X G.U b):=fun hab=>⟨Wg _,fun b _ hY hY' =>hY (hY'.elim .inl fun e=> .inr ⟨hab e.1,e.2⟩),fun _ _ _=>rfl⟩
     refine⟨by rw[e7];simp only[List.drop_drop];congr 1;simp[Ty.sz];omega,by simp[Ty.sz]at e5 e8⊢;omega,fun f hf y hy=> ?_⟩;refine q86.2 ?_;split
     ·rename_i hlt;exact TyL.C_low (low fun e=>by simp at e;exact e.1) l x1 _ y (e3 f hlt y hy)
     ·split
      ·rename_i e;subst e;refine Ty.C_low (low fun e=>by simp at e;exact e.2.1) _ _ _ _ (e6 y ?_);simpa only[Wa,WI,KU]using hy
      ·rename_i hge hne;refine TyL.C_low (low fun e=>by simp at e;exact e.2.2) m z1 _ y (e9 _ (by simp[Ty.sz]at hf;omega) y ?_);simp only[Wa,WI]at hy⊢;rw[show l.sz+(1+(f-(l.sz+1)))=f by omega];exact hy
    ·cases h
   ·cases h
  ·cases h
theorem TyL.pack_ok(G:Gr):∀(l:TyL) (cs:List TV) (x:l.den) (fr:Bool) (r:List TV),l.pack cs=some (x,fr,r)->r=cs.drop l.sz/\l.sz<=cs.length/\∀f,f<l.sz->∀y,VR G (cs.getD f .any) y->TyL.C G.w (YY G.X G.U fr) l x f y
 | .nil,cs,x,fr,r,h=>by
  unfold TyL.pack at h;cases h;exact⟨rfl,W7 _,fun f hf=>by simp[TyL.sz]at hf⟩
 | .cons t l,cs,x,fr,r,h=>by
  unfold TyL.pack at h;split at h
  ·rename_i x1 f1 r1 h1;split at h
   ·rename_i y1 g1 r2 h2;cases h;obtain⟨e1,e2,e3⟩:=Ty.pack_ok G t cs x1 f1 r1 h1;obtain⟨e4,e5,e6⟩:=TyL.pack_ok G l r1 y1 g1 r h2;subst e1;refine⟨by rw[e4,List.drop_drop];rfl,by simp[TyL.sz]at e5⊢;omega,fun f hf y hy=> ?_⟩;show if f<t.sz then Ty.C G.w (YY G.X G.U (f1&&g1)) t x1 f y else TyL.C G.w (YY G.X G.U (f1&&g1)) l y1 (f-t.sz) y
    split
    ·rename_i hlt;exact Ty.C_fr (fun e=>by simp at e;exact e.1) (e3 f hlt y hy)
    ·rename_i hge;refine TyL.C_low (w:=G.w) (w' :=G.w) ⟨Wg _,fun b _ hY hY' =>hY (hY'.elim .inl fun e=> .inr ⟨by have:=e.1;simp at this;exact this.2,e.2⟩),fun _ _ _=>rfl⟩ l y1 _ y (e6 (f-t.sz) (by simp[TyL.sz]at hf;omega) y ?_);simp only[Wa,WI]at hy⊢;rw[show t.sz+(f-t.sz)=f by omega];exact hy
   ·cases h
  ·cases h
end
theorem Ty.pack1_ok{G:Gr}{t:Ty}{cs:List TV}{x:t.den}{fr:Bool}(h:t.pack1 cs=some (x,fr)):cs.length=t.sz/\∀f,f<t.sz->∀y,VR G (cs.getD f .any) y->Ty.C G.w (YY G.X G.U fr) t x f y:=by
 unfold Ty.pack1 at h;split at h
 ·rename_i x' f' hp;cases h;obtain⟨e1,e2,e3⟩:=Ty.pack_ok G t cs x fr [] hp;have:(cs.drop t.sz).length=0:=by rw[<-e1];rfl
  simp at this;exact⟨by omega,e3⟩
 ·cases h
theorem Ty.packN_ok{G:Gr}{t:Ty}:∀{n:Nat} {cs:List TV} {xs:List t.den} {fr:Bool},t.packN n cs=some (xs,fr)->xs.length=n/\cs.length=n*t.sz/\∀i f,i<n->f<t.sz->∀y,VR G (cs.getD (i*t.sz+f) .any) y->Ty.C G.w (YY G.X G.U fr) t (xs.getD i t.dft) f y
 |0,cs,xs,fr,h=>by
  unfold Ty.packN at h;split at h
  ·cases h;exact⟨rfl,by simp,fun i f hi=>by omega⟩
  ·cases h
  ·rename_i hh;cases hh
 |n+1,cs,xs,fr,h=>by
  unfold Ty.packN at h;split at h
  ·rename_i x f1 r1 h1;split at h
   ·rename_i ys g1 h2;cases h;obtain⟨e1,e2,e3⟩:=Ty.pack_ok G t cs x f1 r1 h1;obtain⟨e4,e5,e6⟩:=Ty.packN_ok (G:=G) (n:=n) h2;subst e1;refine⟨by simp[e4],by simp at e5;rw[WM];omega,fun i f hi hf y hy=> ?_⟩;cases i with
    |zero=>
     simp only[Nat.zero_mul,WR]at hy;exact Ty.C_fr (fun e=>by simp at e;exact e.1) (e3 f hf y hy)
    |succ i=>
     refine Ty.C_fr (fr:=g1) (fun e=>by simp at e;exact e.2) (e6 i f (by omega) hf y ?_);simp only[Wa,WI]at hy⊢;rw[show t.sz+(i*t.sz+f)=(i+1)*t.sz+f by rw[WM];omega];exact hy
   ·cases h
  ·cases h
def w9(G:Gr)(sz m:Nat)(src:Nat->Nat->TV)(v:Value):Prop:=
 ∃sa c,v= .slice sa m c/\(0<m->∃b o,sa=some ⟨b,o,none⟩/\∀i f,i<m->f<sz->∃y,G.w.cell? ⟨b,o+(i*sz+f),none⟩=some y/\y.oneCell' =true/\VR G (src i f) y)
theorem w9.mono{G:Gr}{sz m:Nat}{src src' :Nat->Nat->TV}{v:Value}(h:w9 G sz m src v)(hs:∀i f,i<m->f<sz->∀y,VR G (src i f) y->VR G (src' i f) y):w9 G sz m src' v:=by
 obtain⟨sa,c,hv,hc⟩:=h;refine⟨sa,c,hv,fun h0=> ?_⟩;obtain⟨b,o,ha,hcell⟩:=hc h0;refine⟨b,o,ha,fun i f hi hf=> ?_⟩;obtain⟨y,hy,h1,hV⟩:=hcell i f hi hf;exact⟨y,hy,h1,hs i f hi hf y hV⟩
theorem w9.of_sl{G:Gr}{fr:Bool}{u:Ty}{ys:List u.den}{v:Value}(h:VR G (.sl fr u ys) v):w9 G u.sz ys.length (fun i f=>(u.cells fr (ys.getD i u.dft)).getD f .any) v:=by
 obtain⟨a,c,hv,_,_,hr⟩:=h;refine⟨a,c,hv,fun h0=> ?_⟩;obtain⟨b,o,ha,_,_,hcell⟩:=hr h0;refine⟨b,o,ha,fun i f hi hf=> ?_⟩;obtain⟨y,hy,h1,hC⟩:=hcell i f hi hf;exact⟨y,hy,h1,(Ty.C_iff G fr u _ f y hf).1 hC⟩
theorem w9.of_row{G:Gr}{T:TG}{v:Vw}(ho:OR G (G.J T) v){off m:Nat}(hm:off+m<=v.n){x:Value}(hs:SlR G.w G.J T v.sz off m x):w9 G v.sz m (fun i f=>v.cs (off+i) f) x:=by
 rcases hs with⟨a,rfl,rfl⟩|⟨g,o,c,cur,e,hJ,rfl,_⟩
 ·exact⟨a,0,rfl,fun h0=>by omega⟩
 ·rw[hJ]at ho;refine⟨_,c,rfl,fun h0=>⟨g,o+off*v.sz,rfl,fun i f hi hf=> ?_⟩⟩;obtain⟨y,hy,h1,hV⟩:=ho.at_ (i:=off+i) (f:=f) (by omega) hf;refine⟨y,?_,h1,hV⟩;rw[<-hy];congr 2;rw[WM];omega
theorem w9.news{G:Gr}{sz m:Nat}{src:Nat->Nat->TV}{v:Value}(h:w9 G sz m src v)(hpos:0<sz):
  ∃(sa:Option Addr) (c:Nat) (news:List Value),v= .slice sa m c/\news.length=m*sz/\(0<m->∃ad,sa=some ad/\∀j u,news[j]? =some u->G.w.cell? (ad.add j)=some u)/\(∀u∈news,u.oneCell' =true)/\
   ∀i f,i<m->f<sz->∃u,news[i*sz+f]? =some u/\VR G (src i f) u:=by
 obtain⟨sa,c,rfl,hr⟩:=h;rcases HD m with hm|hm
 ·subst hm;exact⟨sa,c,[],rfl,by simp,fun h0=>by omega,fun u hu=>by simp at hu,fun i f hi=>by omega⟩
 ·obtain⟨b,o,rfl,hc⟩:=hr hm;have hj:∀j,j<m*sz->∃u,G.w.cell? ⟨b,o+j,none⟩=some u/\u.oneCell' =true:=by
   intro j hj;have hmod:j % sz<sz:=Nat.mod_lt _ hpos;have hd:j/sz<m:=(Nat.div_lt_iff_lt_mul hpos).2 hj;obtain⟨u,hu,h1,_⟩:=hc (j/sz) (j % sz) hd hmod;exact⟨u,by rw[<-hu,Nat.div_add_mod'],h1⟩
  refine⟨_,c,(List.range (m*sz)).map fun j=>(G.w.cell? ⟨b,o+j,none⟩).getD undef,rfl,by simp,fun _=>⟨_,rfl,fun j u hu=> ?_⟩,fun u hu=> ?_,fun i f hi hf=> ?_⟩
  ·have hlt:j<m*sz:=by
    rcases Wz j (m*sz)with h' |h'
    ·exact h'
    ·rw[Wp (by simpa using h')]at hu;cases hu
   rw[W6,HJ hlt]at hu;simp only[Wd,Wb]at hu;obtain⟨x,hx,_⟩:=hj j hlt;rw[hx]at hu;simp only[WX]at hu;subst hu;rw[KL,hx]
  ·obtain⟨j,hjm,rfl⟩:=WG.1 hu;obtain⟨x,hx,h1⟩:=hj j (Kk.1 hjm);rw[hx];exact h1
  ·obtain⟨u,hu,_,hR⟩:=hc i f hi hf;have hlt:i*sz+f<m*sz:=by
    have:(i+1)*sz<=m*sz:=WC _ hi;rw[WM]at this;omega
   exact⟨u,by rw[W6,HJ hlt];simp[hu],hR⟩
end
end Go.K
namespace Go.K
open Go.M Go.RowKit
theorem ve{θ:TG->Ac}{H:List TOb}{t:Nat}{ty:TypeId}{md:Md}{its:List TypeId}{u:Ty}{xs:List u.den}(h:H[t]? =some (.arr ty md its u xs)):(cx θ H)[t]? =some (.arr ty md its u xs):=by
 rw[ij,h];rfl
theorem zee{H H' :List TOb}{T:TG}(h:H'[T.ob]? =H[T.ob]?):vw H' T=vw H T:=by
 cases T with
 |o t=>simp only[TG.ob]at h;simp only[vw,h]
 |r t i f=>simp only[TG.ob]at h;simp only[vw,h]
theorem qg9(θ:TG->Ac)(H:List TOb):aj (vw (cx θ H))=aj (vw H):=by
 funext T;cases T with
 |o t=>
  simp only[aj,vw,ij];cases H[t]? with
  |none=>rfl
  |some ob=>cases ob<;>rfl
 |r t i f=>
  simp only[aj,vw,ij];cases H[t]? with
  |none=>rfl
  |some ob=>cases ob<;>rfl
section
variable {U : Nat -> Prop} {w0 : World} {J0 : Pl} {K : Nat -> Bool} {N : Nat}
theorem dr.kills{s:TS}{a:Act}{w:World}{J:Pl}(h:dr U w0 J0 K N s a w J){θ:TG->Ac}(hθ:∀T,θ T= .id\/θ T= .kill):dr U w0 J0 K N ⟨sbS θ s.S,cx θ s.H⟩ a w J:=by
 have hk:∀A v,VR (gr U (vw s.H) w J) A v->VR (gr U (vw s.H) w J) (A.sb θ) v:=fun A v hv=>VR.mv (Mv.kill hθ) A v hv
 refine ARel.tell h (qg9 θ s.H) (fun t v hv=>by rw[fv];exact hk _ v hv) (fun T v' hv' => ?_);cases T with
 |o t=>
  simp only[vw,ij]at hv' ⊢;cases hq:s.H[t]? with
  |none=>rw[hq]at hv';cases hv'
  |some ob=>
   rw[hq]at hv';cases ob with
   |arr ty md its u xs=>exact⟨v',hv',rfl,fun i f _ _ y hy=>hy,qki v'⟩
   |mp kt vt es=>exact⟨v',hv',rfl,fun i f _ _ y hy=>hy,qki v'⟩
   |mo kt u ety es h=>exact⟨v',hv',rfl,fun i f _ _ y hy=>hy,qki v'⟩
   |cs ty sz n l=>
    simp only[Wd,TOb.sb,vwO,Wb]at hv';subst hv';exact⟨_,rfl,rfl,fun i f _ _ y hy=>by simp only[TV.sbL_at];exact hk _ y hy,fun _ _=>⟨⟨θ,fun i f=>TV.sbL_at θ l _⟩,fun i y hy=>by simp only[TV.sbL_at];exact hk _ y hy⟩⟩
   |gone=>cases hv'
 |r t i f=>
  simp only[vw,ij]at hv' ⊢;cases hq:s.H[t]? with
  |none=>rw[hq]at hv';cases hv'
  |some ob=>
   rw[hq]at hv';cases ob with
   |arr ty md its u xs=>exact⟨v',hv',rfl,fun i f _ _ y hy=>hy,qki v'⟩
   |cs ty sz n l=>cases hv'
   |mp kt vt es=>cases hv'
   |mo kt u ety es h=>exact⟨v',hv',rfl,fun i f _ _ y hy=>hy,qki v'⟩
   |gone=>cases hv'
theorem ns(t:Nat)(fr:Bool)(u:Ty)(xs:List u.den)(i f:Nat):b7 t (.fz fr) u xs i f=(u.cells fr (xs.getD i u.dft)).getD f .any:=by
 unfold b7;simp only[Md.fr];split<;>simp_all
mutual
theorem Ty.cells_slice(a b:Bool):∀(t:Ty) (x y:t.den) (f:Nat),(∃v ys,(t.cells a x).getD f .any= .sl a v ys)->∃v zs,(∃ys,(t.cells a x).getD f .any= .sl a v ys)/\(t.cells b y).getD f .any= .sl b v zs
 | .int k,x,y,f,h=>by obtain⟨v,ys,h⟩:=h;cases f<;>simp[Ty.cells]at h
 | .bool,x,y,f,h=>by obtain⟨v,ys,h⟩:=h;cases f<;>simp[Ty.cells]at h
 | .str,x,y,f,h=>by obtain⟨v,ys,h⟩:=h;cases f<;>simp[Ty.cells]at h
 | .slice t,x,y,f,h=>by
  obtain⟨v,ys,h⟩:=h;cases f with
  |zero=>exact⟨t,y,⟨x,rfl⟩,rfl⟩
  |succ f=>simp[Ty.cells]at h
 | .struct l,x,y,f,h=>TyL.cells_slice a b l x y f h
 | .tree l m,x,y,f,h=>by
  simp only[qyz]at h⊢;by_cases h1:f<l.sz
  ·simp only[if_pos h1]at h⊢;exact TyL.cells_slice a b l _ _ f h
  ·by_cases h2:f=l.sz
   ·simp only[if_neg h1,if_pos h2]at h⊢;exact⟨.tree l m,Tre.ks y,⟨Tre.ks x,rfl⟩,rfl⟩
   ·simp only[if_neg h1,if_neg h2]at h⊢;exact TyL.cells_slice a b m _ _ _ h
theorem TyL.cells_slice(a b:Bool):∀(l:TyL) (x y:l.den) (f:Nat),(∃v ys,(l.cells a x).getD f .any= .sl a v ys)->∃v zs,(∃ys,(l.cells a x).getD f .any= .sl a v ys)/\(l.cells b y).getD f .any= .sl b v zs
 | .nil,x,y,f,h=>by obtain⟨v,ys,h⟩:=h;simp[TyL.cells]at h
 | .cons t l,x,y,f,h=>by
  simp only[TyL.cells,Wa,Hg,Ty.cells_len]at h⊢;split
  ·rename_i hlt;rw[if_pos hlt]at h;have:=Ty.cells_slice a b t x.1 y.1 f (by simpa[Wa]using h);simpa[Wa]using this
  ·rename_i hge;rw[if_neg hge]at h;have:=TyL.cells_slice a b l x.2 y.2 (f-t.sz) (by simpa[Wa]using h);simpa[Wa]using this
end
theorem jec{t:Ty}{cs:List TV}{x:List t.den}{fr:Bool}{r:List TV}(h:jit t cs=some (x,fr,r))(b:Bool):
  TV.sl b t x=match cs.getD 0 .any with| .sl _ v ys=> .sl b v ys| .val (.slice none 0 0)=> .sl b t x| .e0=> .sl b t x|A=>A:=by
 unfold jit at h;split at h
 ·split at h
  ·rename_i he _;subst he;cases h;rfl
  ·cases h
 ·cases h;rfl
 ·cases h;rfl
 ·cases h
mutual
theorem Ty.pack_cells:∀(t:Ty) (cs:List TV) (x:t.den) (fr:Bool) (r:List TV),t.pack cs=some (x,fr,r)->∀f,f<t.sz->∀b,
  (t.cells b x).getD f .any=match cs.getD f .any with| .sl _ v ys=> .sl b v ys| .val (.slice none 0 0)=>(t.cells b x).getD f .any| .e0=>(t.cells b x).getD f .any|A=>A
 | .int k,cs,x,fr,r,h,f,hf,b=>by
  obtain rfl:f=0:=by simp[Ty.sz]at hf;omega
  unfold Ty.pack at h;split at h
  ·split at h
   ·rename_i hk;subst hk;cases h;rfl
   ·cases h
  ·cases h
 | .bool,cs,x,fr,r,h,f,hf,b=>by
  obtain rfl:f=0:=by simp[Ty.sz]at hf;omega
  unfold Ty.pack at h;split at h
  ·cases h;rfl
  ·cases h
 | .str,cs,x,fr,r,h,f,hf,b=>by
  obtain rfl:f=0:=by simp[Ty.sz]at hf;omega
  unfold Ty.pack at h;split at h
  ·cases h;rfl
  ·cases h
 | .slice t,cs,x,fr,r,h,f,hf,b=>by
  obtain rfl:f=0:=by simp[Ty.sz]at hf;omega
  exact jec h b
 | .struct l,cs,x,fr,r,h,f,hf,b=>TyL.pack_cells l cs x fr r h f hf b
 | .tree l m,cs,x,fr,r,h,f,hf,b=>by
  unfold Ty.pack at h;split at h
  ·rename_i x1 f1 r1 h1;split at h
   ·rename_i y1 g1 r2 h2;split at h
    ·rename_i z1 k1 r3 h3;cases h;have G0:Gr:=⟨default,fun _=>True,fun _=>True,fun _=>none,fun _=>none⟩;obtain⟨e1,_,_⟩:=TyL.pack_ok G0 l cs x1 f1 r1 h1;obtain⟨e2,_,_⟩:=jed G0 _ r1 y1 g1 r2 h2;have i1:=TyL.pack_cells l cs x1 f1 r1 h1;have i2:=jec h2 b;have i3:=TyL.pack_cells m r2 z1 k1 r h3;subst e1;subst e2;have hc:(Ty.cells b (.tree l m) (⟨(x1,z1),y1⟩:Tre (l.den×m.den))).getD f .any=if f<l.sz then(l.cells b x1).getD f .any else if f=l.sz then .sl b (.tree l m) y1 else(m.cells b z1).getD (f-(l.sz+1)) .any:=qyz
     simp only[hc];by_cases a1:f<l.sz
     ·simp only[if_pos a1];exact i1 f a1 b
     ·by_cases a2:f=l.sz
      ·subst a2;simp only[if_neg a1,Kw];simp only[Wa,WI,KU]at i2⊢;exact i2
      ·have:=i3 (f-(l.sz+1)) (by simp[Ty.sz]at hf;omega) b;simp only[if_neg a1,if_neg a2];simp only[Wa,WI,show l.sz+(1+(f-(l.sz+1)))=f by omega]at this⊢;exact this
    ·cases h
   ·cases h
  ·cases h
theorem TyL.pack_cells:∀(l:TyL) (cs:List TV) (x:l.den) (fr:Bool) (r:List TV),l.pack cs=some (x,fr,r)->∀f,f<l.sz->∀b,
  (l.cells b x).getD f .any=match cs.getD f .any with| .sl _ v ys=> .sl b v ys| .val (.slice none 0 0)=>(l.cells b x).getD f .any| .e0=>(l.cells b x).getD f .any|A=>A
 | .nil,cs,x,fr,r,h,f,hf,b=>by simp[TyL.sz]at hf
 | .cons t l,cs,x,fr,r,h,f,hf,b=>by
  unfold TyL.pack at h;split at h
  ·rename_i x1 f1 r1 h1;split at h
   ·rename_i y1 g1 r2 h2;cases h;obtain⟨e1,_,_⟩:=Ty.pack_ok (⟨default,fun _=>True,fun _=>True,fun _=>none,fun _=>none⟩:Gr) t cs x1 f1 r1 h1;have i1:=Ty.pack_cells t cs x1 f1 r1 h1;have i2:=TyL.pack_cells l r1 y1 g1 r h2;subst e1;have hc:∀b,TyL.cells b (.cons t l) (x1,y1)=t.cells b x1++l.cells b y1:=fun _=>rfl
    simp only[hc];by_cases hlt:f<t.sz
    ·have:=i1 f hlt b;simp only[Wa,Wo (show f<(t.cells b x1).length by rw[Ty.cells_len];exact hlt)]at this⊢;exact this
    ·have:=i2 (f-t.sz) (by simp[TyL.sz]at hf;omega) b;simp only[Wa,Wu (show(t.cells b x1).length<=f by rw[Ty.cells_len];omega),Ty.cells_len,WI,show t.sz+(f-t.sz)=f by omega]at this⊢;exact this
   ·cases h
  ·cases h
end
theorem q4x{u:Ty}{cs:List TV}{x:u.den}{g:Bool}(h:u.pack1 cs=some (x,g)){f:Nat}(hf:f<u.sz)(b:Bool):
  (u.cells b x).getD f .any=match cs.getD f .any with| .sl _ v ys=> .sl b v ys| .val (.slice none 0 0)=>(u.cells b x).getD f .any| .e0=>(u.cells b x).getD f .any|A=>A:=by
 unfold Ty.pack1 at h;split at h
 ·rename_i x' f' hp;cases h;exact Ty.pack_cells u cs x g [] hp f hf b
 ·cases h
theorem qo1{u:Ty}{x:u.den}{f:Nat}{y:(v:Ty)×List v.den}(h:ek u x f=some y):f<u.sz:=by
 rcases Wz f u.sz with h' |h'
 ·exact h'
 ·unfold ek at h;rw[Wa,Wp (by rw[Ty.cells_len];exact h')]at h;cases h
def qbc(b:Bool):TV->Prop
 | .int _ _=>True
 | .bool _=>True
 | .val (.string _)=>True
 | .sl fr _ _=>fr=b
 |_=>False
mutual
theorem Ty.cells_form(b:Bool):∀(t:Ty) (x:t.den),∀A∈t.cells b x,qbc b A
 | .int k,n,A,hA=>by simp[Ty.cells]at hA;rw[hA];trivial
 | .bool,n,A,hA=>by simp[Ty.cells]at hA;rw[hA];trivial
 | .str,n,A,hA=>by simp[Ty.cells]at hA;rw[hA];trivial
 | .slice t,xs,A,hA=>by simp[Ty.cells]at hA;rw[hA];rfl
 | .struct l,x,A,hA=>TyL.cells_form b l x A hA
 | .tree l m,x,A,hA=>by
  simp only[Ty.cells,WS,Wr]at hA;rcases hA with hA|rfl|hA
  ·exact TyL.cells_form b l _ A hA
  ·rfl
  ·exact TyL.cells_form b m _ A hA
theorem TyL.cells_form(b:Bool):∀(l:TyL) (x:l.den),∀A∈l.cells b x,qbc b A
 | .nil,x,A,hA=>by simp[TyL.cells]at hA
 | .cons t l,x,A,hA=>by
  simp only[TyL.cells,WS]at hA;rcases hA with hA|hA
  ·exact Ty.cells_form b t x.1 A hA
  ·exact TyL.cells_form b l x.2 A hA
end
theorem qb8{b:Bool}{t:Ty}{x:t.den}{f:Nat}{A:TV}(h:(t.cells b x).getD f .any=A)(hA:A≠ .any):qbc b A:=by
 rw[Wa]at h;cases hq:(t.cells b x)[f]? with
 |none=>rw[hq]at h;exact absurd h.symm hA
 |some B=>rw[hq]at h;simp only[WX]at h;subst h;exact Ty.cells_form b t x B (WV hq)
theorem qkj{u:Ty}{x:u.den}{f:Nat}{v:Ty}{ys:List v.den}(h:ek u x f=some ⟨v,ys⟩):(u.cells true x).getD f .any= .sl true v ys:=by
 obtain⟨fr,e⟩:=jdn h;have hf:=qb8 e (by simp);simp only[qbc]at hf;rw[hf]at e;exact e
theorem jgm{l:List TV}{f:Nat}{A:TV}(h:f<l.length):(l.set f A).getD f .any=A:=by simp[h]
theorem jnm{l:List TV}{f f' :Nat}{A:TV}(h:f' ≠f):(l.set f A).getD f' .any=l.getD f' .any:=by
 rw[Wa,WF (Ko h),<-Wa]
theorem q5y{u:Ty}{x x' :u.den}{f:Nat}{v:Ty}{ys:List v.den}(h:q0s u x f v ys=some x'):(∃zs,ek u x f=some ⟨v,zs⟩)/\ek u x' f=some ⟨v,ys⟩/\∀f',f' ≠f->(u.cells true x').getD f' .any=(u.cells true x).getD f' .any:=by
 unfold q0s at h;split at h
 ·rename_i v' zs hin;split at h
  ·rename_i he _;obtain⟨he⟩:=he;subst he;split at h
   ·rename_i y g hp;cases h;have hlt:=qo1 hin;refine⟨⟨zs,hin⟩,?_,fun f' hne=> ?_⟩
    ·have:=q4x hp hlt true;rw[jgm (by rw[Ty.cells_len];exact hlt)]at this;exact qq1 this
    ·rcases Wz f' u.sz with h' |h'
     ·have:=q4x hp h' true;rw[jnm hne]at this;rw[this];split
      ·rename_i fr v2 ys2 e;have hf:=qb8 e (by simp);simp only[qbc]at hf;rw[e,hf]
      ·rename_i e;have hf:=qb8 e (by simp);simp only[qbc]at hf
      ·rename_i e;have hf:=qb8 e (by simp);simp only[qbc]at hf
      ·rfl
     ·rw[Wa,Wa,Wp (by rw[Ty.cells_len];exact h'),Wp (by rw[Ty.cells_len];exact h')]
   ·cases h
  ·cases h
 ·cases h
end
end Go.K
namespace Go.K
open Go.M Go.RowKit
theorem jcj{L L' cs:List TV}{off:Nat}(h:qzh L off cs=some L')(j:Nat):L'.getD j .any=if off<=j/\j<off+cs.length then cs.getD (j-off) .any else L.getD j .any:=by
 unfold qzh at h;obtain⟨hb,h⟩:=ai h;cases h;have hle:=qc3 hb;simp only[Wa];rcases Wz j off with h1|h1
 ·rw[Wo (by simp;omega),WZ,if_pos h1,if_neg (by omega)]
 ·rw[Wu (by simp;omega)];have hl:(L.take off).length=off:=by simp;omega
  rw[hl];rcases Wz j (off+cs.length)with h2|h2
  ·rw[Wo (by omega),if_pos ⟨h1,h2⟩]
  ·rw[Wu (by omega),if_neg (by omega),WI];congr 2;omega
theorem je6{L L' cs:List TV}{off:Nat}(h:qzh L off cs=some L'):L'.length=L.length/\off+cs.length<=L.length:=by
 unfold qzh at h;obtain⟨hb,h⟩:=ai h;cases h;have hle:=qc3 hb;exact⟨by simp;omega,hle⟩
def kv(its:List TypeId)(f:Nat):Option ((v:Ty)×List v.den)->Option Vw
 |some ⟨v,ys⟩=>some ⟨its.getD f 0,v.sz,ys.length,fun j g=>(v.cells true (ys.getD j v.dft)).getD g .any⟩
 |none=>none
theorem l9{H:List TOb}{t:Nat}{ty:TypeId}{md:Md}{its:List TypeId}{u:Ty}{xs:List u.den}(ho:H[t]? =some (.arr ty md its u xs))(i f:Nat):
  vw H (.r t i f)=if md.isOwn=true/\i<xs.length then kv its f (ek u (xs.getD i u.dft) f)else none:=by
 simp only[vw,ho,vwR];split
 ·cases ek u (xs.getD i u.dft) f<;>rfl
 ·rfl
theorem b8{α:Type}{l:List α}{i j:Nat}{x d:α}(hi:i<l.length):(l.set i x).getD j d=if j=i then x else l.getD j d:=by
 by_cases h:j=i
 ·subst h;simp[hi]
 ·rw[if_neg h,Wa,WF (Ko h),<-Wa]
section
variable {U : Nat -> Prop} {w0 : World} {J0 : Pl} {K : Nat -> Bool} {N : Nat}
theorem ec(V:TG->Option Vw)(T:TG)(v:Vw):upd V T v T=some v:=if_pos rfl
theorem de{V:TG->Option Vw}{T T' :TG}{v:Vw}(h:T' ≠T):upd V T v T' =V T' :=if_neg h
theorem jdm{V:TG->Option Vw}{T:TG}{v v' :Vw}(hT:V T=some v)(hn:v'.n=v.n)(hs:v'.sz=v.sz):aj (upd V T v')=aj V:=by
 funext T';by_cases e:T' =T
 ·subst e;simp[aj,upd,hT,hn,hs]
 ·simp[aj,upd,e]
theorem ARel.setTell{S:Nat->TV}{a:Act}{w:World}{J:Pl}{H:List TOb}{T:TG}{v0 v1:Vw}(hT:vw H T=some v0)(h:ARel U w0 J0 K N S (upd (vw H) T v1) a w J)(hn:v1.n=v0.n)(hs:v1.sz=v0.sz){ob' :TOb}
  (hI:∀T',T'.ob=T.ob->aj (vw (H.set T.ob ob')) T' =aj (vw H) T')
  (hV:∀T' v',T'.ob=T.ob->vw (H.set T.ob ob') T' =some v' ->∃v,upd (vw H) T v1 T' =some v/\v'.ty=v.ty/\(∀i f,i<v.n->f<v.sz->∀y,VR (gr U (vw H) w J) (v.cs i f) y->VR (gr U (vw H) w J) (v'.cs i f) y)/\(v.sz=0->v.n=0->HZ (gr U (vw H) w J) (gr U (vw H) w J) v v')):
  ARel U w0 J0 K N S (vw (H.set T.ob ob')) a w J:=by
 have hi:=jdm hT hn hs;have hG:gr U (upd (vw H) T v1) w J=gr U (vw H) w J:=by simp only[gr,hi]
 refine h.tell ?_ (fun t v hv=>hv) (fun T' v' hv' => ?_)
 ·rw[hi];funext T';by_cases e:T'.ob=T.ob
  ·exact hI T' e
  ·simp only[aj,eh e]
 ·rw[hG];by_cases e:T'.ob=T.ob
  ·exact hV T' v' e hv'
  ·rw[eh e]at hv';refine⟨v',?_,rfl,fun i f _ _ y hy=>hy,qki v'⟩;have:T' ≠T:=fun e' =>e (by rw[e'])
   simp[upd,this,hv']
variable {P : Program}
def qh1(P:Program)(U:Nat->Prop)(w0:World)(J0:Pl)(K:Nat->Bool)(N:Nat)(s' :TS)(a:Act)(w:World)(pv:Value)(new:List Value):Prop:=
 ∃ad w' J',pv= .pointer (some ad)/\(storeCells ad new).run P w= .ok () w' /\dr U w0 J0 K N s' a w' J'
theorem j0j{s:TS}{a:Act}{w:World}{J:Pl}(h:dr U w0 J0 K N s a w J){tg:Nat}{ty:TypeId}{sz n:Nat}{cs cs' L:List TV}(ho:s.H[tg]? =some (.cs ty sz n cs)){i f:Nat}(hi:i<n)(hf:f+L.length<=sz)(hcl:cs.length=n*sz)
  (hput:qzh cs (i*sz+f) L=some cs') {pv:Value} (hp:VR (gr U (vw s.H) w J) (.ptr (.o tg) (.ofNat i) f) pv) {new:List Value} (hnew:mm (gr U (vw s.H) w J) new L):
  qh1 P U w0 J0 K N ⟨s.S,s.H.set tg (.cs ty sz n cs')⟩ a w pv new:=by
 obtain⟨g,o,n',sz',hJ,hI,rfl⟩:=hp;have hv:=qfs ho;have hI' :aj (vw s.H) (.o tg)=some (n',sz'):=hI;simp only[aj,hv,Wd,Wb,Wj]at hI';obtain⟨rfl,rfl⟩:=hI';obtain⟨w',hrun,hr,_⟩:=h.write P hv hJ (i:=i) (f:=f) (L:=L) hi hf hnew;refine⟨_,w',J,rfl,hrun,?_⟩;have hlt:tg<s.H.length:=(Wh.1 ho).1;have hov:(s.H.set tg (.cs ty sz n cs'))[tg]? =some (.cs ty sz n cs'):=Wl hlt;refine ARel.setTell (T:= .o tg) (ob' := .cs ty sz n cs') hv hr rfl rfl (fun T' e=> ?_) (fun T' v' e hv' => ?_)
 ·cases T' with
  |o t=>simp only[TG.ob]at e;subst e;simp only[TG.ob,aj,qfs hov,hv,Wd]
  |r t i f=>simp only[TG.ob]at e;subst e;simp[aj,vw,TG.ob,hov,ho,vwR]
 ·cases T' with
  |o t=>
   simp only[TG.ob]at e;subst e;simp only[TG.ob,qfs hov,Wb]at hv';subst hv';refine⟨_,ec _ _ _,rfl,fun i' f' hi' hf' y hy=> ?_,fun _ e=>absurd (show n=0 from e) (by omega)⟩;have hf2:f' <sz:=hf';simp only[Vw.put]at hy;simp only[jcj hput];by_cases hin:i' =i/\f<=f' /\f' <f+L.length
   ·obtain⟨rfl,h1,h2⟩:=hin;rw[if_pos ⟨rfl,h1,h2⟩]at hy;rw[if_pos (by omega),show i' *sz+f' -(i' *sz+f)=f' -f by omega];exact hy
   ·rw[if_neg hin]at hy;rw[if_neg]
    ·exact hy
    ·intro hcon;apply hin;have hd:i' *sz+f' =i*sz+(i' *sz+f' -i*sz):=by omega
     obtain⟨e1,e2⟩:=jtq hf2 (show i' *sz+f' -i*sz<sz by omega) hd;exact⟨e1,by omega,by omega⟩
  |r t i f=>simp only[TG.ob]at e;subst e;simp[vw,TG.ob,hov,vwR]at hv'
theorem qhj{v:Vw}{i f:Nat}{L:List TV}{i' f' :Nat}:(v.put i f L).cs i' f' =if i' =i/\f<=f' /\f' <f+L.length then L.getD (f' -f) .any else v.cs i' f' :=rfl
theorem j0k{s:TS}{a:Act}{w:World}{J:Pl}(h:dr U w0 J0 K N s a w J){tg:Nat}{ty:TypeId}{fr:Bool}{its:List TypeId}{u:Ty}{xs:List u.den}{cs' L:List TV}(ho:s.H[tg]? =some (.arr ty (.fz fr) its u xs)){i:Int}{f:Nat}(hi:i.toNat<xs.length)
  (hput:qzh (u.cells fr (xs.getD i.toNat u.dft)) f L=some cs') {x' :u.den} {g:Bool} (hpk:u.pack1 cs' =some (x',g)) {pv:Value} (hp:VR (gr U (vw s.H) w J) (.ptr (.o tg) i f) pv) {new:List Value} (hnew:mm (gr U (vw s.H) w J) new L):
  qh1 P U w0 J0 K N ⟨s.S,s.H.set tg (.arr ty (.fz (fr&&g)) its u (xs.set i.toNat x'))⟩ a w pv new:=by
 obtain⟨g0,o,n',sz',hJ,hI,rfl⟩:=hp;have hv:=az ho;have hI' :aj (vw s.H) (.o tg)=some (n',sz'):=hI;simp only[aj,hv,Wd,Wb,Wj]at hI';obtain⟨rfl,rfl⟩:=hI';obtain⟨hl1,hl2⟩:=je6 hput;rw[Ty.cells_len]at hl2;obtain⟨w',hrun,hr,_⟩:=h.write P hv hJ (i:=i.toNat) (f:=f) (L:=L) hi hl2 hnew;refine⟨_,w',J,rfl,hrun,?_⟩;have hlt:tg<s.H.length:=(Wh.1 ho).1;have hov:(s.H.set tg (.arr ty (.fz (fr&&g)) its u (xs.set i.toNat x')))[tg]? =some (.arr ty (.fz (fr&&g)) its u (xs.set i.toNat x')):=Wl hlt;refine ARel.setTell (T:= .o tg) (ob' := .arr ty (.fz (fr&&g)) its u (xs.set i.toNat x')) hv hr rfl rfl (fun T' e=> ?_) (fun T' v' e hv' => ?_)
 ·cases T' with
  |o t=>simp only[TG.ob]at e;subst e;simp only[TG.ob,aj,az hov,hv,Wd,WB]
  |r t i f=>simp only[TG.ob]at e;subst e;simp only[aj,TG.ob,l9 hov,l9 ho,Md.isOwn];simp
 ·cases T' with
  |o t=>
   simp only[TG.ob]at e;subst e;simp only[TG.ob,az hov,Wb]at hv';subst hv';refine⟨_,ec _ _ _,rfl,fun i' f' hi' hf' y hy=> ?_,fun _ e=>absurd (show xs.length=0 from e) (by omega)⟩;have hf2:f' <u.sz:=hf';simp only[qhj,ns]at hy;show VR _ (b7 t (.fz (fr&&g)) u (xs.set i.toNat x') i' f') y;rw[ns,b8 hi,<-Ty.C_iff _ _ _ _ _ _ hf2];by_cases e:i' =i.toNat
   ·rw[if_pos e];subst e;have:=(Ty.pack1_ok (G:=gr U (vw s.H) w' J) hpk).2 f' hf2 y (by
     rw[jcj hput];split
     ·rename_i hc;rw[if_pos ⟨rfl,hc⟩]at hy;exact hy
     ·rename_i hc;rw[if_neg (fun e=>hc e.2)]at hy;exact hy)
    exact Ty.C_fr (G:=gr U (vw s.H) w' J) (fun e=>by simp at e;exact e.2) this
   ·rw[if_neg e];rw[if_neg (fun e' =>e e'.1)]at hy;exact Ty.C_fr (G:=gr U (vw s.H) w' J) (fun e=>by simp at e;exact e.1) ((Ty.C_iff (gr U (vw s.H) w' J) fr u _ f' y hf2).2 hy)
  |r t i f=>simp only[TG.ob]at e;subst e;simp only[TG.ob,l9 hov,Md.isOwn]at hv';simp at hv'
theorem qjv(t:Nat)(u:Ty)(xs:List u.den)(i f:Nat):b7 t .own u xs i f=match(u.cells true (xs.getD i u.dft)).getD f .any with| .sl _ _ _=> .own (.r t i f)|A=>A:=by
 unfold b7;simp only[Md.fr];split<;>simp_all
theorem qmr{t:Nat}{u:Ty}{xs:List u.den}{i f:Nat}{v:Ty}{ys:List v.den}(h:ek u (xs.getD i u.dft) f=some ⟨v,ys⟩):b7 t .own u xs i f= .own (.r t i f):=by
 rw[qjv,qkj h]
theorem qcf{t:Nat}{md:Md}{u:Ty}{xs xs' :List u.den}{i f:Nat}(hm:md.isOwn=true)
  (h:(u.cells true (xs'.getD i u.dft)).getD f .any=(u.cells true (xs.getD i u.dft)).getD f .any\/((ek u (xs.getD i u.dft) f).isSome=true/\(ek u (xs'.getD i u.dft) f).isSome=true)):b7 t md u xs' i f=b7 t md u xs i f:=by
 have hfr:md.fr=true:=by cases md<;>simp_all[Md.isOwn,Md.fr]
 unfold b7;rw[hfr];rcases h with h|⟨h1,h2⟩
 ·rw[h]
 ·cases q1:ek u (xs.getD i u.dft) f with
  |none=>rw[q1]at h1;cases h1
  |some y1=>
   cases q2:ek u (xs'.getD i u.dft) f with
   |none=>rw[q2]at h2;cases h2
   |some y2=>
    obtain⟨v1,ys1⟩:=y1;obtain⟨v2,ys2⟩:=y2;rw[qkj q1,qkj q2];cases md with
    |fz fr=>simp[Md.isOwn]at hm
    |own=>rfl
    |hole i0 f0=>rfl
    |swap i0 j0=>rfl
theorem qha{u:Ty}{x x' :u.den}{f:Nat}(h:(u.cells true x').getD f .any=(u.cells true x).getD f .any):ek u x' f=ek u x f:=by
 unfold ek;rw[h]
theorem jpa{s:TS}{a:Act}{w:World}{J:Pl}(h:dr U w0 J0 K N s a w J){tg:Nat}{ty:TypeId}{its:List TypeId}{u:Ty}{xs:List u.den}{cs' :List TV}{A:TV}(ho:s.H[tg]? =some (.arr ty .own its u xs)){i:Int}{f:Nat}(hi:i.toNat<xs.length)
  (hA:(∃k n,A= .int k n)\/(∃b,A= .bool b)\/(∃z,A= .val (.string z))) (hin:ek u (xs.getD i.toNat u.dft) f=none) (hput:qzh (u.cells true (xs.getD i.toNat u.dft)) f [A]=some cs') {x' :u.den} {g:Bool} (hpk:u.pack1 cs' =some (x',g)) {pv:Value}
  (hp:VR (gr U (vw s.H) w J) (.ptr (.o tg) i f) pv) {new:List Value} (hnew:mm (gr U (vw s.H) w J) new [A]):
  qh1 P U w0 J0 K N ⟨s.S,s.H.set tg (.arr ty .own its u (xs.set i.toNat x'))⟩ a w pv new:=by
 obtain⟨g0,o,n',sz',hJ,hI,rfl⟩:=hp;have hv:=az ho;have hI' :aj (vw s.H) (.o tg)=some (n',sz'):=hI;simp only[aj,hv,Wd,Wb,Wj]at hI';obtain⟨rfl,rfl⟩:=hI';obtain⟨hl1,hl2⟩:=je6 hput;rw[Ty.cells_len]at hl2;have hfu:f<u.sz:=by simp at hl2;omega
 obtain⟨w',hrun,hr,_⟩:=h.write P hv hJ (i:=i.toNat) (f:=f) (L:=[A]) hi hl2 hnew;refine⟨_,w',J,rfl,hrun,?_⟩;have hlt:tg<s.H.length:=(Wh.1 ho).1;have hov:(s.H.set tg (.arr ty .own its u (xs.set i.toNat x')))[tg]? =some (.arr ty .own its u (xs.set i.toNat x')):=Wl hlt;have hcell:∀f',(u.cells true x').getD f' .any=if f' =f then A else(u.cells true (xs.getD i.toNat u.dft)).getD f' .any:=by
  intro f';rcases Wz f' u.sz with h' |h'
  ·have h1:=q4x hpk h' true;rw[jcj hput]at h1;by_cases e:f' =f
   ·subst e;rw[if_pos (by simp)]at h1;rw[if_pos rfl,h1];simp only[HQ,K9];rcases hA with⟨k,n,rfl⟩|⟨b,rfl⟩|⟨z,rfl⟩<;>rfl
   ·rw[if_neg (by simp;omega)]at h1;rw[if_neg e,h1];split
    ·rename_i fr v2 ys2 e2;have hf:=qb8 e2 (by simp);simp only[qbc]at hf;rw[e2,hf]
    ·rename_i e2;have hf:=qb8 e2 (by simp);simp only[qbc]at hf
    ·rename_i e2;have hf:=qb8 e2 (by simp);simp only[qbc]at hf
    ·rfl
  ·rw[if_neg (by omega),Wa,Wa,Wp (by rw[Ty.cells_len];exact h'),Wp (by rw[Ty.cells_len];exact h')]
 have hinn:∀f',ek u x' f' =ek u (xs.getD i.toNat u.dft) f' :=by
  intro f';by_cases e:f' =f
  ·subst e;rw[hin];unfold ek;rw[hcell f',if_pos rfl];rcases hA with⟨k,n,rfl⟩|⟨b,rfl⟩|⟨z,rfl⟩<;>rfl
  ·exact qha (by rw[hcell f',if_neg e])
 have hrow:∀i' f',vw (s.H.set tg (.arr ty .own its u (xs.set i.toNat x'))) (.r tg i' f')=vw s.H (.r tg i' f'):=by
  intro i' f';rw[l9 hov,l9 ho,b8 hi,WB];split
  ·by_cases e:i' =i.toNat
   ·subst e;rw[if_pos rfl,hinn]
   ·rw[if_neg e]
  ·rfl
 refine ARel.setTell (T:= .o tg) (ob' := .arr ty .own its u (xs.set i.toNat x')) hv hr rfl rfl (fun T' e=> ?_) (fun T' v' e hv' => ?_)
 ·cases T' with
  |o t=>simp only[TG.ob]at e;subst e;simp only[TG.ob,aj,az hov,hv,Wd,WB]
  |r t i f=>simp only[TG.ob]at e;subst e;simp only[aj,TG.ob,hrow]
 ·cases T' with
  |o t=>
   simp only[TG.ob]at e;subst e;simp only[TG.ob,az hov,Wb]at hv';subst hv';refine⟨_,ec _ _ _,rfl,fun i' f' hi' hf' y hy=> ?_,fun _ e=>absurd (show xs.length=0 from e) (by omega)⟩;simp only[qhj]at hy;show VR _ (b7 t .own u (xs.set i.toNat x') i' f') y;rw[qjv,b8 hi];by_cases e:i' =i.toNat
   ·rw[if_pos e,hcell];subst e;by_cases e2:f' =f
    ·subst e2;rw[if_pos ⟨rfl,Wg _,by simp⟩]at hy;rw[if_pos rfl];simp only[HQ,K9]at hy;rcases hA with⟨k,n,rfl⟩|⟨b,rfl⟩|⟨z,rfl⟩<;>exact hy
    ·rw[if_neg (by simp;omega),qjv]at hy;rw[if_neg e2];exact hy
   ·rw[if_neg e];rw[if_neg (fun e' =>e e'.1),qjv]at hy;exact hy
  |r t i' f' =>
   simp only[TG.ob]at e;subst e;simp only[TG.ob,hrow]at hv';exact⟨v',(de (by simp)).trans hv',rfl,fun i f _ _ y hy=>hy,qki v'⟩
theorem jwf{s:TS}{a:Act}{w:World}{J:Pl}(h:dr U w0 J0 K N s a w J){tg:Nat}{ty:TypeId}{md:Md}{its:List TypeId}{u:Ty}{xs:List u.den}{cs' L:List TV}(ho:s.H[tg]? =some (.arr ty md its u xs))(hm:md.isOwn=true){i0 f0:Nat}{v:Ty}{ys:List v.den}
  (hin:ek u (xs.getD i0 u.dft) f0=some ⟨v,ys⟩) {i:Int} {f:Nat} (hi:i.toNat<ys.length) (hput:qzh (v.cells true (ys.getD i.toNat v.dft)) f L=some cs') {y' :v.den} {g:Bool} (hpk:v.pack1 cs' =some (y',g)) (hg:(g||v.flat)=true)
  {x' :u.den} (hset:q0s u (xs.getD i0 u.dft) f0 v (ys.set i.toNat y')=some x') {pv:Value} (hp:VR (gr U (vw s.H) w J) (.ptr (.r tg i0 f0) i f) pv) {new:List Value} (hnew:mm (gr U (vw s.H) w J) new L):
  qh1 P U w0 J0 K N ⟨s.S,s.H.set tg (.arr ty md its u (xs.set i0 x'))⟩ a w pv new:=by
 obtain⟨g0,o,n',sz',hJ,hI,rfl⟩:=hp;have hI' :aj (vw s.H) (.r tg i0 f0)=some (n',sz'):=hI;have hi0:i0<xs.length:=by
  rcases Wz i0 xs.length with h' |h'
  ·exact h'
  ·simp only[aj,l9 ho,show¬i0<xs.length by omega,and_false,KI]at hI';cases hI'
 have hv:=qih ho hm hi0 hin;simp only[aj,hv,Wd,Wb,Wj]at hI';obtain⟨rfl,rfl⟩:=hI';obtain⟨hl1,hl2⟩:=je6 hput;rw[Ty.cells_len]at hl2;obtain⟨w',hrun,hr,_⟩:=h.write P hv hJ (i:=i.toNat) (f:=f) (L:=L) hi hl2 hnew;refine⟨_,w',J,rfl,hrun,?_⟩;have hlt:tg<s.H.length:=(Wh.1 ho).1;have hov:(s.H.set tg (.arr ty md its u (xs.set i0 x')))[tg]? =some (.arr ty md its u (xs.set i0 x')):=Wl hlt;obtain⟨_,hin',hoth⟩:=q5y hset;have hrow:∀i' f',(i',f')≠(i0,f0)->vw (s.H.set tg (.arr ty md its u (xs.set i0 x'))) (.r tg i' f')=vw s.H (.r tg i' f'):=by
  intro i' f' hne;rw[l9 hov,l9 ho,b8 hi0,WB];split
  ·by_cases e:i' =i0
   ·subst e;rw[if_pos rfl,qha (hoth f' (fun e=>hne (by rw[e])))]
   ·rw[if_neg e]
  ·rfl
 have hkid:vw (s.H.set tg (.arr ty md its u (xs.set i0 x'))) (.r tg i0 f0)=some ⟨its.getD f0 0,v.sz,(ys.set i.toNat y').length,fun j g=>(v.cells true ((ys.set i.toNat y').getD j v.dft)).getD g .any⟩:=
  qih hov hm (by rw[WB];exact hi0) (by rw[b8 hi0,if_pos rfl];exact hin')
 refine ARel.setTell (T:= .r tg i0 f0) (ob' := .arr ty md its u (xs.set i0 x')) hv hr rfl rfl (fun T' e=> ?_) (fun T' v' e hv' => ?_)
 ·cases T' with
  |o t=>simp only[TG.ob]at e;subst e;simp only[TG.ob,aj,az hov,az ho,Wd,WB]
  |r t i' f' =>
   simp only[TG.ob]at e;subst e;by_cases hne:(i',f')=(i0,f0)
   ·simp only[Wj]at hne;obtain⟨rfl,rfl⟩:=hne;simp only[aj,TG.ob,hkid,hv,Wd,WB]
   ·simp only[aj,TG.ob,hrow i' f' hne]
 ·cases T' with
  |o t=>
   simp only[TG.ob]at e;subst e;simp only[TG.ob,az hov,Wb]at hv';subst hv';refine⟨_,(de (by simp)).trans (az ho),rfl,fun i' f' hi' hf' y hy=> ?_,fun _ e=>absurd (show xs.length=0 from e) (by omega)⟩;have hy' :VR (gr U (vw s.H) w' J) (b7 t md u xs i' f') y:=hy;show VR _ (b7 t md u (xs.set i0 x') i' f') y;rw[qcf hm]
   ·exact hy'
   ·rw[b8 hi0];by_cases e:i' =i0
    ·subst e;rw[if_pos rfl];by_cases e2:f' =f0
     ·subst e2;exact .inr ⟨by rw[hin];rfl,by rw[hin'];rfl⟩
     ·exact .inl (hoth f' e2)
    ·rw[if_neg e];exact .inl rfl
  |r t i' f' =>
   simp only[TG.ob]at e;subst e;by_cases hne:(i',f')=(i0,f0)
   ·simp only[Wj]at hne;obtain⟨rfl,rfl⟩:=hne;simp only[TG.ob,hkid,Wb]at hv';subst hv';refine⟨_,ec _ _ _,rfl,fun j f' hj hf' y hy=> ?_,fun _ e=>absurd (show ys.length=0 from e) (by omega)⟩;have hf2:f' <v.sz:=hf';simp only[qhj]at hy;show VR _ ((v.cells true ((ys.set i.toNat y').getD j v.dft)).getD f' .any) y;rw[b8 hi,<-Ty.C_iff _ _ _ _ _ _ hf2];by_cases e:j=i.toNat
    ·rw[if_pos e];subst e;have:=(Ty.pack1_ok (G:=gr U (vw s.H) w' J) hpk).2 f' hf2 y (by
      rw[jcj hput];split
      ·rename_i hc;rw[if_pos ⟨rfl,hc⟩]at hy;exact hy
      ·rename_i hc;rw[if_neg (fun e=>hc e.2)]at hy;exact hy)
     exact Ty.C_fl (G:=gr U (vw s.H) w' J) (fun _=>by simpa using hg) this
    ·rw[if_neg e];rw[if_neg (fun e' =>e e'.1)]at hy;exact(Ty.C_iff (gr U (vw s.H) w' J) true v _ f' y hf2).2 hy
   ·simp only[TG.ob,hrow i' f' hne]at hv';exact⟨v',(de (fun e=>hne (by cases e;rfl))).trans hv',rfl,fun i f _ _ y hy=>hy,qki v'⟩
theorem jf5{s:TS}{a:Act}{w:World}{J:Pl}(h:dr U w0 J0 K N s a w J){tg:Nat}{ty:TypeId}{md md' :Md}{its:List TypeId}{u:Ty}{xs:List u.den}(ho:s.H[tg]? =some (.arr ty md its u xs))(hm:md.isOwn=true)(hm' :md'.isOwn=true){i:Int}{f i1 f1:Nat}
  (hi:i.toNat<xs.length) (hf:f<u.sz) (hmc:∀i' f',i' <xs.length->f' <u.sz->b7 tg md' u xs i' f' =if i' =i.toNat/\f' =f then .own (.r tg i1 f1)else b7 tg md u xs i' f') {pv:Value} (hp:VR (gr U (vw s.H) w J) (.ptr (.o tg) i f) pv) {new:List Value}
  (hnew:mm (gr U (vw s.H) w J) new [.own (.r tg i1 f1)]):qh1 P U w0 J0 K N ⟨s.S,s.H.set tg (.arr ty md' its u xs)⟩ a w pv new:=by
 obtain⟨g0,o,n',sz',hJ,hI,rfl⟩:=hp;have hv:=az ho;have hI' :aj (vw s.H) (.o tg)=some (n',sz'):=hI;simp only[aj,hv,Wd,Wb,Wj]at hI';obtain⟨rfl,rfl⟩:=hI';obtain⟨w',hrun,hr,_⟩:=h.write P hv hJ (i:=i.toNat) (f:=f) (L:=[.own (.r tg i1 f1)]) hi (by simp only[Ks];omega) hnew;refine⟨_,w',J,rfl,hrun,?_⟩;have hlt:tg<s.H.length:=(Wh.1 ho).1;have hov:(s.H.set tg (.arr ty md' its u xs))[tg]? =some (.arr ty md' its u xs):=Wl hlt;have hrow:∀i' f',vw (s.H.set tg (.arr ty md' its u xs)) (.r tg i' f')=vw s.H (.r tg i' f'):=fun i' f' =>by rw[l9 hov,l9 ho,hm,hm']
 refine ARel.setTell (T:= .o tg) (ob' := .arr ty md' its u xs) hv hr rfl rfl (fun T' e=> ?_) (fun T' v' e hv' => ?_)
 ·cases T' with
  |o t=>simp only[TG.ob]at e;subst e;simp only[TG.ob,aj,az hov,hv,Wd]
  |r t i f=>simp only[TG.ob]at e;subst e;simp only[aj,TG.ob,hrow]
 ·cases T' with
  |o t=>
   simp only[TG.ob]at e;subst e;simp only[TG.ob,az hov,Wb]at hv';subst hv';refine⟨_,ec _ _ _,rfl,fun i' f' hi' hf' y hy=> ?_,fun _ e=>absurd (show xs.length=0 from e) (by omega)⟩;simp only[qhj]at hy;show VR _ (b7 t md' u xs i' f') y;rw[hmc i' f' hi' hf'];by_cases e:i' =i.toNat/\f' =f
   ·obtain⟨rfl,rfl⟩:=e;rw[if_pos ⟨rfl,Wg _,by simp⟩]at hy;rw[if_pos ⟨rfl,rfl⟩];simpa using hy
   ·rw[if_neg (by simp;omega)]at hy;rw[if_neg e];exact hy
  |r t i' f' =>
   simp only[TG.ob]at e;subst e;simp only[TG.ob,hrow]at hv';exact⟨v',(de (by simp)).trans hv',rfl,fun i f _ _ y hy=>hy,qki v'⟩
end
end Go.K
namespace Go.K
open Go.M Go.RowKit
theorem TOb.sb_sb(θ1 θ2 θ3:TG->Ac)(h:∀T,θ3 T=match θ1 T with| .id=>θ2 T| .kill=> .kill| .to T' =>(match θ2 T' with| .id=> .to T' |a=>a)| .fz fr u xs=> .fz fr u xs)(o:TOb):(o.sb θ1).sb θ2=o.sb θ3:=by
 cases o with
 |arr ty md its u xs=>rfl
 |cs ty sz n l=>simp only[TOb.sb,TV.sbL_sbL θ1 θ2 θ3 h l]
 |mp kt vt es=>rfl
 |mo kt u ety es h=>rfl
 |gone=>rfl
theorem qgx(θ1 θ2 θ3:TG->Ac)(h:∀T,θ3 T=match θ1 T with| .id=>θ2 T| .kill=> .kill| .to T' =>(match θ2 T' with| .id=> .to T' |a=>a)| .fz fr u xs=> .fz fr u xs):∀(H:List TOb),cx θ2 (cx θ1 H)=cx θ3 H
 |[]=>rfl
 |o::l=>by simp only[cx,TOb.sb_sb θ1 θ2 θ3 h o,qgx θ1 θ2 θ3 h l]
section
variable {U : Nat -> Prop} {w0 : World} {J0 : Pl} {K : Nat -> Bool} {N : Nat}
theorem ARel.re'{S S' :Nat->TV}{V V' :TG->Option Vw}{a:Act}{w:World}{J J' :Pl}(h:ARel U w0 J0 K N S V a w J){θ:TG->Ac}(chg:Nat->Prop)(hS:∀t,S' t=(S t).sb θ)
  (hV:∀T,¬chg T.ob->V' T=(V T).map (Vw.sb θ)) (hJ:∀T,¬chg T.ob->J' T=J T) (hθ:∀T,¬chg T.ob->θ T= .id)
  (hto:∀T T' q,chg T.ob->(θ T= .id/\T' =T)\/θ T= .to T' ->aj V T=some q->aj V' T' =some q/\∀g o,J T=some (g,o)->J' T' =some (g,o)) (hnfz:∀T fr u xs,θ T≠ .fz fr u xs)
  (hown:∀T p,chg T.ob->J' T=some p->∃T0,chg T0.ob/\J T0=some p) (hinj:∀T T' g o o',chg T.ob->chg T'.ob->J' T=some (g,o)->J' T' =some (g,o')->T=T')
  (hdom:∀T p,chg T.ob->J' T=some p->∃v,V' T=some v) (hkeep:∀t,K t=true->chg t->J' (.o t)=J (.o t))
  (hobj:Mv θ (gr U V w J) (gr U V' w J')->∀T v,chg T.ob->V' T=some v->OR (gr U V' w J') (J' T) v):ARel U w0 J0 K N S' V' a w J' :=by
 refine h.re (θ:=θ) hS (fun T T' q ht hq=> ?_) (fun T fr u xs q e=>absurd e (hnfz T fr u xs)) (fun T g o hT=> ?_) (fun T T' g o o' h1 h2=> ?_) (fun T p hp=> ?_) (fun t ht=> ?_) (fun hm T v hv=> ?_)
 ·by_cases hc:chg T.ob
  ·exact hto T T' q hc ht hq
  ·rcases ht with⟨_,rfl⟩|ht
   ·exact⟨by rw[qda (hV T' hc)];exact hq,fun g o hg=>by rw[hJ T' hc];exact hg⟩
   ·rw[hθ T hc]at ht;cases ht
 ·by_cases hc:chg T.ob
  ·obtain⟨T0,_,h0⟩:=hown T _ hc hT;exact⟨T0,h0⟩
  ·exact⟨T,by rw[<-hJ T hc];exact hT⟩
 ·by_cases hc:chg T.ob<;>by_cases hc' :chg T'.ob
  ·exact hinj T T' g o o' hc hc' h1 h2
  ·obtain⟨T0,hc0,h0⟩:=hown T _ hc h1;rw[hJ T' hc']at h2;have:=h.hr.inj T0 T' g o o' h0 h2;subst this;exact absurd hc0 hc'
  ·obtain⟨T0,hc0,h0⟩:=hown T' _ hc' h2;rw[hJ T hc]at h1;have:=h.hr.inj T T0 g o o' h1 h0;subst this;exact absurd hc0 hc
  ·rw[hJ T hc]at h1;rw[hJ T' hc']at h2;exact h.hr.inj T T' g o o' h1 h2
 ·by_cases hc:chg T.ob
  ·exact hdom T p hc hp
  ·rw[hJ T hc]at hp;obtain⟨v,hv⟩:=h.hr.dom T p hp;exact⟨_,by rw[hV T hc,hv];rfl⟩
 ·by_cases hc:chg t
  ·exact hkeep t ht hc
  ·exact hJ (.o t) hc
 ·by_cases hc:chg T.ob
  ·exact hobj hm T v hc hv
  ·rw[hV T hc]at hv;cases hq:V T with
   |none=>rw[hq]at hv;cases hv
   |some v0=>
    rw[hq]at hv;simp only[Wd,Wb]at hv;subst hv;rw[hJ T hc];exact OR.re hm (h.hr.obj T v0 hq) rfl rfl rfl (fun i f _ _=> .inl rfl) (fun _ _=>HZ.of hm fun _ _=>rfl)
variable {P : Program}
theorem qcd{tg:Nat}(θ:TG->Ac)(h:∀T,(∃i f,T= .r tg i f)\/θ T= .id)(T:TG):ba tg T=match ba tg T with| .id=>θ T| .kill=> .kill| .to T' =>(match θ T' with| .id=> .to T' |a=>a)| .fz fr u xs=> .fz fr u xs:=by
 cases T with
 |o t' =>
  rcases h (.o t')with⟨i,f,e⟩|e
  ·cases e
  ·simp[ba,e]
 |r t' i f=>
  by_cases e:t' =tg
  ·subst e;simp[ba,W5]
  ·rcases h (.r t' i f)with⟨i',f',e'⟩|e'
   ·cases e';exact absurd rfl e
   ·simp[ba,qnf e,e']
theorem qo2{tg i f:Nat}(T:TG):(∃i f,T= .r tg i f)\/cb (.r tg i f) T= .id:=by
 by_cases e:T= .r tg i f
 ·exact .inl ⟨_,_,e⟩
 ·exact .inr (q8 e)
theorem qde{θ:TG->Ac}{tg:Nat}{u:Ty}{xs:List u.den}{i f:Nat}(h:θ (.r tg i f)= .id):(b7 tg .own u xs i f).sb θ=b7 tg .own u xs i f:=by
 rw[qjv];split
 ·simp[TV.sb,h]
 ·rename_i hns;exact Ty.cells_sb θ true u _ f
theorem qfz{θ:TG->Ac}{H:List TOb}{t i f:Nat}{v:Vw}(hv:vw H (.r t i f)=some v){j g:Nat}:(v.cs j g).sb θ=v.cs j g:=by
 simp only[vw]at hv;cases hq:H[t]? with
 |none=>rw[hq]at hv;cases hv
 |some ob=>
  rw[hq]at hv;cases ob with
  |arr ty md its u xs=>
   simp only[vwR]at hv;split at hv
   ·split at hv
    ·cases hv;exact Ty.cells_sb θ true _ _ g
    ·cases hv
   ·cases hv
  |cs ty sz n l=>cases hv
  |mp kt vt es=>cases hv
  |mo kt u ety es h=>
   simp only[vwR]at hv;split at hv
   ·cases hv;exact Ty.cells_sb θ true _ _ g
   ·cases hv
  |gone=>cases hv
theorem jwg{s:TS}{a:Act}{w:World}{J:Pl}(h:dr U w0 J0 K N s a w J){tg:Nat}{ty:TypeId}{its:List TypeId}{u:Ty}{xs:List u.den}(ho:s.H[tg]? =some (.arr ty .own its u xs)){i:Int}{f:Nat}(hi:i.toNat<xs.length)
  {v:Ty} {ys:List v.den} (hin:ek u (xs.getD i.toNat u.dft) f=some ⟨v,ys⟩) {x' :u.den} (hset:q0s u (xs.getD i.toNat u.dft) f v []=some x') {pv:Value} (hp:VR (gr U (vw s.H) w J) (.ptr (.o tg) i f) pv) {new:List Value}
  (hnew:mm (gr U (vw s.H) w J) new [.val (.slice none 0 0)]):qh1 P U w0 J0 K N ⟨sbS (ba tg) s.S,(cx (ba tg) s.H).set tg (.arr ty .own its u (xs.set i.toNat x'))⟩ a w pv new:=by
 have hk:=h.kills (qo3 tg);have ho1:(cx (ba tg) s.H)[tg]? =some (.arr ty .own its u xs):=ve ho;obtain⟨g0,o,n',sz',hJ,hI,rfl⟩:=hp;have hv:=az ho1;have hI' :aj (vw s.H) (.o tg)=some (n',sz'):=hI;simp only[aj,az ho,Wd,Wb,Wj]at hI';obtain⟨rfl,rfl⟩:=hI';have hfu:=qo1 hin;have hG:gr U (vw (cx (ba tg) s.H)) w J=gr U (vw s.H) w J:=by simp only[gr,qg9]
 obtain⟨w',hrun,hr,_⟩:=hk.write P hv hJ (i:=i.toNat) (f:=f) (L:=[.val (.slice none 0 0)]) hi (by simp only[Ks];omega) (by rw[hG];exact hnew);obtain⟨_,hin',hoth⟩:=q5y hset;have hlt:tg<(cx (ba tg) s.H).length:=(Wh.1 ho1).1;have hov:((cx (ba tg) s.H).set tg (.arr ty .own its u (xs.set i.toNat x')))[tg]? =some (.arr ty .own its u (xs.set i.toNat x')):=Wl hlt;have hrow:∀i' f',(TG.r tg i' f')≠ .r tg i.toNat f->vw ((cx (ba tg) s.H).set tg (.arr ty .own its u (xs.set i.toNat x'))) (.r tg i' f')=vw (cx (ba tg) s.H) (.r tg i' f'):=by
  intro i' f' hne;rw[l9 hov,l9 ho1,b8 hi,WB];split
  ·by_cases e:i' =i.toNat
   ·subst e;rw[if_pos rfl,qha (hoth f' (fun e=>hne (by rw[e])))]
   ·rw[if_neg e]
  ·rfl
 have hkid:vw ((cx (ba tg) s.H).set tg (.arr ty .own its u (xs.set i.toNat x'))) (.r tg i.toNat f)=some ⟨its.getD f 0,v.sz,0,fun j g=>(v.cells true (([]:List v.den).getD j v.dft)).getD g .any⟩:=
  qih hov rfl (by rw[WB];exact hi) (by rw[b8 hi,if_pos rfl];exact hin')
 refine⟨_,w',fun T=>if T= .r tg i.toNat f then none else J T,rfl,hrun,?_⟩;refine ARel.re' (θ:=cb (.r tg i.toNat f)) hr (fun t=>t=tg) (fun t=> ?_) (fun T hT=> ?_) (fun T hT=> ?_) (fun T hT=> ?_) (fun T T' q hT ht hq=> ?_) (fun T fr u xs e=> ?_) (fun T p hT hp=> ?_) (fun T T' g o1 o2 hT hT' h1 h2=> ?_) (fun T p hT hp=> ?_) (fun t ht e=> ?_) (fun hm T v' hT hv' => ?_)
 ·show bu (sbS (ba tg) s.S) t=(bu (sbS (ba tg) s.S) t).sb _;rw[fv,TV.sb_sb (ba tg) (cb (.r tg i.toNat f)) (ba tg) (qcd _ qo2)]
 ·rw[eh hT,de (fun e=>hT (by rw[e];rfl)),<-qya (fun i' f' =>q8 (fun e=>hT (by cases e;rfl))),qgx (ba tg) (cb (.r tg i.toNat f)) (ba tg) (qcd _ qo2)]
 ·exact if_neg (fun e=>hT (by rw[e];rfl))
 ·exact q8 (fun e=>hT (by rw[e];rfl))
 ·rcases ht with⟨e,rfl⟩|e
  ·have hne:T' ≠ .r tg i.toNat f:=fun e' =>by rw[e',qvz]at e;cases e
   refine⟨?_,fun g o hg=>by rw[if_neg hne];exact hg⟩;cases T' with
   |o t=>
    simp only[TG.ob]at hT;subst hT;simp only[aj,ec,Wd]at hq;simp only[aj,az hov,Wd,WB];exact hq
   |r t i' f' =>
    simp only[TG.ob]at hT;subst hT;simp only[aj,de (show TG.r t i' f' ≠ .o t by simp)]at hq;simp only[aj,hrow i' f' hne];exact hq
  ·by_cases e' :T= .r tg i.toNat f
   ·rw[e',qvz]at e;cases e
   ·rw[q8 e']at e;cases e
 ·by_cases e' :T= .r tg i.toNat f
  ·rw[e',qvz]at e;cases e
  ·rw[q8 e']at e;cases e
 ·split at hp
  ·cases hp
  ·exact⟨T,hT,hp⟩
 ·split at h1
  ·cases h1
  ·split at h2
   ·cases h2
   ·exact hr.hr.inj T T' g o1 o2 h1 h2
 ·split at hp
  ·cases hp
  ·rename_i hne;obtain⟨v0,hv0⟩:=hr.hr.dom T p hp;cases T with
   |o t=>simp only[TG.ob]at hT;subst hT;exact⟨_,az hov⟩
   |r t i' f' =>
    simp only[TG.ob]at hT;subst hT;rw[de (by simp)]at hv0;exact⟨v0,by rw[hrow i' f' hne];exact hv0⟩
 ·exact if_neg (by simp)
 ·cases T with
  |o t=>
   simp only[TG.ob]at hT;subst hT;rw[az hov]at hv';cases hv';rw[if_neg (by simp)];refine(hr.hr.obj (.o t) _ (ec _ _ _)).mv hm (fun _ _ _=>rfl) rfl rfl (by simp[Vw.put]) (fun i' f' hi' hf' y hy=> ?_) (fun _ e=>absurd e (by simp only[Vw.put];omega));simp only[qhj]at hy;show VR _ (b7 t .own u (xs.set i.toNat x') i' f') y;by_cases e:i' =i.toNat/\f' =f
   ·obtain⟨rfl,rfl⟩:=e;rw[if_pos ⟨rfl,Wg _,by simp⟩]at hy;have hy:y= .slice none 0 0:=by simpa[VR]using hy
    subst hy;rw[qmr (by rw[b8 hi,if_pos rfl];exact hin')];exact⟨0,v.sz,by simp only[gr,aj,hkid,Wd], .inl ⟨none,rfl,rfl⟩⟩
   ·rw[if_neg (by simp;omega)]at hy;have hmv:=VR.mv hm _ y hy;rw[qde (q8 (fun e' =>e (by cases e';exact⟨rfl,rfl⟩)))]at hmv;rw[qcf rfl]
    ·exact hmv
    ·rw[b8 hi];by_cases e2:i' =i.toNat
     ·subst e2;rw[if_pos rfl];exact .inl (hoth f' (fun e' =>e ⟨rfl,e'⟩))
     ·rw[if_neg e2];exact .inl rfl
  |r t i' f' =>
   simp only[TG.ob]at hT;subst hT;by_cases e:TG.r t i' f' = .r t i.toNat f
   ·cases e;rw[hkid]at hv';cases hv';rw[if_pos rfl];rfl
   ·rw[hrow i' f' e]at hv';rw[if_neg e];have hv1:upd (vw (cx (ba t) s.H)) (.o t) (Vw.put ⟨ty,u.sz,xs.length,fun i f=>b7 t .own u xs i f⟩ i.toNat f [.val (.slice none 0 0)]) (.r t i' f')=some v' :=(de (by simp)).trans hv';exact OR.re hm (hr.hr.obj _ _ hv1) rfl rfl rfl (fun j g _ _=> .inl (qfz hv').symm) (fun _ _=>HZ.of hm fun _ _=>(qfz hv').symm)
end
end Go.K
namespace Go.K
open Go.M Go.RowKit
section
variable {U : Nat -> Prop} {w0 : World} {J0 : Pl} {K : Nat -> Bool} {N : Nat} {P : Program}
def ou(tg i j:Nat):TG->Ac:=fun T=>if T= .r tg i 0 then .to (.r tg j 0)else if T= .r tg j 0 then .to (.r tg i 0)else .id
theorem q6b{tg i j:Nat}(T:TG):(∃i f,T= .r tg i f)\/ou tg i j T= .id:=by
 by_cases e:T= .r tg i 0
 ·exact .inl ⟨_,_,e⟩
 ·by_cases e' :T= .r tg j 0
  ·exact .inl ⟨_,_,e'⟩
  ·exact .inr (by simp[ou,e,e'])
theorem jrp{s:TS}{a:Act}{w:World}{J:Pl}(h:dr U w0 J0 K N s a w J){tg:Nat}{ty:TypeId}{its:List TypeId}{v:Ty}{xs:List (Ty.slice v).den}{i0 j0:Nat}(ho:s.H[tg]? =some (.arr ty (.swap i0 j0) its (.slice v) xs)){i:Int}(hi:i.toNat<xs.length)(hj:i.toNat=j0)
  {pv:Value} (hp:VR (gr U (vw s.H) w J) (.ptr (.o tg) i 0) pv) {new:List Value} (hnew:mm (gr U (vw s.H) w J) new [.own (.r tg i0 0)]):
  qh1 P U w0 J0 K N ⟨sbS (ba tg) s.S,(cx (ba tg) s.H).set tg (.arr ty .own its (.slice v) ((xs.set i0 (xs.getD j0 (Ty.slice v).dft)).set j0 (xs.getD i0 (Ty.slice v).dft)))⟩ a w pv new:=by
 subst hj;have hk:=h.kills (qo3 tg);have ho1:(cx (ba tg) s.H)[tg]? =some (.arr ty (.swap i0 i.toNat) its (.slice v) xs):=ve ho;have hi0:i0<xs.length:=by
  obtain⟨u,r,rfl,hV,_⟩:=hnew.1;obtain⟨n,sz,hI,_⟩:=hV;have hI:aj (vw s.H) (.r tg i0 0)=some (n,sz):=hI;rcases Wz i0 xs.length with h' |h'
  ·exact h'
  ·simp only[aj,l9 ho,show¬i0<xs.length by omega,and_false,KI]at hI;cases hI
 obtain⟨g0,o,n',sz',hJ,hI,rfl⟩:=hp;have hv:=az ho1;have hI' :aj (vw s.H) (.o tg)=some (n',sz'):=hI;simp only[aj,az ho,Wd,Wb,Wj]at hI';obtain⟨rfl,rfl⟩:=hI';have hG:gr U (vw (cx (ba tg) s.H)) w J=gr U (vw s.H) w J:=by simp only[gr,qg9]
 obtain⟨w',hrun,hr,_⟩:=hk.write P hv hJ (i:=i.toNat) (f:=0) (L:=[.own (.r tg i0 0)]) hi (by simp[Ty.sz]) (by rw[hG];exact hnew);generalize hxs' :(xs.set i0 (xs.getD i.toNat (Ty.slice v).dft)).set i.toNat (xs.getD i0 (Ty.slice v).dft)=xs';have hlen' :xs'.length=xs.length:=by rw[<-hxs'];simp
 have hat:∀k,xs'.getD k (Ty.slice v).dft=if k=i.toNat then xs.getD i0 (Ty.slice v).dft else if k=i0 then xs.getD i.toNat (Ty.slice v).dft else xs.getD k (Ty.slice v).dft:=by
  intro k;rw[<-hxs',b8 (by simpa using hi),b8 hi0]
 have hin:∀(x:(Ty.slice v).den),ek (.slice v) x 0=some ⟨v,x⟩:=fun x=>rfl
 have hin1:∀(x:(Ty.slice v).den) f,ek (.slice v) x (f+1)=none:=fun x f=>rfl
 have hlt:tg<(cx (ba tg) s.H).length:=(Wh.1 ho1).1;have hov:((cx (ba tg) s.H).set tg (.arr ty .own its (.slice v) xs'))[tg]? =some (.arr ty .own its (.slice v) xs'):=Wl hlt;have hrow0:∀k,vw (cx (ba tg) s.H) (.r tg k 0)=if k<xs.length then kv its 0 (some ⟨v,xs.getD k (Ty.slice v).dft⟩)else none:=by
  intro k;rw[l9 ho1,hin];simp[Md.isOwn]
 have hrow1:∀k,vw ((cx (ba tg) s.H).set tg (.arr ty .own its (.slice v) xs')) (.r tg k 0)=if k<xs.length then kv its 0 (some ⟨v,xs'.getD k (Ty.slice v).dft⟩)else none:=by
  intro k;rw[l9 hov,hin,hlen'];simp[Md.isOwn]
 have hrowS:∀k f,vw ((cx (ba tg) s.H).set tg (.arr ty .own its (.slice v) xs')) (.r tg k (f+1))=none/\vw (cx (ba tg) s.H) (.r tg k (f+1))=none:=by
  intro k f;rw[l9 hov,l9 ho1,hin1,hin1];constructor<;>(split<;>rfl)
 have hren:∀T T',T.ob=tg->((ou tg i0 i.toNat T= .id/\T' =T)\/ou tg i0 i.toNat T= .to T')->(T= .o tg/\T' = .o tg)\/∃k k',T= .r tg k 0/\T' = .r tg k' 0/\xs'.getD k' (Ty.slice v).dft=xs.getD k (Ty.slice v).dft/\(k' <xs.length↔k<xs.length)\/∃k f,T= .r tg k (f+1)/\T' =T:=by
  intro T T' hT ht;cases T with
  |o t=>
   simp only[TG.ob]at hT;subst hT;left;rcases ht with⟨_,rfl⟩|ht
   ·exact⟨rfl,rfl⟩
   ·simp[ou]at ht
  |r t k f=>
   simp only[TG.ob]at hT;subst hT;right;cases f with
   |succ f=>
    refine⟨0,0, .inr ⟨k,f,rfl,?_⟩⟩;rcases ht with⟨_,rfl⟩|ht
    ·rfl
    ·simp[ou]at ht
   |zero=>
    by_cases e1:k=i0
    ·subst e1;refine⟨k,i.toNat, .inl ⟨rfl,?_,by rw[hat,if_pos rfl],by omega⟩⟩;simp only[ou,Kw]at ht;rcases ht with⟨ht,_⟩|ht
     ·cases ht
     ·cases ht;rfl
    ·by_cases e2:k=i.toNat
     ·subst e2;refine⟨i.toNat,i0, .inl ⟨rfl,?_,by rw[hat,if_neg (fun e=>e1 e.symm),if_pos rfl],by omega⟩⟩;simp only[ou,TG.r.injEq,e1,and_true,true_and,KI,Kw,false_and,and_false]at ht;rcases ht with⟨ht,_⟩|ht
      ·cases ht
      ·cases ht;rfl
     ·refine⟨k,k, .inl ⟨rfl,?_,by rw[hat,if_neg e2,if_neg e1],Iff.rfl⟩⟩;have hs:ou t i0 i.toNat (.r t k 0)= .id:=by simp[ou,e1,e2]
      rw[hs]at ht;rcases ht with⟨_,ht⟩|ht
      ·exact ht
      ·cases ht
 refine⟨_,w',fun T=>if T= .r tg i0 0 then J (.r tg i.toNat 0)else if T= .r tg i.toNat 0 then J (.r tg i0 0)else J T,rfl,hrun,?_⟩;have hJk:∀k k',(ou tg i0 i.toNat (.r tg k 0)= .id/\k' =k)\/ou tg i0 i.toNat (.r tg k 0)= .to (.r tg k' 0)->(if TG.r tg k' 0= .r tg i0 0 then J (.r tg i.toNat 0)else if TG.r tg k' 0= .r tg i.toNat 0 then J (.r tg i0 0)else J (.r tg k' 0))=J (.r tg k 0):=by
  intro k k' ht;by_cases e1:k=i0
  ·subst e1;simp only[ou,Kw]at ht;rcases ht with⟨ht,_⟩|ht
   ·cases ht
   ·cases ht;by_cases e:i.toNat=k
    ·rw[e];simp
    ·simp[e]
  ·by_cases e2:k=i.toNat
   ·subst e2;simp only[ou,TG.r.injEq,e1,and_true,true_and,KI,Kw,false_and,and_false]at ht;rcases ht with⟨ht,_⟩|ht
    ·cases ht
    ·cases ht;simp
   ·simp only[ou,TG.r.injEq,e1,e2,and_true,true_and,KI]at ht;rcases ht with⟨_,rfl⟩|ht
    ·simp[e1,e2]
    ·cases ht
 have hθk:∀k,∃k',((ou tg i0 i.toNat (.r tg k' 0)= .id/\k=k')\/ou tg i0 i.toNat (.r tg k' 0)= .to (.r tg k 0)):=by
  intro k;by_cases e1:k=i.toNat
  ·exact⟨i0, .inr (by simp[ou,e1])⟩
  ·by_cases e2:k=i0
   ·refine⟨i.toNat, .inr ?_⟩;have:i.toNat≠i0:=fun e=>e1 (e2.trans e.symm)
    simp[ou,this,e2]
   ·exact⟨k, .inl ⟨by simp[ou,e1,e2],rfl⟩⟩
 refine ARel.re' (θ:=ou tg i0 i.toNat) hr (fun t=>t=tg) (fun t=> ?_) (fun T hT=> ?_) (fun T hT=> ?_) (fun T hT=> ?_) (fun T T' q hT ht hq=> ?_) (fun T fr u xs e=> ?_) (fun T p hT hp=> ?_) (fun T T' g o1 o2 hT hT' h1 h2=> ?_) (fun T p hT hp=> ?_) (fun t ht e=> ?_) (fun hm T v' hT hv' => ?_)
 ·show bu (sbS (ba tg) s.S) t=(bu (sbS (ba tg) s.S) t).sb _;rw[fv,TV.sb_sb (ba tg) (ou tg i0 i.toNat) (ba tg) (qcd _ q6b)]
 ·rw[eh hT,de (fun e=>hT (by rw[e];rfl)),<-qya (fun i' f' =>by
   rcases q6b (tg:=tg) (i:=i0) (j:=i.toNat) (.r T.ob i' f')with⟨_,_,e⟩|e
   ·exact absurd (by cases e;rfl) hT
   ·exact e),qgx (ba tg) (ou tg i0 i.toNat) (ba tg) (qcd _ q6b)]
 ·rw[if_neg (fun e=>hT (by rw[e];rfl)),if_neg (fun e=>hT (by rw[e];rfl))]
 ·rcases q6b (tg:=tg) (i:=i0) (j:=i.toNat) T with⟨_,_,e⟩|e
  ·exact absurd (by rw[e];rfl) hT
  ·exact e
 ·rcases hren T T' hT ht with⟨rfl,rfl⟩|⟨k,k',⟨rfl,rfl,hx,hl⟩|⟨k,f,rfl,rfl⟩⟩
  ·refine⟨?_,fun g o hg=>by simp;exact hg⟩;simp only[aj,ec,Wd]at hq;simp only[aj,az hov,Wd,hlen'];exact hq
  ·refine⟨?_,fun g o hg=>by rw[hJk k k' (ht.imp (fun e=>⟨e.1,by have:=e.2;cases this;rfl⟩) id)];exact hg⟩;simp only[aj,de (show TG.r tg k 0≠ .o tg by simp),hrow0]at hq;simp only[aj,hrow1,hx];by_cases e:k<xs.length
   ·rw[if_pos (hl.2 e)];rw[if_pos e]at hq;exact hq
   ·rw[if_neg e]at hq;cases hq
  ·simp only[aj,de (show TG.r tg k (f+1)≠ .o tg by simp),(hrowS k f).2]at hq;cases hq
 ·simp only[ou]at e;split at e
  ·cases e
  ·split at e<;>cases e
 ·split at hp
  ·exact⟨_,rfl,hp⟩
  ·split at hp
   ·exact⟨_,rfl,hp⟩
   ·exact⟨T,hT,hp⟩
 ·split at h1
  ·rename_i e1;split at h2
   ·rename_i e2;rw[e1,e2]
   ·split at h2
    ·rename_i e2 e3;have:=hr.hr.inj _ _ g o1 o2 h1 h2;rw[e1,e3,this]
    ·rename_i e2 e3;have:=hr.hr.inj _ _ g o1 o2 h1 h2;exact absurd this.symm e3
  ·split at h1
   ·rename_i e1 e2;split at h2
    ·rename_i e3;have:=hr.hr.inj _ _ g o1 o2 h1 h2;rw[e2,e3,this]
    ·split at h2
     ·rename_i e4;rw[e2,e4]
     ·rename_i e3 e4;have:=hr.hr.inj _ _ g o1 o2 h1 h2;exact absurd this.symm e3
   ·rename_i e1 e2;split at h2
    ·have:=hr.hr.inj _ _ g o1 o2 h1 h2;exact absurd this e2
    ·split at h2
     ·have:=hr.hr.inj _ _ g o1 o2 h1 h2;exact absurd this e1
     ·exact hr.hr.inj T T' g o1 o2 h1 h2
 ·cases T with
  |o t=>simp only[TG.ob]at hT;subst hT;exact⟨_,az hov⟩
  |r t k f=>
   simp only[TG.ob]at hT;subst hT;have hk:∃k0,((f=0/\(k0<xs.length->k<xs.length))\/f≠0/\k0=k)/\J (.r t k0 f)=some p:=by
    split at hp
    ·rename_i e;cases e;exact⟨i.toNat, .inl ⟨rfl,fun _=>hi0⟩,hp⟩
    ·split at hp
     ·rename_i e;cases e;exact⟨i0, .inl ⟨rfl,fun _=>hi⟩,hp⟩
     ·by_cases e:f=0
      ·exact⟨k, .inl ⟨e,id⟩,hp⟩
      ·exact⟨k, .inr ⟨e,rfl⟩,hp⟩
   obtain⟨k0,hc,hp0⟩:=hk;obtain⟨v0,hv0⟩:=hr.hr.dom _ p hp0;rw[de (by simp)]at hv0;rcases hc with⟨rfl,hl⟩|⟨hf,rfl⟩
   ·rw[hrow0]at hv0;split at hv0
    ·rename_i hlt;exact⟨_,by rw[hrow1,if_pos (hl hlt)];rfl⟩
    ·cases hv0
   ·cases f with
    |zero=>exact absurd rfl hf
    |succ f=>rw[(hrowS _ f).2]at hv0;cases hv0
 ·simp
 ·cases T with
  |o t=>
   simp only[TG.ob]at hT;subst hT;rw[az hov]at hv';cases hv';rw[if_neg (by simp),if_neg (by simp)];refine(hr.hr.obj (.o t) _ (ec _ _ _)).mv hm (fun _ _ _=>rfl) rfl rfl (by simp[Vw.put,hlen']) (fun k f' hk' hf' y hy=> ?_) (fun e _=>absurd e (by simp[Vw.put,Ty.sz]));have hf0:f' =0:=by simp[Vw.put,Ty.sz]at hf';omega
   subst hf0;simp only[qhj]at hy;show VR _ (b7 t .own (.slice v) xs' k 0) y;rw[qmr (hin _)];by_cases e:k=i.toNat
   ·subst e;rw[if_pos ⟨rfl,Wg _,by simp⟩]at hy;have:=VR.mv hm _ y hy;simpa[TV.sb,ou]using this
   ·rw[if_neg (by simp;omega)]at hy;have:=VR.mv hm _ y hy;have hmc:b7 t (.swap i0 i.toNat) (.slice v) xs k 0=if k=i0 then .own (.r t i.toNat 0)else .own (.r t k 0):=rfl
    rw[hmc]at this;by_cases e2:k=i0
    ·subst e2;rw[if_pos rfl]at this;have hne:i.toNat≠k:=fun e' =>e e'.symm
     simpa[TV.sb,ou,hne]using this
    ·rw[if_neg e2]at this;simpa[TV.sb,ou,e,e2]using this
  |r t k f=>
   simp only[TG.ob]at hT;subst hT;cases f with
   |succ f=>rw[(hrowS k f).1]at hv';cases hv'
   |zero=>
    obtain⟨k0,hk0⟩:=hθk k;have hk0' :(ou t i0 i.toNat (.r t k0 0)= .id/\TG.r t k 0= .r t k0 0)\/ou t i0 i.toNat (.r t k0 0)= .to (.r t k 0):=hk0.imp (fun e=>⟨e.1,by rw[e.2]⟩) id;rcases hren (.r t k0 0) (.r t k 0) rfl hk0' with⟨e,_⟩|⟨q,q',⟨e1,e2,hx,hl⟩|⟨q,f,e,_⟩⟩
    ·cases e
    ·cases e1;cases e2;rw[hJk k0 k (hk0.imp (fun e=>⟨e.1,e.2⟩) id)];rw[hrow1]at hv';split at hv'
     ·rename_i hlt;have hv0:upd (vw (cx (ba t) s.H)) (.o t) (Vw.put ⟨ty,(Ty.slice v).sz,xs.length,fun p q=>b7 t (.swap i0 i.toNat) (.slice v) xs p q⟩ i.toNat 0 [.own (.r t i0 0)]) (.r t k0 0)=some v' :=by
       rw[de (by simp),hrow0,if_pos (hl.1 hlt),<-hx];exact hv'
      have hk:∀j g,(v'.cs j g)=(v'.cs j g).sb (ou t i0 i.toNat):=by
       rw[de (by simp)]at hv0;exact fun j g=>(qfz hv0).symm
      exact OR.re hm (hr.hr.obj _ _ hv0) rfl rfl rfl (fun j g _ _=> .inl (hk j g)) (fun _ _=>HZ.of hm hk)
     ·cases hv'
    ·cases e
end
end Go.K
namespace Go.K
open Go.M Go.RowKit
def fm(t2 tg i f:Nat):TG->Ac:=fun T=>if T= .o t2 then .to (.r tg i f)else if T= .r tg i f then .kill else .id
theorem q3s(t2 tg i f:Nat)(T:TG):q6 t2 tg i f T=match ba tg T with| .id=>fm t2 tg i f T| .kill=> .kill| .to T' =>(match fm t2 tg i f T' with| .id=> .to T' |a=>a)| .fz fr u xs=> .fz fr u xs:=by
 cases T with
 |o t' =>
  by_cases e:t' =t2
  ·subst e;simp[q6,ba,fm,W5]
  ·simp[q6,ba,fm,qnf e,e]
 |r t' i' f' =>
  by_cases e:t' =tg
  ·subst e;simp[q6,ba,W5]
  ·simp[q6,ba,fm,qnf e,e]
section
variable {U : Nat -> Prop} {w0 : World} {J0 : Pl} {K : Nat -> Bool} {N : Nat} {P : Program}
set_option maxHeartbeats 4000000 in
theorem ARel.eat{S:Nat->TV}{H1:List TOb}{v1:Vw}{a:Act}{w:World}{J:Pl}{t2 tg:Nat}(h:ARel U w0 J0 K N S (upd (vw H1) (.o tg) v1) a w J){ty:TypeId}{its its2:List TypeId}{u:Ty}{xs xs' :List u.den}{i f:Nat}{ty2:TypeId}{fr2:Bool}{v:Ty}{ys:List v.den}
  (ho1:H1[tg]? =some (.arr ty .own its u xs)) (ho2:H1[t2]? =some (.arr ty2 (.fz fr2) its2 v ys)) (hne:t2≠tg) (hfl:(fr2||v.flat)=true) (hty2:ty2=its.getD f 0) (hK2:K t2=false) (h1ty:v1.ty=ty) (h1sz:v1.sz=u.sz) (h1n:v1.n=xs'.length)
  (hi:i<xs'.length) (hin:ek u (xs'.getD i u.dft) f=some ⟨v,ys⟩) (hcell:v1.cs i f= .own (.o t2)) (hcells:∀i' f',i' <xs'.length->f' <u.sz->(i',f')≠(i,f)->v1.cs i' f' =b7 tg .own u xs' i' f')
  (hrow:∀i' f',(i',f')≠(i,f)->vw (H1.set tg (.arr ty .own its u xs')) (.r tg i' f')=vw H1 (.r tg i' f')):
  ∃J',ARel U w0 J0 K N (fun t=>(S t).sb (fm t2 tg i f)) (vw (((cx (fm t2 tg i f) H1).set tg (.arr ty .own its u xs')).set t2 .gone)) a w J' /\
   Mv (fm t2 tg i f) (gr U (upd (vw H1) (.o tg) v1) w J) (gr U (vw (((cx (fm t2 tg i f) H1).set tg (.arr ty .own its u xs')).set t2 .gone)) w J'):=by
 have hlt:tg<H1.length:=(Wh.1 ho1).1;have hlt2:t2<H1.length:=(Wh.1 ho2).1;let H' :=((cx (fm t2 tg i f) H1).set tg (.arr ty .own its u xs')).set t2 .gone;have hov:H'[tg]? =some (.arr ty .own its u xs'):=by
  show(((cx (fm t2 tg i f) H1).set tg (.arr ty .own its u xs')).set t2 .gone)[tg]? =_;rw[WF hne,Wl (by rw[c7];exact hlt)]
 have hov2:H'[t2]? =some .gone:=Wl (by rw[WB,c7];exact hlt2);have hovs:(H1.set tg (.arr ty .own its u xs'))[tg]? =some (.arr ty .own its u xs'):=Wl hlt;have hrow' :∀i' f',(i',f')≠(i,f)->vw H' (.r tg i' f')=vw H1 (.r tg i' f'):=by
  intro i' f' he;rw[<-hrow i' f' he,l9 hov,l9 hovs]
 have hkid:vw H' (.r tg i f)=some ⟨its.getD f 0,v.sz,ys.length,fun j g=>(v.cells true (ys.getD j v.dft)).getD g .any⟩:=qih hov rfl hi hin;have hg2:∀T,T.ob=t2->vw H' T=none:=by
  intro T hT;cases T with
  |o t=>simp only[TG.ob]at hT;subst hT;simp only[vw,hov2,vwO]
  |r t i f=>simp only[TG.ob]at hT;subst hT;simp only[vw,hov2,vwR]
 have hr2:∀i' f',vw H1 (.r t2 i' f')=none:=fun i' f' =>by rw[l9 ho2];simp[Md.isOwn]
 have hJr2:∀i' f',J (.r t2 i' f')=none:=by
  intro i' f';cases hq:J (.r t2 i' f')with
  |none=>rfl
  |some p=>
   obtain⟨v0,hv0⟩:=h.hr.dom _ p hq;rw[de (by simp),hr2]at hv0;cases hv0
 have hθ:∀T,T≠ .o t2->T≠ .r tg i f->fm t2 tg i f T= .id:=fun T h1 h2=>by simp[fm,h1,h2]
 let J' :Pl:=fun T=>if T= .r tg i f then J (.o t2)else if T.ob=t2 then none else J T
 have hJ'r:J' (.r tg i f)=J (.o t2):=if_pos rfl;have hJ'o:∀T,T≠ .r tg i f->T.ob≠t2->J' T=J T:=fun T h1 h2=>by simp only[J',if_neg h1,if_neg h2]
 have hJ'2:∀T,T≠ .r tg i f->T.ob=t2->J' T=none:=fun T h1 h2=>by simp only[J',if_neg h1,if_pos h2]
 have hV:∀T,¬(T.ob=tg\/T.ob=t2)->vw H' T=(upd (vw H1) (.o tg) v1 T).map (Vw.sb (fm t2 tg i f)):=by
  intro T hT;have h1:T.ob≠tg:=fun e=>hT (.inl e)
  have h2:T.ob≠t2:=fun e=>hT (.inr e)
  rw[de (fun e=>h1 (by rw[e];rfl)),<-qya (fun i' f' =>hθ _ (by simp) (fun e=>h1 (by cases e;rfl)))];exact(eh h2).trans (eh h1)
 have hto:∀T T' q,(T.ob=tg\/T.ob=t2)->(fm t2 tg i f T= .id/\T' =T)\/fm t2 tg i f T= .to T' ->aj (upd (vw H1) (.o tg) v1) T=some q->aj (vw H') T' =some q/\∀g o,J T=some (g,o)->J' T' =some (g,o):=by
  intro T T' q hT ht hq;by_cases e2:T= .o t2
  ·subst e2;have:T' = .r tg i f:=by
    simp only[fm,Kw]at ht;rcases ht with⟨ht,_⟩|ht
    ·cases ht
    ·cases ht;rfl
   subst this;refine⟨?_,fun g o hg=>by rw[hJ'r];exact hg⟩;simp only[aj,de (show TG.o t2≠ .o tg by simp[hne]),az ho2,Wd]at hq;simp only[aj,hkid,Wd];exact hq
  ·by_cases e3:T= .r tg i f
   ·subst e3;have:fm t2 tg i f (.r tg i f)= .kill:=by simp[fm]
    rw[this]at ht;rcases ht with⟨ht,_⟩|ht<;>cases ht
   ·rw[hθ T e2 e3]at ht;rcases ht with⟨_,rfl⟩|ht
    ·rcases hT with hT|hT
     ·refine⟨?_,fun g o hg=>by rw[hJ'o T' e3 (by rw[hT];exact Ko hne)];exact hg⟩;cases T' with
      |o t=>
       simp only[TG.ob]at hT;subst hT;simp only[aj,ec,Wd]at hq;simp only[aj,az hov,Wd];rw[<-hq,h1n,h1sz]
      |r t i' f' =>
       simp only[TG.ob]at hT;subst hT;simp only[aj,de (show TG.r t i' f' ≠ .o t by simp)]at hq;simp only[aj,hrow' i' f' (fun e=>e3 (by cases e;rfl))];exact hq
     ·cases T' with
      |o t=>simp only[TG.ob]at hT;subst hT;exact absurd rfl e2
      |r t i' f' =>
       simp only[TG.ob]at hT;subst hT;simp only[aj,de (show TG.r t i' f' ≠ .o tg by simp),hr2]at hq;cases hq
    ·cases ht
 have hnfz:∀T fr u xs,fm t2 tg i f T≠ .fz fr u xs:=by
  intro T fr u xs e;simp only[fm]at e;split at e
  ·cases e
  ·split at e<;>cases e
 have hown:∀T p,(T.ob=tg\/T.ob=t2)->J' T=some p->∃T0,(T0.ob=tg\/T0.ob=t2)/\J T0=some p:=by
  intro T p hT hp;by_cases e3:T= .r tg i f
  ·rw[e3,hJ'r]at hp;exact⟨_, .inr rfl,hp⟩
  ·by_cases e:T.ob=t2
   ·rw[hJ'2 T e3 e]at hp;cases hp
   ·rw[hJ'o T e3 e]at hp;exact⟨T,hT,hp⟩
 have hJout:∀T,¬(T.ob=tg\/T.ob=t2)->J' T=J T:=fun T hT=>hJ'o T (fun e=>hT (.inl (by rw[e];rfl))) (fun e=>hT (.inr e))
 have hm:Mv (fm t2 tg i f) (gr U (upd (vw H1) (.o tg) v1) w J) (gr U (vw H') w J'):=by
  refine⟨Wg _,fun b _ hx hx' => ?_,fun _ _ _ hu=>hu,fun _ _ _=>rfl,fun T T' q ht hq=> ?_,fun T fr u xs q e=>absurd e (hnfz T fr u xs)⟩
  ·obtain⟨T,o,hT⟩:=hx';by_cases hc:T.ob=tg\/T.ob=t2
   ·obtain⟨T0,_,h0⟩:=hown T _ hc hT;exact hx ⟨T0,o,h0⟩
   ·have hT:J' T=some (b,o):=hT;rw[hJout T hc]at hT;exact hx ⟨T,o,hT⟩
  ·by_cases hc:T.ob=tg\/T.ob=t2
   ·obtain⟨h1,h2⟩:=hto T T' q hc ht hq;exact⟨h1,fun g o hg=>⟨h2 g o hg,fun cur e hh=>⟨cur,hh,rfl⟩⟩⟩
   ·have hid:=hθ T (fun e=>hc (.inr (by rw[e];rfl))) (fun e=>hc (.inl (by rw[e];rfl)));rw[hid]at ht;rcases ht with⟨_,rfl⟩|ht
    ·exact⟨by show aj _ T' =_;rw[qda (hV T' hc)];exact hq,fun g o hg=>⟨by show J' T' =_;rw[hJout T' hc];exact hg,fun cur e hh=>⟨cur,hh,rfl⟩⟩⟩
    ·cases ht
 refine⟨J',ARel.re' (θ:=fm t2 tg i f) h (fun t=>t=tg\/t=t2) (fun t=>rfl) hV hJout (fun T hT=>hθ T (fun e=>hT (.inr (by rw[e];rfl))) (fun e=>hT (.inl (by rw[e];rfl)))) hto hnfz hown (fun T T' g o1 o2 hT hT' h1 h2=> ?_) (fun T p hT hp=> ?_) (fun t ht e=> ?_) (fun hm T v' hT hv' => ?_),hm⟩
 ·by_cases e3:T= .r tg i f
  ·by_cases e3' :T' = .r tg i f
   ·rw[e3,e3']
   ·rw[e3,hJ'r]at h1;by_cases e:T'.ob=t2
    ·rw[hJ'2 T' e3' e]at h2;cases h2
    ·rw[hJ'o T' e3' e]at h2;have:=h.hr.inj _ _ g o1 o2 h1 h2;exact absurd (by rw[<-this];rfl) e
  ·by_cases e:T.ob=t2
   ·rw[hJ'2 T e3 e]at h1;cases h1
   ·rw[hJ'o T e3 e]at h1;by_cases e3' :T' = .r tg i f
    ·rw[e3',hJ'r]at h2;have:=h.hr.inj _ _ g o1 o2 h1 h2;exact absurd (by rw[this];rfl) e
    ·by_cases e' :T'.ob=t2
     ·rw[hJ'2 T' e3' e']at h2;cases h2
     ·rw[hJ'o T' e3' e']at h2;exact h.hr.inj _ _ g o1 o2 h1 h2
 ·by_cases e3:T= .r tg i f
  ·rw[e3];exact⟨_,hkid⟩
  ·by_cases e:T.ob=t2
   ·rw[hJ'2 T e3 e]at hp;cases hp
   ·rw[hJ'o T e3 e]at hp;rcases hT with hT|hT
    ·obtain⟨v0,hv0⟩:=h.hr.dom T p hp;cases T with
     |o t=>simp only[TG.ob]at hT;subst hT;exact⟨_,az hov⟩
     |r t i' f' =>
      simp only[TG.ob]at hT;subst hT;rw[de (by simp)]at hv0;exact⟨v0,by rw[hrow' i' f' (fun e=>e3 (by cases e;rfl))];exact hv0⟩
    ·exact absurd hT e
 ·rcases e with rfl|rfl
  ·exact hJ'o (.o _) (by simp) (Ko hne)
  ·rw[hK2]at ht;cases ht
 ·rcases hT with hT|hT
  ·cases T with
   |o t=>
    simp only[TG.ob]at hT;subst hT;rw[az hov]at hv';cases hv';rw[hJ'o (.o t) (by simp) (Ko hne)];refine(h.hr.obj (.o t) _ (ec _ _ _)).mv hm (fun _ _ _=>rfl) h1ty.symm h1sz.symm h1n.symm (fun i' f' hi' hf' y hy=> ?_) (fun _ e=>absurd e (by omega));rw[h1n]at hi';rw[h1sz]at hf';show VR _ (b7 t .own u xs' i' f') y;have hmv:=VR.mv hm _ y hy;by_cases e:(i',f')=(i,f)
    ·cases e;rw[hcell]at hmv;rw[qmr hin];simpa[TV.sb,fm]using hmv
    ·rw[hcells i' f' hi' hf' e,qde (hθ _ (by simp) (fun e' =>e (by cases e';rfl)))]at hmv;exact hmv
   |r t i' f' =>
    simp only[TG.ob]at hT;subst hT;by_cases e:(i',f')=(i,f)
    ·cases e;rw[hkid]at hv';cases hv';rw[hJ'r];have hv2:upd (vw H1) (.o t) v1 (.o t2)=some ⟨ty2,v.sz,ys.length,fun p q=>b7 t2 (.fz fr2) v ys p q⟩:=(de (by simp[hne])).trans (az ho2);refine(h.hr.obj (.o t2) _ hv2).mv hm (fun _ _ _=>rfl) hty2.symm rfl rfl (fun j g hj hg y hy=> ?_) (fun h0 _=>HZ.any (fun i f=>qbe (t:=t2) (md:= .fz fr2) (xs:=ys) h0) (fun i f=>qj3 h0 _ _ _));have hg2:g<v.sz:=hg;have hy:VR (gr U (upd (vw H1) (.o t) v1) w J) (b7 t2 (.fz fr2) v ys j g) y:=hy;rw[ns,<-Ty.C_iff _ _ _ _ _ _ hg2]at hy;have:=Ty.C_fl (fr' :=true) (fun _=>by simpa using hfl) hy;have:=(Ty.C_iff (gr U (upd (vw H1) (.o t) v1) w J) true v _ g y hg2).1 this;have:=VR.mv hm _ y this;rw[Ty.cells_sb]at this;exact this
    ·have e3:TG.r t i' f' ≠ .r t i f:=fun e' =>e (by cases e';rfl)
     rw[hrow' i' f' e]at hv';rw[hJ'o (.r t i' f') e3 (Ko hne)];exact OR.re hm (h.hr.obj _ _ ((de (by simp)).trans hv')) rfl rfl rfl (fun j g _ _=> .inl (qfz hv').symm) (fun _ _=>HZ.of hm fun _ _=>(qfz hv').symm)
  ·rw[hg2 T hT]at hv';cases hv'
set_option maxHeartbeats 4000000 in
theorem ARel.eatM{S:Nat->TV}{H1:List TOb}{v1:Vw}{a:Act}{w:World}{J:Pl}{t2 tg:Nat}(h:ARel U w0 J0 K N S (upd (vw H1) (.o tg) v1) a w J){ku v:Ty}{ety ty2:TypeId}{es:List (ku.den×List v.den)}{key:ku.den}{its2:List TypeId}{fr2:Bool}{ys:List v.den}
  (ho1:H1[tg]? =some (.mo ku v ety es none)) (ho2:H1[t2]? =some (.arr ty2 (.fz fr2) its2 v ys)) (hne:t2≠tg) (hfl:(fr2||v.flat)=true) (hty2:ty2=ety) (hK2:K t2=false) (h1ty:v1.ty=0) (h1sz:v1.sz=0) (h1n:v1.n=0)
  (hcs:∀i f,moC tg ku (es++[(key,ys)]) none i f=(v1.cs i f).sb (fm t2 tg es.length 0)):
  ∃J',ARel U w0 J0 K N (fun t=>(S t).sb (fm t2 tg es.length 0)) (vw (((cx (fm t2 tg es.length 0) H1).set tg (.mo ku v ety (es++[(key,ys)]) none)).set t2 .gone)) a w J' /\
   Mv (fm t2 tg es.length 0) (gr U (upd (vw H1) (.o tg) v1) w J) (gr U (vw (((cx (fm t2 tg es.length 0) H1).set tg (.mo ku v ety (es++[(key,ys)]) none)).set t2 .gone)) w J'):=by
 have hlt:tg<H1.length:=(Wh.1 ho1).1;have hlt2:t2<H1.length:=(Wh.1 ho2).1;let H' :=((cx (fm t2 tg es.length 0) H1).set tg (.mo ku v ety (es++[(key,ys)]) none)).set t2 .gone;have hov:H'[tg]? =some (.mo ku v ety (es++[(key,ys)]) none):=by
  show(((cx (fm t2 tg es.length 0) H1).set tg (.mo ku v ety (es++[(key,ys)]) none)).set t2 .gone)[tg]? =_;rw[WF hne,Wl (by rw[c7];exact hlt)]
 have hov2:H'[t2]? =some .gone:=Wl (by rw[WB,c7];exact hlt2);have hn0:es.length<(es++[(key,ys)]).length:=by simp
 have hrow' :∀i' f',(i',f')≠(es.length,0)->vw H' (.r tg i' f')=vw H1 (.r tg i' f'):=by
  intro i' f' he;rw[qm hov,qm ho1];by_cases hf:f' =0
  ·have hne' :i' ≠es.length:=fun e=>he (by rw[e,hf])
   have hlen:(es++[(key,ys)]).length=es.length+1:=by simp
   by_cases hi:i' <es.length
   ·have e1:qeh (es++[(key,ys)]) i' =qeh es i' :=by unfold qeh;rw[Wo hi]
    rw[if_pos ⟨hf,by omega⟩,if_pos ⟨hf,hi⟩,e1]
   ·rw[if_neg (by omega),if_neg (by omega)]
  ·rw[if_neg (fun e=>hf e.1),if_neg (fun e=>hf e.1)]
 have hmr:qeh (es++[(key,ys)]) es.length=ys:=by unfold qeh;simp
 have hkid:vw H' (.r tg es.length 0)=some ⟨ety,v.sz,ys.length,fun j g=>(v.cells true (ys.getD j v.dft)).getD g .any⟩:=by
  rw[qm hov,if_pos ⟨rfl,hn0⟩,hmr]
 have hg2:∀T,T.ob=t2->vw H' T=none:=by
  intro T hT;cases T with
  |o t=>simp only[TG.ob]at hT;subst hT;simp only[vw,hov2,vwO]
  |r t i f=>simp only[TG.ob]at hT;subst hT;simp only[vw,hov2,vwR]
 have hr2:∀i' f',vw H1 (.r t2 i' f')=none:=fun i' f' =>by rw[l9 ho2];simp[Md.isOwn]
 have hJr2:∀i' f',J (.r t2 i' f')=none:=by
  intro i' f';cases hq:J (.r t2 i' f')with
  |none=>rfl
  |some p=>
   obtain⟨v0,hv0⟩:=h.hr.dom _ p hq;rw[de (by simp),hr2]at hv0;cases hv0
 have hθ:∀T,T≠ .o t2->T≠ .r tg es.length 0->fm t2 tg es.length 0 T= .id:=fun T h1 h2=>by simp[fm,h1,h2]
 let J' :Pl:=fun T=>if T= .r tg es.length 0 then J (.o t2)else if T.ob=t2 then none else J T
 have hJ'r:J' (.r tg es.length 0)=J (.o t2):=if_pos rfl;have hJ'o:∀T,T≠ .r tg es.length 0->T.ob≠t2->J' T=J T:=fun T h1 h2=>by simp only[J',if_neg h1,if_neg h2]
 have hJ'2:∀T,T≠ .r tg es.length 0->T.ob=t2->J' T=none:=fun T h1 h2=>by simp only[J',if_neg h1,if_pos h2]
 have hV:∀T,¬(T.ob=tg\/T.ob=t2)->vw H' T=(upd (vw H1) (.o tg) v1 T).map (Vw.sb (fm t2 tg es.length 0)):=by
  intro T hT;have h1:T.ob≠tg:=fun e=>hT (.inl e)
  have h2:T.ob≠t2:=fun e=>hT (.inr e)
  rw[de (fun e=>h1 (by rw[e];rfl)),<-qya (fun i' f' =>hθ _ (by simp) (fun e=>h1 (by cases e;rfl)))];exact(eh h2).trans (eh h1)
 have hto:∀T T' q,(T.ob=tg\/T.ob=t2)->(fm t2 tg es.length 0 T= .id/\T' =T)\/fm t2 tg es.length 0 T= .to T' ->aj (upd (vw H1) (.o tg) v1) T=some q->aj (vw H') T' =some q/\∀g o,J T=some (g,o)->J' T' =some (g,o):=by
  intro T T' q hT ht hq;by_cases e2:T= .o t2
  ·subst e2;have:T' = .r tg es.length 0:=by
    simp only[fm,Kw]at ht;rcases ht with⟨ht,_⟩|ht
    ·cases ht
    ·cases ht;rfl
   subst this;refine⟨?_,fun g o hg=>by rw[hJ'r];exact hg⟩;simp only[aj,de (show TG.o t2≠ .o tg by simp[hne]),az ho2,Wd]at hq;simp only[aj,hkid,Wd];exact hq
  ·by_cases e3:T= .r tg es.length 0
   ·subst e3;have:fm t2 tg es.length 0 (.r tg es.length 0)= .kill:=by simp[fm]
    rw[this]at ht;rcases ht with⟨ht,_⟩|ht<;>cases ht
   ·rw[hθ T e2 e3]at ht;rcases ht with⟨_,rfl⟩|ht
    ·rcases hT with hT|hT
     ·refine⟨?_,fun g o hg=>by rw[hJ'o T' e3 (by rw[hT];exact Ko hne)];exact hg⟩;cases T' with
      |o t=>
       simp only[TG.ob]at hT;subst hT;simp only[aj,ec,Wd]at hq;simp only[aj,qa0 hov,Wd];rw[<-hq,h1n,h1sz]
      |r t i' f' =>
       simp only[TG.ob]at hT;subst hT;simp only[aj,de (show TG.r t i' f' ≠ .o t by simp)]at hq;simp only[aj,hrow' i' f' (fun e=>e3 (by cases e;rfl))];exact hq
     ·cases T' with
      |o t=>simp only[TG.ob]at hT;subst hT;exact absurd rfl e2
      |r t i' f' =>
       simp only[TG.ob]at hT;subst hT;simp only[aj,de (show TG.r t i' f' ≠ .o tg by simp),hr2]at hq;cases hq
    ·cases ht
 have hnfz:∀T fr u xs,fm t2 tg es.length 0 T≠ .fz fr u xs:=by
  intro T fr u xs e;simp only[fm]at e;split at e
  ·cases e
  ·split at e<;>cases e
 have hown:∀T p,(T.ob=tg\/T.ob=t2)->J' T=some p->∃T0,(T0.ob=tg\/T0.ob=t2)/\J T0=some p:=by
  intro T p hT hp;by_cases e3:T= .r tg es.length 0
  ·rw[e3,hJ'r]at hp;exact⟨_, .inr rfl,hp⟩
  ·by_cases e:T.ob=t2
   ·rw[hJ'2 T e3 e]at hp;cases hp
   ·rw[hJ'o T e3 e]at hp;exact⟨T,hT,hp⟩
 have hJout:∀T,¬(T.ob=tg\/T.ob=t2)->J' T=J T:=fun T hT=>hJ'o T (fun e=>hT (.inl (by rw[e];rfl))) (fun e=>hT (.inr e))
 have hm:Mv (fm t2 tg es.length 0) (gr U (upd (vw H1) (.o tg) v1) w J) (gr U (vw H') w J'):=by
  refine⟨Wg _,fun b _ hx hx' => ?_,fun _ _ _ hu=>hu,fun _ _ _=>rfl,fun T T' q ht hq=> ?_,fun T fr u xs q e=>absurd e (hnfz T fr u xs)⟩
  ·obtain⟨T,o,hT⟩:=hx';by_cases hc:T.ob=tg\/T.ob=t2
   ·obtain⟨T0,_,h0⟩:=hown T _ hc hT;exact hx ⟨T0,o,h0⟩
   ·have hT:J' T=some (b,o):=hT;rw[hJout T hc]at hT;exact hx ⟨T,o,hT⟩
  ·by_cases hc:T.ob=tg\/T.ob=t2
   ·obtain⟨h1,h2⟩:=hto T T' q hc ht hq;exact⟨h1,fun g o hg=>⟨h2 g o hg,fun cur e hh=>⟨cur,hh,rfl⟩⟩⟩
   ·have hid:=hθ T (fun e=>hc (.inr (by rw[e];rfl))) (fun e=>hc (.inl (by rw[e];rfl)));rw[hid]at ht;rcases ht with⟨_,rfl⟩|ht
    ·exact⟨by show aj _ T' =_;rw[qda (hV T' hc)];exact hq,fun g o hg=>⟨by show J' T' =_;rw[hJout T' hc];exact hg,fun cur e hh=>⟨cur,hh,rfl⟩⟩⟩
    ·cases ht
 refine⟨J',ARel.re' (θ:=fm t2 tg es.length 0) h (fun t=>t=tg\/t=t2) (fun t=>rfl) hV hJout (fun T hT=>hθ T (fun e=>hT (.inr (by rw[e];rfl))) (fun e=>hT (.inl (by rw[e];rfl)))) hto hnfz hown (fun T T' g o1 o2 hT hT' h1 h2=> ?_) (fun T p hT hp=> ?_) (fun t ht e=> ?_) (fun hm T v' hT hv' => ?_),hm⟩
 ·by_cases e3:T= .r tg es.length 0
  ·by_cases e3' :T' = .r tg es.length 0
   ·rw[e3,e3']
   ·rw[e3,hJ'r]at h1;by_cases e:T'.ob=t2
    ·rw[hJ'2 T' e3' e]at h2;cases h2
    ·rw[hJ'o T' e3' e]at h2;have:=h.hr.inj _ _ g o1 o2 h1 h2;exact absurd (by rw[<-this];rfl) e
  ·by_cases e:T.ob=t2
   ·rw[hJ'2 T e3 e]at h1;cases h1
   ·rw[hJ'o T e3 e]at h1;by_cases e3' :T' = .r tg es.length 0
    ·rw[e3',hJ'r]at h2;have:=h.hr.inj _ _ g o1 o2 h1 h2;exact absurd (by rw[this];rfl) e
    ·by_cases e' :T'.ob=t2
     ·rw[hJ'2 T' e3' e']at h2;cases h2
     ·rw[hJ'o T' e3' e']at h2;exact h.hr.inj _ _ g o1 o2 h1 h2
 ·by_cases e3:T= .r tg es.length 0
  ·rw[e3];exact⟨_,hkid⟩
  ·by_cases e:T.ob=t2
   ·rw[hJ'2 T e3 e]at hp;cases hp
   ·rw[hJ'o T e3 e]at hp;rcases hT with hT|hT
    ·obtain⟨v0,hv0⟩:=h.hr.dom T p hp;cases T with
     |o t=>simp only[TG.ob]at hT;subst hT;exact⟨_,qa0 hov⟩
     |r t i' f' =>
      simp only[TG.ob]at hT;subst hT;rw[de (by simp)]at hv0;exact⟨v0,by rw[hrow' i' f' (fun e=>e3 (by cases e;rfl))];exact hv0⟩
    ·exact absurd hT e
 ·rcases e with rfl|rfl
  ·exact hJ'o (.o _) (by simp) (Ko hne)
  ·rw[hK2]at ht;cases ht
 ·rcases hT with hT|hT
  ·cases T with
   |o t=>
    simp only[TG.ob]at hT;subst hT;rw[qa0 hov]at hv';cases hv';rw[hJ'o (.o t) (by simp) (Ko hne)];exact(h.hr.obj (.o t) _ (ec _ _ _)).mv hm (fun _ _ _=>rfl) h1ty.symm h1sz.symm h1n.symm (fun i' f' hi' hf' y hy=>absurd hi' (by rw[h1n];exact Nat.not_lt_zero _)) (fun _ _=>HZ.of hm fun i' f' =>hcs i' f')
   |r t i' f' =>
    simp only[TG.ob]at hT;subst hT;by_cases e:(i',f')=(es.length,0)
    ·cases e;rw[hkid]at hv';cases hv';rw[hJ'r];have hv2:upd (vw H1) (.o t) v1 (.o t2)=some ⟨ty2,v.sz,ys.length,fun p q=>b7 t2 (.fz fr2) v ys p q⟩:=(de (by simp[hne])).trans (az ho2);refine(h.hr.obj (.o t2) _ hv2).mv hm (fun _ _ _=>rfl) hty2.symm rfl rfl (fun j g hj hg y hy=> ?_) (fun h0 _=>HZ.any (fun i f=>qbe (t:=t2) (md:= .fz fr2) (xs:=ys) h0) (fun i f=>qj3 h0 _ _ _));have hg2:g<v.sz:=hg;have hy:VR (gr U (upd (vw H1) (.o t) v1) w J) (b7 t2 (.fz fr2) v ys j g) y:=hy;rw[ns,<-Ty.C_iff _ _ _ _ _ _ hg2]at hy;have:=Ty.C_fl (fr' :=true) (fun _=>by simpa using hfl) hy;have:=(Ty.C_iff (gr U (upd (vw H1) (.o t) v1) w J) true v _ g y hg2).1 this;have:=VR.mv hm _ y this;rw[Ty.cells_sb]at this;exact this
    ·have e3:TG.r t i' f' ≠ .r t es.length 0:=fun e' =>e (by cases e';rfl)
     rw[hrow' i' f' e]at hv';rw[hJ'o (.r t i' f') e3 (Ko hne)];exact OR.re hm (h.hr.obj _ _ ((de (by simp)).trans hv')) rfl rfl rfl (fun j g _ _=> .inl (qfz hv').symm) (fun _ _=>HZ.of hm fun _ _=>(qfz hv').symm)
  ·rw[hg2 T hT]at hv';cases hv'
theorem jwe{s:TS}{a:Act}{w:World}{J:Pl}(h:dr U w0 J0 K N s a w J){tg t2:Nat}{ty:TypeId}{its its2:List TypeId}{u:Ty}{xs:List u.den}(ho:s.H[tg]? =some (.arr ty .own its u xs)){ty2:TypeId}{fr2:Bool}{v:Ty}{ys:List v.den}
  (ho2:s.H[t2]? =some (.arr ty2 (.fz fr2) its2 v ys)) (hne:t2≠tg) (hfl:(fr2||v.flat)=true) {i:Int} {f:Nat} (hty2:ty2=its.getD f 0) (hK2:K t2=false) (hi:i.toNat<xs.length) {x' :u.den} (hset:q0s u (xs.getD i.toNat u.dft) f v ys=some x')
  {pv:Value} (hp:VR (gr U (vw s.H) w J) (.ptr (.o tg) i f) pv) {new:List Value} (hnew:mm (gr U (vw s.H) w J) new [.own (.o t2)]):
  qh1 P U w0 J0 K N ⟨sbS (q6 t2 tg i.toNat f) s.S,((cx (q6 t2 tg i.toNat f) s.H).set tg (.arr ty .own its u (xs.set i.toNat x'))).set t2 .gone⟩ a w pv new:=by
 have hk:=h.kills (qo3 tg);have ho1:(cx (ba tg) s.H)[tg]? =some (.arr ty .own its u xs):=ve ho;have ho12:(cx (ba tg) s.H)[t2]? =some (.arr ty2 (.fz fr2) its2 v ys):=ve ho2;obtain⟨g0,o,n',sz',hJ,hI,rfl⟩:=hp;have hv:=az ho1;have hI' :aj (vw s.H) (.o tg)=some (n',sz'):=hI;simp only[aj,az ho,Wd,Wb,Wj]at hI';obtain⟨rfl,rfl⟩:=hI';obtain⟨⟨zs,hin0⟩,hin',hoth⟩:=q5y hset;have hfu:=qo1 hin0;have hG:gr U (vw (cx (ba tg) s.H)) w J=gr U (vw s.H) w J:=by simp only[gr,qg9]
 obtain⟨w',hrun,hr,_⟩:=hk.write P hv hJ (i:=i.toNat) (f:=f) (L:=[.own (.o t2)]) hi (by simp only[Ks];omega) (by rw[hG];exact hnew);have hlt:tg<(cx (ba tg) s.H).length:=(Wh.1 ho1).1;have hov:((cx (ba tg) s.H).set tg (.arr ty .own its u (xs.set i.toNat x')))[tg]? =some (.arr ty .own its u (xs.set i.toNat x')):=Wl hlt;obtain⟨J',he,_⟩:=ARel.eat (i:=i.toNat) (f:=f) (xs' :=xs.set i.toNat x') hr ho1 ho12 hne hfl hty2 hK2 rfl rfl (by simp[Vw.put]) (by simpa using hi) (by rw[b8 hi,if_pos rfl];exact hin') (by rw[qhj,if_pos ⟨rfl,Wg _,by simp⟩];simp)
  (fun i' f' hi' hf' hne' =>by
   rw[qhj,if_neg (by simp only[Ks];intro hc;exact hne' (by rw[hc.1,show f' =f by omega]))];show b7 tg .own u xs i' f' =_;rw[qcf (xs:=xs) (xs' :=xs.set i.toNat x') rfl];rw[b8 hi];by_cases e2:i' =i.toNat
   ·subst e2;rw[if_pos rfl];exact .inl (hoth f' (fun e' =>hne' (by rw[e'])))
   ·rw[if_neg e2];exact .inl rfl)
  (fun i' f' hne' =>by
   rw[l9 hov,l9 ho1,b8 hi,WB];split
   ·by_cases e:i' =i.toNat
    ·subst e;rw[if_pos rfl,qha (hoth f' (fun e=>hne' (by rw[e])))]
    ·rw[if_neg e]
   ·rfl)
 refine⟨_,w',J',rfl,hrun,?_⟩;have e1:(fun t=>(bu (sbS (ba tg) s.S) t).sb (fm t2 tg i.toNat f))=bu (sbS (q6 t2 tg i.toNat f) s.S):=by
  funext t;rw[fv,fv,TV.sb_sb (ba tg) (fm t2 tg i.toNat f) (q6 t2 tg i.toNat f) (q3s t2 tg i.toNat f)]
 have e2:cx (fm t2 tg i.toNat f) (cx (ba tg) s.H)=cx (q6 t2 tg i.toNat f) s.H:=qgx (ba tg) (fm t2 tg i.toNat f) (q6 t2 tg i.toNat f) (q3s t2 tg i.toNat f) s.H;rw[e2]at he;have he' :ARel U w0 J0 K N (fun t=>(bu (sbS (ba tg) s.S) t).sb (fm t2 tg i.toNat f)) (vw (((cx (q6 t2 tg i.toNat f) s.H).set tg (.arr ty .own its u (xs.set i.toNat x'))).set t2 .gone)) a w' J' :=he;rw[e1]at he';exact he'
end
end Go.K
namespace Go.K
open Go.M Go.RowKit
variable {F : Nat -> Prop}
def Fix(T:TG)(δ:List St):Prop:=∀θ,St.sb θ∈δ->θ T= .id
theorem Fix.ptr{T:TG}{i:Int}{f:Nat}:∀{δ:List St},Fix T δ->vAps (.ptr T i f) δ= .ptr T i f
 |[],_=>rfl
 | .sb θ::δ,h=>by
  have h1:=h θ (Wf ..);simp only[vAps,vAp,TV.sb,h1];exact Fix.ptr (δ:=δ) fun θ' h' =>h θ' (We _ h')
 | .set t o::δ,h=>Fix.ptr (δ:=δ) fun θ' h' =>h θ' (We _ h')
 | .new t o::δ,h=>Fix.ptr (δ:=δ) fun θ' h' =>h θ' (We _ h')
theorem Fix.own{T:TG}:∀{δ:List St},Fix T δ->vAps (.own T) δ= .own T
 |[],_=>rfl
 | .sb θ::δ,h=>by
  have h1:=h θ (Wf ..);simp only[vAps,vAp,TV.sb,h1];exact Fix.own (δ:=δ) fun θ' h' =>h θ' (We _ h')
 | .set t o::δ,h=>Fix.own (δ:=δ) fun θ' h' =>h θ' (We _ h')
 | .new t o::δ,h=>Fix.own (δ:=δ) fun θ' h' =>h θ' (We _ h')
theorem Fix.app{T:TG}{δ δ' :List St}(h:Fix T δ)(h' :Fix T δ'):Fix T (δ++δ'):=fun θ hm=>(WS.1 hm).elim (h θ) (h' θ)
def jcs(H:List TOb)(t:Nat):Prop:=∀ob,H[t]? =some ob->ob= .gone
theorem jid(H0 H:List TOb)(t:Nat):jcs (jt H (jau H0 t)) t:=by
 intro ob h;have h:((cx (qfx (H0.getD t .gone) t) H).set t .gone)[t]? =some ob:=h;rcases Wz t (cx (qfx (H0.getD t .gone) t) H).length with h' |h'
 ·rw[Wl h']at h;cases h;rfl
 ·rw[Wp (by simpa using h')]at h;cases h
theorem jcs.frz{H:List TOb}{t:Nat}(h:jcs H t)(H0:List TOb)(t' :Nat):jcs (jt H (jau H0 t')) t:=by
 by_cases e:t' =t
 ·subst e;exact jid H0 H t'
 ·intro ob hob;have hob:((cx (qfx (H0.getD t' .gone) t') H).set t' .gone)[t]? =some ob:=hob;rw[WF e,ij]at hob;cases hq:H[t]? with
  |none=>rw[hq]at hob;cases hob
  |some o=>rw[hq]at hob;have:=h o hq;subst this;simp[TOb.sb]at hob;exact hob.symm
theorem jcs.dem{H:List TOb}{t:Nat}(h:jcs H t)(t' :Nat):jcs (jt H (qeg H t')) t:=by
 unfold qeg;split
 ·rename_i ty its u xs ho;by_cases e:t' =t
  ·subst e;have:=h _ ho;cases this
  ·intro ob hob;have hob:((cx (qh4 u xs t') H).set t' (.arr ty (.fz true) its u xs))[t]? =some ob:=hob;rw[WF e,ij]at hob;cases hq:H[t]? with
   |none=>rw[hq]at hob;cases hob
   |some o=>rw[hq]at hob;have:=h o hq;subst this;simp[TOb.sb]at hob;exact hob.symm
 ·exact h
theorem qvl{kp:List Bool}:∀(l:List TG) (H:List TOb) (δ:List St) (t:Nat),ov kp l H=some δ->jcs H t->jcs (jt H δ) t
 |[],H,δ,t,h,hg=>by simp only[ov,Wb]at h;subst h;exact hg
 | .o t' ::l,H,δ,t,h,hg=>by
  simp only[ov]at h;obtain⟨_,h⟩:=ai h;split at h
  ·rename_i δ1 h1;cases h;rw[ut];exact qvl l _ δ1 t h1 (hg.frz H t')
  ·cases h
 | .r t' i f::l,H,δ,t,h,hg=>by
  simp only[ov]at h;obtain⟨_,h⟩:=ai h;split at h
  ·rename_i δ1 h1;cases h;rw[ut];exact qvl l _ δ1 t h1 (hg.dem t')
  ·cases h
theorem q3p(H:List TOb)(t t' :Nat):Fix (.o t) (qeg H t'):=by
 unfold qeg;split
 ·intro θ h;simp only[Wr,St.sb.injEq,reduceCtorEq,Hw,or_false]at h;subst h;rfl
 ·intro θ h;simp at h
theorem qq8{kp:List Bool}:∀(l:List TG) (H:List TOb) (δ:List St) (t:Nat),ov kp l H=some δ->¬jcs (jt H δ) t->Fix (.o t) δ
 |[],H,δ,t,h,hg=>by simp only[ov,Wb]at h;subst h;intro θ h;simp at h
 | .o t' ::l,H,δ,t,h,hg=>by
  simp only[ov]at h;obtain⟨_,h⟩:=ai h;split at h
  ·rename_i δ1 h1;cases h;rw[ut]at hg;refine Fix.app ?_ (qq8 l _ δ1 t h1 hg);intro θ hm;simp only[jau,Wr,St.sb.injEq,reduceCtorEq,Hw,or_false]at hm;subst hm;refine jb7 (T:= .o t) (fun e=>hg ?_);have e:t=t' :=e;subst e;exact qvl l _ δ1 t h1 (jid H H t)
  ·cases h
 | .r t' i f::l,H,δ,t,h,hg=>by
  simp only[ov]at h;obtain⟨_,h⟩:=ai h;split at h
  ·rename_i δ1 h1;cases h;rw[ut]at hg;exact Fix.app (q3p H t t') (qq8 l _ δ1 t h1 hg)
  ·cases h
section
variable {U : Nat -> Prop} {w0 : World} {J0 : Pl} {K : Nat -> Bool} {N : Nat} {P : Program} {R Rf : Type}
theorem qjr{G:Gr}{A:TV}(hs:A.scalar=true){v:Value}(hv:VR G A v):v.cells.size=1/\mm G v.cells.toList [A]:=by
 have hna:∀cs,A≠ .agg cs:=by rintro cs rfl;cases hs
 have h1:qnh 1 A=some [A]:=by
  unfold qnh;split
  ·exact absurd rfl (hna _)
  ·simp[hs,Nat.beq]
 obtain⟨h2,h3⟩:=yc h1 hv;exact⟨by rw[<-WO,h3.1.len];rfl,h3⟩
theorem jwb{s:TS}{a:Act}{w:World}{J:Pl}(hr:dr U w0 J0 K N s a w J){Hv:List TOb}(hl:HLe F Hv s.H){tg:Nat}{i:Int}{f:Nat}{new:List TV}{k:List St->Option R}{r:R}(h:q2l Hv tg i f new k=some r)
  {pv:Value} (hp:VR (gr U (vw s.H) w J) (.ptr (.o tg) i f) pv) {cells:List Value} (hn:mm (gr U (vw s.H) w J) cells new):∃δ,k δ=some r/\qh1 P U w0 J0 K N (s.aps δ) a w pv cells:=by
 unfold q2l at h;split at h
 ·rename_i ty fr its u xs hov;have ho:=hl.ob hov;split at h
  ·rename_i cs' hput;split at h
   ·rename_i x' g hpk;obtain⟨hix,h⟩:=cr h;exact⟨_,h,j0k hr ho (qbd hix).2 hput hpk hp hn⟩
   ·cases h
  ·cases h
 ·cases h
theorem ji9{X:Ctx Rf}(hK:∀t,bt X.kp t=false->K t=false){ti:TI}{s:TS}{a:Act}{w:World}{J:Pl}(hr:dr U w0 J0 K N s a w J){Hv:List TOb}(hl:HLe F Hv s.H){tg:Nat}{i:Int}{f:Nat}{δ0:List St}{v:TV}{k:List St->Option R}{r:R}
  (h:q2k X ti Hv tg i f δ0 v k=some r) {pv xv:Value} (hp:VR (gr U (vw s.H) w J) (.ptr (.o tg) i f) pv) (hv:VR (gr U (vw s.H) w J) v xv):
  ∃δ,k (δ0++δ)=some r/\xv.cells.size=ti.sz/\qh1 P U w0 J0 K N (s.aps δ) a w pv xv.cells.toList:=by
 unfold q2k at h;split at h
 ·rename_i δ hd;split at h
  ·rename_i new hc;obtain⟨hg,hl1⟩:=qjs (U:=U) (w0:=w0) (J0:=J0) (K:=K) (N:=N) hK v.tags Hv s δ hl hd;obtain⟨J1,hr1,hmv⟩:=hg a w J hr;have hng:¬jcs (jt Hv δ) tg:=by
    intro hgone;unfold q2l at h;split at h
    ·rename_i ho;have:=hgone _ ho;cases this
    ·cases h
   have hfix:=qq8 v.tags Hv δ tg hd hng;have hp1:=hmv _ _ hp;rw[hfix.ptr]at hp1;obtain⟨c1,c2⟩:=yc hc (hmv _ _ hv);obtain⟨δ',hk,hst⟩:=jwb (P:=P) hr1 (by rw[qol];exact hl1) h hp1 c2;refine⟨δ++δ',hk,by rw[<-WO,c2.1.len,c1],?_⟩;rw[qja];exact hst
  ·cases h
 ·cases h
theorem jwc{X:Ctx Rf}(hK:∀t,bt X.kp t=false->K t=false){s:TS}{a:Act}{w:World}{J:Pl}(hr:dr U w0 J0 K N s a w J){Hv:List TOb}(hl:HLe F Hv s.H){ty:TypeId}{its:List TypeId}{u:Ty}{xs:List u.den}{tg:Nat}(hov:Hv[tg]? =some (.arr ty .own its u xs))
  {i:Int} {f:Nat} {v:TV} (ht:jl8 v=true) {k:List St->Option R} {r:R} (h:q84 X Hv ty its u xs tg i f v k=some r) {pv xv:Value} (hp:VR (gr U (vw s.H) w J) (.ptr (.o tg) i f) pv) (hv:VR (gr U (vw s.H) w J) v xv):
  ∃δ,k δ=some r/\xv.cells.size=1/\qh1 P U w0 J0 K N (s.aps δ) a w pv xv.cells.toList:=by
 have ho:=hl.ob hov;unfold q84 at h;split at h
 ·rename_i t2;split at h
  ·rename_i ty2 fr2 its2 v2 ys hov2;have ho2:=hl.ob hov2;obtain⟨hb,h⟩:=ai h;simp only[Wc,WE]at hb;obtain⟨⟨⟨hb1,hb2⟩,hb3⟩,hb4⟩:=hb;split at h
   ·rename_i x' hset;obtain⟨hix,h⟩:=cr h;obtain⟨c1,c2⟩:=qjr rfl hv;refine⟨_,h,c1,?_⟩;exact jwe hr ho ho2 (fun e=>by rw[e,W5]at hb1;cases hb1) hb3 (ax hb4) (hK t2 hb2) (qbd hix).2 hset hp c2
   ·cases h
  ·cases h
 ·rename_i t' i' f';obtain⟨hb,h2⟩:=ai h;clear h;simp only[Wc]at hb;obtain⟨⟨⟨hb1,hb2⟩,hb3⟩,hb4⟩:=hb;have e1:=ax hb1;have e2:=ax hb3;have e3:=ax hb4;subst e1;subst e2;subst e3;obtain⟨hix,h3⟩:=cr h2;obtain⟨c1,c2⟩:=qjr rfl hv;refine⟨_,h3,c1,?_⟩;cases u with
  |slice v0=>
   refine jf5 hr ho rfl rfl (qbd hix).2 (by simp[Ty.sz]) (fun k f' hk hf' => ?_) hp c2;have hf0:f' =0:=by simp[Ty.sz]at hf';omega
   subst hf0;show(if k=i.toNat then TV.own (.r t' i' 0)else .own (.r t' k 0))=if k=i.toNat/\(0:Nat)=0 then .own (.r t' i' 0)else .own (.r t' k 0)
   by_cases e:k=i.toNat<;>simp[e]
  |int _=>cases hb2
  |bool=>cases hb2
  |str=>cases hb2
  |struct _=>cases hb2
  |tree _ _=>cases hb2
 ·split at h
  ·rename_i v2 ys hin;split at h
   ·rename_i x' hset;obtain⟨hix,h⟩:=cr h;obtain⟨c1,c2⟩:=qjr rfl hv;exact⟨_,h,c1,jwg hr ho (qbd hix).2 hin hset hp c2⟩
   ·cases h
  ·cases h
 ·rename_i hn1 hn2 hn3;split at h
  ·cases h
  ·rename_i hin;split at h
   ·rename_i cs' hput;split at h
    ·rename_i x' g hpk;obtain⟨hix,h⟩:=cr h;have hA:(∃k n,v= .int k n)\/(∃b,v= .bool b)\/(∃z,v= .val (.string z)):=by
      unfold jl8 at ht;split at ht
      ·rename_i T;cases T with
       |o t=>exact absurd rfl (hn1 t)
       |r t i f=>exact absurd rfl (hn2 t i f)
      ·exact absurd rfl hn3
      ·exact .inl ⟨_,_,rfl⟩
      ·exact .inr (.inl ⟨_,rfl⟩)
      ·exact .inr (.inr ⟨_,rfl⟩)
      ·cases ht
     have hs:v.scalar=true:=by rcases hA with⟨k,n,rfl⟩|⟨b,rfl⟩|⟨z,rfl⟩<;>rfl
     obtain⟨c1,c2⟩:=qjr hs hv;exact⟨_,h,c1,jpa hr ho (qbd hix).2 hA hin hput hpk hp c2⟩
    ·cases h
   ·cases h
theorem jwd{X:Ctx Rf}(hK:∀t,bt X.kp t=false->K t=false){ti:TI}{s:TS}{a:Act}{w:World}{J:Pl}(hr:dr U w0 J0 K N s a w J){Hv:List TOb}(hl:HLe F Hv s.H){p v:TV}{k:List St->Option R}{r:R}(h:q2m X ti p v Hv k=some r)
  {pv xv:Value} (hp:VR (gr U (vw s.H) w J) p pv) (hv:VR (gr U (vw s.H) w J) v xv):∃δ,k δ=some r/\xv.cells.size=ti.sz/\qh1 P U w0 J0 K N (s.aps δ) a w pv xv.cells.toList:=by
 unfold q2m at h;split at h
 ·rename_i tg i f;split at h
  ·rename_i ty sz n cs hov;have ho:=hl.obc hov;split at h
   ·rename_i i';split at h
    ·rename_i new hc;obtain⟨hb,h⟩:=ai h;simp only[Wc]at hb;obtain⟨⟨hb1,hb2⟩,hb3⟩:=hb;split at h
     ·rename_i cs' hput;obtain⟨c1,c2⟩:=yc hc hv;exact⟨_,h,by rw[<-WO,c2.1.len,c1],j0j hr ho (cm hb1) (by rw[c1];exact qc3 hb2) (ax hb3) hput hp c2⟩
     ·cases h
    ·cases h
   ·cases h
  ·rename_i ty md its u xs hov;have ho:=hl.ob hov;split at h
   ·obtain⟨δ,h1,h2,h3⟩:=ji9 (P:=P) hK hr hl h hp hv;exact⟨δ,h1,h2,h3⟩
   ·cases hb:Nat.beq ti.sz 1&&jl8 v with
    |true=>
     rw[hb]at h;simp only[Wc]at hb;obtain⟨δ,h1,h2,h3⟩:=jwc (P:=P) hK hr hl hov hb.2 h hp hv;exact⟨δ,h1,by rw[h2,ax hb.1],h3⟩
    |false=>
     rw[hb]at h;obtain⟨_,h⟩:=ai h;obtain⟨J1,hr1,hmv⟩:=jkf (U:=U) (w0:=w0) (J0:=J0) (K:=K) (N:=N) (s:=s) hl (t:=tg) a w J hr;have hp1:=hmv _ _ hp;rw[(q3p Hv tg tg).ptr]at hp1;obtain⟨δ,h1,h2,h3⟩:=ji9 (P:=P) hK hr1 (by rw[qol];exact jke hl tg) h hp1 (hmv _ _ hv);exact⟨_,h1,h2,by rw[qja];exact h3⟩
   ·rename_i i0 f0;split at h
    ·rename_i t' i' f';obtain⟨hb,h2⟩:=ai h;clear h;simp only[Wc]at hb;obtain⟨⟨⟨hb1,hb2⟩,hb3⟩,hb4⟩:=hb;have e1:=ax hb2;have e2:=ax hb3;have e3:=(ax hb4).symm;subst e1;subst e2;subst e3;obtain⟨hC,h3⟩:=bn h2;have hix:=qbd (hC (ix i xs.length) (by simp));have hi0:i.toNat=i0:=by simpa using hC (decide (i.toNat=i0)) (by simp)
     have hi1:i' =i0:=by simpa using hC (decide (i' =i0)) (by simp)
     obtain⟨c1,c2⟩:=qjr rfl hv;subst hi1;have hin:∃y,ek u (xs.getD i' u.dft) f=some y:=by
      obtain⟨n,sz,hI,_⟩:=hv;have hI:aj (vw s.H) (.r t' i' f)=some (n,sz):=hI;simp only[aj,l9 ho]at hI;split at hI
      ·cases hq:ek u (xs.getD i' u.dft) f with
       |none=>rw[hq]at hI;cases hI
       |some y=>exact⟨y,rfl⟩
      ·cases hI
     obtain⟨⟨v0,ys0⟩,hin⟩:=hin;refine⟨_,h3,by rw[c1,ax hb1],jf5 hr ho rfl rfl hix.2 (qo1 hin) (fun k f' hk hf' => ?_) hp c2⟩;by_cases e:k=i.toNat/\f' =f
     ·obtain⟨rfl,rfl⟩:=e;rw[if_pos ⟨rfl,rfl⟩,hi0];exact qmr hin
     ·rw[if_neg e];unfold b7;simp only[Md.fr];split
      ·rw[hi0]at e;rw[if_neg e]
      ·rfl
    ·cases h
   ·rename_i i0 j0;split at h
    ·rename_i t' i' f';obtain⟨hb,h2⟩:=ai h;clear h;simp only[Wc]at hb;obtain⟨⟨⟨⟨hb1,hb2⟩,hb3⟩,hb4⟩,hb5⟩:=hb;have e1:=ax hb2;have e2:=ax hb3;have e3:=ax hb4;subst e1;subst e2;subst e3;obtain⟨hC,h3⟩:=bn h2;have hix:=qbd (hC (ix i xs.length) (by simp));have hi0:i.toNat=j0:=by simpa using hC (decide (i.toNat=j0)) (by simp)
     have hi1:i' =i0:=by simpa using hC (decide (i' =i0)) (by simp)
     obtain⟨c1,c2⟩:=qjr rfl hv;subst hi1;cases u with
     |slice v0=>exact⟨_,h3,by rw[c1,ax hb1],jrp hr ho hix.2 hi0 hp c2⟩
     |int _=>cases hb5
     |bool=>cases hb5
     |str=>cases hb5
     |struct _=>cases hb5
     |tree _ _=>cases hb5
    ·cases h
  ·cases h
 ·rename_i tg i0 f0 i f;split at h
  ·rename_i ty md its u xs hov;have ho:=hl.ob hov;obtain⟨hm,h⟩:=ai h;split at h
   ·rename_i v2 ys hin;split at h
    ·rename_i new hc;split at h
     ·rename_i cs' hput;split at h
      ·rename_i y' g hpk;obtain⟨hg,h⟩:=ai h;split at h
       ·rename_i x' hset;obtain⟨hix,h⟩:=cr h;obtain⟨c1,c2⟩:=yc hc hv;exact⟨_,h,by rw[<-WO,c2.1.len,c1],jwf hr ho hm hin (qbd hix).2 hput hpk hg hset hp c2⟩
       ·cases h
      ·cases h
     ·cases h
    ·cases h
   ·cases h
  ·cases h
 ·cases h
end
end Go.K
