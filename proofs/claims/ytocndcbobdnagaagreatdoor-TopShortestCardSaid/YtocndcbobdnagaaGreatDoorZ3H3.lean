/-
  The search for a cheapest alignment: one state that is met.
-/
import Derived.Test.YtocndcbobdnagaaGreatDoorZ3H2
set_option linter.all false
namespace Go.Proofs.YtocndcbobdnagaaGreatDoor
open Go.K Go.M
def j6x:List UInt8->Int
 |[a]=>(a.toNat:Int)-48
 |[a,b]=>(a.toNat:Int)*10-480+((b.toNat:Int)-48)
 |_=>100
theorem jwm:∀i:Fin 101,j6x (tok (i.1:Int))=(i.1:Int)/\(tok (i.1:Int)).all (fun b=>b !=32)=true:=by decide
theorem jpf{k:Int}(h:0<=k/\k<=100):j6x (tok k)=k/\∀b∈tok k,b≠32:=by
 obtain⟨h1,h2⟩:=jwm ⟨k.toNat,by omega⟩;have e:((k.toNat:Nat):Int)=k:=by omega
 simp only[e]at h1 h2;refine⟨h1,fun b hb=> ?_⟩;have:=Kt.1 h2 b hb;simpa using this
theorem jsl:∀{a b r s:List UInt8},(∀x∈a,x≠32)->(∀x∈b,x≠32)->a++32::r=b++32::s->a=b/\r=s
 |[],[],_,_,_,_,h=>⟨rfl,(HB h).2⟩
 |[],y::b,_,_,_,hb,h=>absurd (HB h).1.symm (hb y Wf)
 |x::a,[],_,_,ha,_,h=>absurd (HB h).1 (ha x Wf)
 |x::a,y::b,r,s,ha,hb,h=>by
  obtain⟨h1,h2⟩:=HB h;obtain⟨h3,h4⟩:=jsl (fun z hz=>ha z (We _ hz)) (fun z hz=>hb z (We _ hz)) h2;exact⟨by rw[h1,h3],h4⟩
theorem jpc:∀{a b:List Int},(∀k∈a,0<=k/\k<=100)->(∀k∈b,0<=k/\k<=100)->wy a=wy b->a=b
 |[],[],_,_,_=>rfl
 |[],k::b,_,_,h=>by simp[wy]at h
 |k::a,[],_,_,h=>by simp[wy]at h
 |k::a,j::b,ha,hb,h=>by
  have ka:=jpf (ha k Wf);have jb:=jpf (hb j Wf);have h:tok k++32::wy a=tok j++32::wy b:=by simpa[wy]using h
  obtain⟨h1,h2⟩:=jsl ka.2 jb.2 h;rw[jpc (fun x hx=>ha x (We _ hx)) (fun x hx=>hb x (We _ hx)) h2,<-ka.1,h1,jb.1]
theorem jpe:∀{l:List Int},(∀k∈l,0<=k/\k<=100)->q6d l=true
 |[],_=>rfl
 |k::l,h=>by
  have:=h k Wf;unfold q6d;rw[Ws (by omega),Ws this.2,jpe fun x hx=>h x (We _ hx)];rfl
def kA(m:List Int):ByteArray:=⟨(wy (0::m)).toArray⟩
theorem jdy{N:Int}{m:List Int}(h:c6 N m=true):∀k∈0::m,0<=k/\k<=100:=fun k hk=>by
 rcases Wr.1 hk with rfl|hk
 ·omega
 ·obtain⟨i,hi,rfl⟩:=kq 0 hk;exact(ez.1 h).2 i hi
theorem jyt{N:Int}{a b:List Int}(ha:c6 N a=true)(hb:c6 N b=true)(h:kA a=kA b):a=b:=by
 have h:(wy (0::a)).toArray=(wy (0::b)).toArray:=W0 ByteArray.data h;exact(HB (jpc (jdy ha) (jdy hb) (by simpa using h))).2
theorem j4k{N:Int}{m:List Int}(hN:N<=40)(h:c6 N m=true):qft (0::m)=some (kA m):=by
 have hl:=(ez.1 h).1;have h1:Nat.blt 0 (0::m).length=true:=rfl;have h2:Nat.ble (0::m).length 1000000=true:=Nat.ble_eq_true_of_le (by rw[WA];omega);unfold qft jyv;rw[h1,h2,jpe (jdy h)];rfl
theorem j2g{α:Type}(l:List α){k:Nat}(i:Nat)(v d:α)(h:k<l.length):(l.set k v).getD i d=if i=k then v else l.getD i d:=by
 rw[Wa,KY];by_cases e:i=k
 ·rw[if_pos e.symm,if_pos h,if_pos e];rfl
 ·rw[if_neg (Ko e),if_neg e,<-Wa]
structure SI (n : bk) (m0 : List Int) (L : List (List Int)) (C F : List Int) (V : List aq) (D : List Bool) (M : List (ByteArray × Int)) (q : List ab) (c B : Int) (X : Nat) (P : Nat -> Nat -> Prop) : Prop where
 lc : C.length = L.length
 lf : F.length = L.length
 lv : V.length = L.length
 ld : D.length = L.length
 nd : L.Nodup
 mks : ∀ x ∈ L, c6 n.1 x = true
 mp : ∀ x, c6 n.1 x = true -> bz .str (kA x) M = (pc (fun y : List Int => decide (y = x)) L).map fun (i : Nat) => (i : Int)
 z : 0 < L.length /\ L.getD 0 [] = m0 /\ C.getD 0 0 <= 0
 sd : ∀ i, i < L.length -> ∃ l, Rn n l m0 (L.getD i []) /\ C.getD i 0 = (l.length : Int)
 hp : HP q q.length
 qi : ∀ e ∈ q, ∃ i : Nat, e.2.1 = (i : Int) /\ i < L.length /\ C.getD i 0 <= e.1
 qc : ∀ i, i < L.length -> D.getD i false = false -> (C.getD i 0, (i : Int), ()) ∈ q
 ge : ∀ e ∈ q, c <= e.1
 dn : ∀ i, i < L.length -> D.getD i false = true -> C.getD i 0 <= c
 cl : ∀ i t, i < L.length -> D.getD i false = true -> P i t -> t < n.2.1.length -> (gg n (L.getD i []) t).1 = 0 -> ∃ k, k < L.length /\ L.getD k [] = (gg n (L.getD i []) t).2 /\ C.getD k 0 <= C.getD i 0 + 1
 bq : ∀ e ∈ q, e.1 <= B
 bC : ∀ i, i < L.length -> C.getD i 0 <= B
 ln : L.length <= X /\ q.length <= X
abbrev stL(L:List (List Int)):List (List Int):=L.map fun m=>0::m
theorem jrn{L:List (List Int)}{i:Nat}(h:i<L.length):(stL L).getD i []=0::L.getD i []:=la _ _ _ _ _ h
section
variable {n : bk} (h : Small n) (hv : dp n = true) {m0 : List Int} {L : List (List Int)} {C F : List Int} {V : List aq} {D : List Bool} {M : List (ByteArray × Int)} {q : List ab} {c B : Int} {X j t : Nat} {P : Nat -> Nat -> Prop}
include h hv
theorem jvq(hI:SI n m0 L C F V D M q c B X P)(hB:c+1<=B)(hX:X<=10000)(hj:j<L.length)(hD:D.getD j false=true)(hC:C.getD j 0=c)(ht:t<n.2.1.length)(h0:(gg n (L.getD j []) t).1=0)(x:aq):
  ∃(k:Int) (b:Bool) (L' :List (List Int)) (C' F' :List Int) (V' :List aq) (D' :List Bool) (M' :List (ByteArray×Int)) (q' :List ab),
   j6 (0::(gg n (L.getD j []) t).2) (c+1) (j:Int) x n.1 n.2.1 n.2.2.1 n.2.2.2.1 [] 1 1 1 (stL L) C F V D M=some (k,b,n.1,n.2.1,n.2.2.1,n.2.2.2.1,[],1,1,1,stL L',C',F',V',D',M')/\
   (bif b then d6 (c+1) k q else some q)=some q' /\
   SI n m0 L' C' F' V' D' M' q' c B (X+1) (fun i u=>P i u\/i=j/\u=t)/\(∀i,D'.getD i false=D.getD i false)/\(∀i,i<L.length->L'.getD i []=L.getD i [])/\L.length<=L'.length/\C'.getD j 0=c:=by
 obtain⟨lc,lf,lv,ld,nd,mk,mp,z,sd,hp,qi,qc,ge,dn,cl,bq,bC,ln⟩:=hI;have hN:=js hv;have hx:=q1f h hv (mk _ (ay [] hj)) ht h0;have hke:=j4k hN.2.1 hx;have hmp:=mp _ hx;have hrun:∃l,Rn n l m0 (gg n (L.getD j []) t).2/\c+1=(l.length:Int):=by
  obtain⟨l,l1,l2⟩:=sd j hj;exact⟨l++[t],l1.snoc ht h0,by rw[Wx,Ks];omega⟩
 obtain⟨l0,hl0,hl1⟩:=hrun;generalize hy:(gg n (L.getD j []) t).2=y at hx hke hmp hl0;have hls:(stL L).length=L.length:=Ww _;cases hf:pc (fun z:List Int=>decide (z=y)) L with
 |none=>
  rw[hf]at hmp;have hno:y∉L:=fun hm=>by simpa using qjt hf y hm
  obtain⟨q',p1,p2,p3⟩:=jr2 (c+1) (L.length:Int) (q:=q) (by omega) hp;have hmem:∀e,e∈q' ↔e∈q\/e=(c+1,(L.length:Int),()):=fun e=>by rw[p3.mem_iff,WS,Wm]
  have gL:∀i,i<L.length->(L++[y]).getD i []=L.getD i []:=fun i hi=>qg7 _ _ _ _ hi
  have gC:∀i,i<L.length->(C++[c+1]).getD i 0=C.getD i 0:=fun i hi=>qg7 _ _ _ _ (by omega)
  have gDa:∀i,(D++[false]).getD i false=D.getD i false:=fun i=>by
   by_cases hi:i<D.length
   ·exact qg7 _ _ _ _ hi
   ·rw[Wa,Wa,Wu (by omega),Wp (show D.length<=i by omega)];cases i-D.length<;>rfl
  have gD:∀i,i<L.length->(D++[false]).getD i false=D.getD i false:=fun i hi=>qg7 _ _ _ _ (by omega)
  have lL:(L++[y]).getD L.length []=y:=qow _ _ _;have lC:(C++[c+1]).getD L.length 0=c+1:=by rw[<-lc];exact qow _ _ _
  have lD:(D++[false]).getD L.length false=false:=by rw[<-ld];exact qow _ _ _
  have hlen:(L++[y]).length=L.length+1:=by simp
  have cs:∀{i},i<(L++[y]).length->i<L.length\/i=L.length:=fun{i} hi=>by rw[hlen]at hi;omega
  refine⟨(L.length:Int),true,L++[y],C++[c+1],F++[(j:Int)],V++[x],D++[false],qdf .str (kA y) (L.length:Int) M,q',?_,p1,⟨by simp[lc],by simp[lf],by simp[lv],by simp[ld],?_,?_,?_,?_,?_,p2,?_,?_,?_,?_,?_,?_,?_,?_⟩,gDa,gL,by omega,by rw[gC j hj];exact hC⟩
  ·unfold j6;simp(disch:=omega)only[hke,hmp,hls,KN,Option.isSome_none,WP,lc,lf,lv,ld,rs];rw[show stL (L++[y])=stL L++[0::y]from Kq]
  ·exact Hj.2 ⟨nd,KR _ _,fun a ha b hb e=>hno (by rw[Wm.1 hb]at e;rw[<-e];exact ha)⟩
  ·intro u hu;rcases WS.1 hu with hu|hu
   ·exact mk u hu
   ·rw[Wm.1 hu];exact hx
  ·intro u hu;rw[qyk,q7d,mp u hu];by_cases e:u=y
   ·subst e;rw[qse,hf,Ws rfl];rfl
   ·have hne:qay (kA u) (kA y)=false:=by
     cases hs:qay (kA u) (kA y)with
     |false=>rfl
     |true=>exact absurd (jyt hu hx (q6a hs)) e
    rw[hne,WD (Ko e)];cases pc (fun z:List Int=>decide (z=u)) L<;>rfl
  ·exact⟨by omega,by rw[gL 0 z.1];exact z.2.1,by rw[gC 0 z.1];exact z.2.2⟩
  ·intro i hi;rcases cs hi with hi|rfl
   ·rw[gL i hi,gC i hi];exact sd i hi
   ·rw[lL,lC];exact⟨l0,hl0,hl1⟩
  ·intro e he;rcases(hmem e).1 he with he|rfl
   ·obtain⟨i,h1,h2,h3⟩:=qi e he;exact⟨i,h1,by omega,by rw[gC i h2];exact h3⟩
   ·exact⟨L.length,rfl,by omega,by rw[lC];exact Kc _⟩
  ·intro i hi hd;rcases cs hi with hi|rfl
   ·rw[gD i hi]at hd;rw[gC i hi];exact(hmem _).2 (.inl (qc i hi hd))
   ·rw[lC];exact(hmem _).2 (.inr rfl)
  ·intro e he;rcases(hmem e).1 he with he|rfl
   ·exact ge e he
   ·show c<=c+1;omega
  ·intro i hi hd;rcases cs hi with hi|rfl
   ·rw[gD i hi]at hd;rw[gC i hi];exact dn i hi hd
   ·rw[lD]at hd;cases hd
  ·intro i u hi hd hp hu hok;rcases cs hi with hi|rfl
   ·rw[gD i hi]at hd;rw[gL i hi]at hok⊢;rw[gC i hi];rcases hp with hp|⟨rfl,rfl⟩
    ·obtain⟨k,k1,k2,k3⟩:=cl i u hi hd hp hu hok;exact⟨k,by omega,by rw[gL k k1];exact k2,by rw[gC k k1];exact k3⟩
    ·exact⟨L.length,by omega,by rw[lL,hy],by rw[lC,hC];exact Kc _⟩
   ·rw[lD]at hd;cases hd
  ·intro e he;rcases(hmem e).1 he with he|rfl
   ·exact bq e he
   ·exact hB
  ·intro i hi;rcases cs hi with hi|rfl
   ·rw[gC i hi];exact bC i hi
   ·rw[lC];exact hB
  ·have:=p3.length_eq;rw[Wx,Ks]at this;omega
 |some k=>
  rw[hf]at hmp;obtain⟨hk,hky,_⟩:=qcb [] hf;have hky:L.getD k []=y:=W8 hky;by_cases hle:C.getD k 0<=c+1
  ·refine⟨(k:Int),false,L,C,F,V,D,M,q,?_,rfl,⟨lc,lf,lv,ld,nd,mk,mp,z,sd,hp,qi,qc,ge,dn,fun i u hi hd hp hu hok=> ?_,bq,bC,by omega⟩,fun _=>rfl,fun _ _=>rfl,Wg _,hC⟩
   ·unfold j6;simp(disch:=omega)only[hke,hmp,Wd,Option.isSome_some,WX,Wv,lc,rs]
   ·rcases hp with hp|⟨rfl,rfl⟩
    ·exact cl i u hi hd hp hu hok
    ·exact⟨k,hk,by rw[hky,hy],by rw[hC];exact hle⟩
  ·obtain⟨q',p1,p2,p3⟩:=jr2 (c+1) (k:Int) (q:=q) (by omega) hp;have hmem:∀e,e∈q' ↔e∈q\/e=(c+1,(k:Int),()):=fun e=>by rw[p3.mem_iff,WS,Wm]
   have gC:∀i,(C.set k (c+1)).getD i 0=if i=k then c+1 else C.getD i 0:=fun i=>j2g C i _ _ (by omega)
   have hle' :∀i,(C.set k (c+1)).getD i 0<=C.getD i 0:=fun i=>by
    rw[gC];split
    ·rename_i e;rw[e];omega
    ·exact Kc _
   have hnk:∀i,i<L.length->D.getD i false=true->(C.set k (c+1)).getD i 0=C.getD i 0:=fun i hi hd=>by
    rw[gC,if_neg fun e=> ?_];have:=dn i hi hd;rw[e]at this;omega
   refine⟨(k:Int),true,L,C.set k (c+1),F.set k (j:Int),V.set k x,D,M,q',?_,p1,⟨by simp[lc],by simp[lf],by simp[lv],ld,nd,mk,mp,⟨z.1,z.2.1,Ho (hle' 0) z.2.2⟩,?_,p2,?_,?_,?_,?_,?_,?_,?_,?_⟩,fun _=>rfl,fun _ _=>rfl,Wg _,by rw[hnk j hj hD];exact hC⟩
   ·unfold j6;simp(disch:=omega)only[hke,hmp,Wd,Option.isSome_some,WX,Wv,lc,lf,lv,rs]
   ·intro i hi;rw[gC];split
    ·rename_i e;rw[e,hky];exact⟨l0,hl0,hl1⟩
    ·exact sd i hi
   ·intro e he;rcases(hmem e).1 he with he|rfl
    ·obtain⟨i,h1,h2,h3⟩:=qi e he;exact⟨i,h1,h2,Ho (hle' i) h3⟩
    ·exact⟨k,rfl,hk,by rw[gC,if_pos rfl];exact Kc _⟩
   ·intro i hi hd;rw[gC];split
    ·rename_i e;rw[e];exact(hmem _).2 (.inr rfl)
    ·exact(hmem _).2 (.inl (qc i hi hd))
   ·intro e he;rcases(hmem e).1 he with he|rfl
    ·exact ge e he
    ·show c<=c+1;omega
   ·intro i hi hd;rw[hnk i hi hd];exact dn i hi hd
   ·intro i u hi hd hp hu hok;rw[hnk i hi hd];rcases hp with hp|⟨rfl,rfl⟩
    ·obtain⟨k',k1,k2,k3⟩:=cl i u hi hd hp hu hok;exact⟨k',k1,k2,Ho (hle' k') k3⟩
    ·exact⟨k,hk,by rw[hky,hy],by rw[gC,if_pos rfl,hC];exact Kc _⟩
   ·intro e he;rcases(hmem e).1 he with he|rfl
    ·exact bq e he
    ·exact hB
   ·intro i hi;exact Ho (hle' i) (bC i hi)
   ·have:=p3.length_eq;rw[Wx,Ks]at this;omega
end
end Go.Proofs.YtocndcbobdnagaaGreatDoor
