/-
  Graphs: an order exists exactly if all strong components have one vertex and no edge leads from a vertex to itself.
-/
import Derived.Test.YtmcmlloigphbeaaP17
set_option linter.all false
namespace Go.Proofs.Ytmcmlloigphbeaa
open Go.K Go.M

/-- A loop that looks for the first element with a property. -/
theorem loop_any {α : Type} {step : Int → Option (LR Int Unit Int)} (l : List α) (d : α) (q : α → Bool) (hl : l.length ≤ 9223372036854775806)
    (h : ∀ i : Nat, i < l.length → step (i : Int) = some (bif q (l.getD i d) then .ret (i : Int) else .next ((i + 1 : Nat) : Int))) (hd : step (l.length : Int) = some (.done ())) :
    ∃ o, loopM step 0 = some o ∧ decide ((0 : Int) ≤ lk o (fun _ => (-1 : Int)) (fun r => r)) = l.any q := by
  by_cases hex : ∃ i, i < l.length ∧ q (l.getD i d) = true
  · have hmin : ∃ k, k < l.length ∧ q (l.getD k d) = true ∧ ∀ i, i < k → q (l.getD i d) = false := by
      obtain ⟨i, hi, hp⟩ := hex
      induction i using Nat.strongRecOn with
      | _ i ih =>
        by_cases hlow : ∀ j, j < i → q (l.getD j d) = false
        · exact ⟨i, hi, hp, hlow⟩
        · have : ∃ j, j < i ∧ q (l.getD j d) = true := by
            refine Classical.byContradiction fun hne => hlow fun j hj => ?_
            cases hq : q (l.getD j d) with
            | false => rfl
            | true => exact absurd ⟨j, hj, hq⟩ hne
          obtain ⟨j, hj, hq⟩ := this
          exact ih j hj (by omega) hq
    obtain ⟨k, hk, hp, hlow⟩ := hmin
    refine ⟨.inr (k : Int), loop_first (fun i : Nat => (i : Int)) k (by unfold many; omega) (.ret (k : Int)) (.inr (k : Int)) rfl (fun i hi => ?_) ?_, ?_⟩
    · rw [h i (by omega), hlow i hi]; rfl
    · rw [h k hk, hp]; rfl
    · have : l.any q = true := List.any_eq_true.2 ⟨_, getD_mem d hk, hp⟩
      rw [this]
      simp
  · have hno : ∀ i, i < l.length → q (l.getD i d) = false := fun i hi => by
      cases hq : q (l.getD i d) with
      | false => rfl
      | true => exact absurd ⟨i, hi, hq⟩ hex
    refine ⟨.inl (), loop_count (fun i : Nat => (i : Int)) l.length (by unfold many; omega) (.inl ()) (fun i hi => ?_) hd, ?_⟩
    · rw [h i hi, hno i hi]; rfl
    · have : l.any q = false := by
        rw [List.any_eq_false]
        intro x hx
        obtain ⟨i, hi, rfl⟩ := mem_getD d hx
        rw [hno i hi]
        simp
      rw [this]
      simp

theorem loops_eq (l : List St4) (hl : l.length ≤ 9223372036854775806) : slices_ContainsFunc_2_int_2_int_24 l = some (l.any fun e => decide (e.1 = e.2.1)) := by
  obtain ⟨o, ho, hq⟩ := loop_any (step := fun a => slices_IndexFunc_2_int_2_int_24L0K l (l.length : Int) a (fun a' => some (.next a')) (fun e => some (.done e)) (fun r => some (.ret r))) l St4.z (fun e => decide (e.1 = e.2.1)) hl (fun i hi => by
    by_cases e : (l.getD i St4.z).1 = (l.getD i St4.z).2.1
    · simp (disch := omega) only [slices_IndexFunc_2_int_2_int_24L0K, law04_GraphAcyclic_1, ckB_ix, ckB_inR, ckB_room, ckB_cut, ckB_mk, ckB_ne, bif_lt, bif_nlt, bif_le, bif_nle, bif_eq, bif_neq, bif_ne, bif_nne, bif_not, bif_true', bif_false', bnd_ok, lk_inl, lk_inr, Int.toNat_natCast]
    · simp (disch := omega) only [slices_IndexFunc_2_int_2_int_24L0K, law04_GraphAcyclic_1, ckB_ix, ckB_inR, ckB_room, ckB_cut, ckB_mk, ckB_ne, bif_lt, bif_nlt, bif_le, bif_nle, bif_eq, bif_neq, bif_ne, bif_nne, bif_not, bif_true', bif_false', bnd_ok, lk_inl, lk_inr, Int.toNat_natCast]
      rw [cast_succ]) (by simp (disch := omega) only [slices_IndexFunc_2_int_2_int_24L0K, ckB_ix, ckB_inR, ckB_room, ckB_cut, ckB_mk, ckB_ne, bif_lt, bif_nlt, bif_le, bif_nle, bif_eq, bif_neq, bif_ne, bif_nne, bif_not, bif_true', bif_false', bnd_ok, lk_inl, lk_inr, Int.toNat_natCast])
  have ho' : slices_IndexFunc_2_int_2_int_24L0 l (l.length : Int) 0 = some o := ho
  unfold slices_ContainsFunc_2_int_2_int_24 slices_IndexFunc_2_int_2_int_24
  rw [ho', bnd_ok, ← hq]
  cases o <;> rfl

section
variable {N n : Nat} {E : List St4} {cl : Nat → Int}

theorem filter_one {r : Nat} (h : r < N) : (List.range N).filter (fun v => decide (v = r)) = [r] := by
  have h1 : (List.range N).filter (fun v => decide (v = r)) = (List.range N).filter (fun v => v == r) := rfl
  rw [h1, List.filter_beq, List.count_range]
  simp [h]

/-- If there are as many classes as vertices, each class has one vertex. -/
theorem cl_inj (hC : CL N E (N : Int) cl) {u w : Nat} (hu : u < N) (hw : w < N) (h : cl u = cl w) : u = w := by
  refine Classical.byContradiction fun hne => ?_
  have h1 := cover_le N (((List.range N).erase u).map cl) (fun c hc => by
    obtain ⟨x, hx, hxc⟩ := hC.sur c (by omega) (by omega)
    by_cases e : x = u
    · subst e
      refine List.mem_map.2 ⟨w, (List.mem_erase_of_ne (Ne.symm hne)).2 (List.mem_range.2 hw), ?_⟩
      rw [← h, hxc]
    · exact List.mem_map.2 ⟨x, (List.mem_erase_of_ne e).2 (List.mem_range.2 hx), hxc⟩)
  rw [List.length_map, List.length_erase_of_mem (List.mem_range.2 hu), List.length_range] at h1
  omega

theorem rdyC_free (hv : VE N E) (hinj : ∀ u w, u < N → w < N → cl u = cl w → u = w) (hloop : ∀ e ∈ E, src e ≠ dst e) {T : List Nat} (hT : ∀ r ∈ T, r < N) {v : Nat} (hvN : v < N) : rdyC E cl T (cl v) = freeB E T v := by
  have htk : ∀ u, u < N → tkB cl T (cl u) = decide (u ∈ T) := fun u hu => by
    rw [Bool.eq_iff_iff, tkB_iff, decide_eq_true_iff]
    constructor
    · rintro ⟨r, hr, h⟩
      rw [← hinj r u (hT r hr) hu h]
      exact hr
    · exact fun h => ⟨u, h, rfl⟩
  unfold rdyC freeB
  rw [htk v hvN]
  congr 1
  rw [Bool.eq_iff_iff, List.all_eq_true, List.all_eq_true]
  refine forall_congr' fun e => forall_congr' fun he => ?_
  obtain ⟨v1, v2, v3, v4⟩ := hv.mem he
  have hs : src e < N := by show Int.toNat e.1 < N; omega
  have hd : dst e < N := by show Int.toNat e.2.1 < N; omega
  rw [htk (src e) hs]
  have h1 : cl (dst e) = cl v ↔ dst e = v := ⟨hinj _ _ hd hvN, fun h => by rw [h]⟩
  have h2 : cl (src e) = cl v ↔ src e = v := ⟨hinj _ _ hs hvN, fun h => by rw [h]⟩
  simp only [Bool.or_eq_true, Bool.not_eq_true', decide_eq_false_iff_not, decide_eq_true_eq, h1, h2]
  constructor
  · rintro (h | h | h)
    · exact .inl h
    · exact .inl fun h' => hloop e he (h.trans h'.symm)
    · exact .inr h
  · rintro (h | h)
    · exact .inl h
    · exact .inr (.inr h)

theorem find_congr {p q : Nat → Bool} : ∀ {l : List Nat}, (∀ v ∈ l, p v = q v) → l.find? p = l.find? q
  | [], _ => rfl
  | x :: l, h => by
    rw [List.find?_cons, List.find?_cons, h x (by simp), find_congr fun v hv => h v (by simp [hv])]

theorem finS_fin (hv : VE N E) (hinj : ∀ u w, u < N → w < N → cl u = cl w → u = w) (hloop : ∀ e ∈ E, src e ≠ dst e) : ∀ (k : Nat) (T : List Nat), (∀ r ∈ T, r < N) → finS N E cl k T = fin N E k T
  | 0, T, _ => rfl
  | k + 1, T, hT => by
    have hp : pickS N E cl T = pick N E T := find_congr fun v hv' => rdyC_free hv hinj hloop hT (List.mem_range.1 hv')
    cases hpk : pick N E T with
    | none => simp only [finS, fin, hp, hpk]
    | some v =>
      have := (pick_some hpk).1
      simp only [finS, fin, hp, hpk]
      exact finS_fin hv hinj hloop k (T ++ [v]) fun r hr => by
        rcases List.mem_append.1 hr with hr | hr
        · exact hT r hr
        · simp at hr; omega

/-- Edges lead on in the order. -/
structure Ord (N : Nat) (E : List St4) (T : List Nat) : Prop where
  nd : T.Nodup
  lt : ∀ r ∈ T, r < N
  ord : ∀ T1 r T2, T = T1 ++ r :: T2 → ∀ e ∈ E, dst e = r → src e ∈ T1
theorem Ord.add {T : List Nat} (h : Ord N E T) {v : Nat} (hv : pick N E T = some v) : Ord N E (T ++ [v]) := by
  obtain ⟨h1, h2, _⟩ := pick_some hv
  simp only [freeB, Bool.and_eq_true, Bool.not_eq_true', decide_eq_false_iff_not, List.all_eq_true, Bool.or_eq_true, decide_eq_true_eq] at h2
  refine ⟨?_, fun r hr => ?_, fun T1 r T2 hT e he hd => ?_⟩
  · rw [List.nodup_append]
    refine ⟨h.nd, by simp, fun a ha b hb => ?_⟩
    simp at hb
    subst hb
    exact fun e => h2.1 (e ▸ ha)
  · rcases List.mem_append.1 hr with hr | hr
    · exact h.lt r hr
    · simp at hr; omega
  · rcases List.eq_nil_or_concat T2 with rfl | ⟨T3, b, rfl⟩
    · obtain ⟨rfl, rfl⟩ : T = T1 ∧ v = r := by
        have := List.append_inj' hT rfl
        simpa using this
      exact (h2.2 e he).resolve_left fun hn => hn hd
    · rw [List.concat_eq_append, ← List.cons_append, ← List.append_assoc] at hT
      have := List.append_inj' hT rfl
      exact h.ord T1 r T3 this.1 e he hd
theorem fin_ord : ∀ (k : Nat) (T : List Nat), Ord N E T → Ord N E (fin N E k T)
  | 0, T, h => h
  | k + 1, T, h => by
    unfold fin
    split
    · exact h
    · exact fin_ord k _ (h.add ‹_›)

theorem Ord.adj {T : List Nat} (h : Ord N E T) {u w : Nat} (hw : w ∈ T) (ha : Adj E u w) : T.idxOf u < T.idxOf w := by
  obtain ⟨T1, T2, rfl⟩ := List.append_of_mem hw
  obtain ⟨e, he, h1, h2⟩ := ha
  have hu := h.ord T1 w T2 rfl e he h2
  rw [h1] at hu
  have hnd := List.nodup_append.1 h.nd
  have hw1 : w ∉ T1 := fun hm => hnd.2.2 w hm w (by simp) rfl
  rw [List.idxOf_append, List.idxOf_append, if_pos hu, if_neg hw1]
  have := List.idxOf_lt_length_of_mem hu
  omega
theorem Ord.rch {T : List Nat} (h : Ord N E T) (hall : ∀ v, v < N → v ∈ T) (hv : VE N E) {u w : Nat} (hr : Rch E u w) : u = w ∨ T.idxOf u < T.idxOf w := by
  induction hr with
  | refl => exact .inl rfl
  | step hr ha ih =>
    have hlt := h.adj (hall _ ((Rch.one ha).lt hv (by
      obtain ⟨e, he, h1, _⟩ := ha
      have := hv.mem he
      rw [← h1]
      show Int.toNat e.1 < N
      omega))) ha
    rcases ih with rfl | ih
    · exact .inr hlt
    · exact .inr (by omega)

/-- If all vertices are ordered, each class has one vertex, and there are no loops. -/
theorem plain_of (hv : VE N E) (hC : CL N E (n : Int) cl) (hf : (fin N E N []).length = N) : n = N ∧ ∀ e ∈ E, src e ≠ dst e := by
  have hO : Ord N E (fin N E N []) := fin_ord N [] ⟨List.nodup_nil, fun r h => by simp at h, fun T1 r T2 h => by simp at h⟩
  have hall : ∀ v, v < N → v ∈ fin N E N [] := fun v h => nodup_full hO.nd hO.lt hf h
  refine ⟨?_, fun e he hl => ?_⟩
  · have h1 := nodup_le n ((List.range N).map fun v => Int.toNat (cl v)) (by
      unfold List.Nodup
      rw [List.pairwise_map]
      refine (List.nodup_range (n := N)).imp_of_mem fun {a b} ha hb hab => fun h => ?_
      have ha' := List.mem_range.1 ha
      have hb' := List.mem_range.1 hb
      have r1 := hC.rng a ha'
      have r2 := hC.rng b hb'
      have h2 := (hC.scc a b ha' hb').1 (by omega)
      rcases hO.rch hall hv h2.1 with e | e
      · exact hab e
      · rcases hO.rch hall hv h2.2 with e' | e'
        · exact hab e'.symm
        · omega) (fun x hx => by
          obtain ⟨v, hv', rfl⟩ := List.mem_map.1 hx
          have := hC.rng v (List.mem_range.1 hv')
          omega)
    have := hC.ccN
    simp at h1
    omega
  · have hd : dst e < N := by
      have := hv.mem he
      show Int.toNat e.2.1 < N
      omega
    have := hO.adj (hall _ hd) ⟨e, he, hl, rfl⟩
    omega

theorem casts_one (r : Nat) : casts [r] = [(r : Int)] := rfl

theorem AcyclicL0_eq (hN : N ≤ 1000) (T : List Nat) (hl : T.length ≤ 1000) (s : List (List Int)) (hs : s = T.map fun (r : Nat) => [(r : Int)]) :
    law04_GraphAcyclicL0 (casts T) s (s.length : Int) 0 = some (.inl ()) := by
  have hsl : s.length = T.length := by rw [hs]; simp
  have hcl : (casts T).length = T.length := by simp
  refine loop_to (fun i : Nat => (i : Int)) T.length (many_of (by omega)) _ ?_ ?_ _ rfl
  · intro i hi
    have h1 : s.getD i [] = [((T.getD i 0 : Nat) : Int)] := by
      rw [hs, getD_at _ i [] (by simpa using hi), List.getElem_map, ← getD_at T i 0 hi]
    have h2 : ((casts T).take (Int.toNat ((i : Int) + 1))).drop i = [((T.getD i 0 : Nat) : Int)] := by
      have : Int.toNat ((i : Int) + 1) = i + 1 := by omega
      have hlt : ((casts T).take i).length = i := by rw [List.length_take, hcl]; omega
      rw [this, take_succ_getD (casts T) i 0 (by rw [hcl]; exact hi), casts_getD]
      have h5 := List.drop_left (l₁ := (casts T).take i) (l₂ := [((T.getD i 0 : Nat) : Int)])
      rw [hlt] at h5
      exact h5
    have h3 := equal_self [((T.getD i 0 : Nat) : Int)] (by simp)
    simp (disch := omega) only [law04_GraphAcyclicL0K, hcl, hsl, h1, h2, h3, Bool.not_true, ckB_ix, ckB_inR, ckB_room, ckB_cut, ckB_mk, ckB_ne, bif_lt, bif_nlt, bif_le, bif_nle, bif_eq, bif_neq, bif_ne, bif_nne, bif_not, bif_true', bif_false', bnd_ok, lk_inl, lk_inr, Int.toNat_natCast]
    rw [cast_succ]
  · simp (disch := omega) only [law04_GraphAcyclicL0K, hsl, ckB_ix, ckB_inR, ckB_room, ckB_cut, ckB_mk, ckB_ne, bif_lt, bif_nlt, bif_le, bif_nle, bif_eq, bif_neq, bif_ne, bif_nne, bif_not, bif_true', bif_false', bnd_ok, lk_inl, lk_inr, Int.toNat_natCast]
end

theorem GraphAcyclic_true (g : Graph) : law04_GraphAcyclic g = some true := by
  unfold law04_GraphAcyclic
  simp only [awake_true, bnd_ok]
  rw [bif_neg (c := !true) rfl]
  by_cases h1 : (30 : Int) < g.1
  · rw [bif_pos (by simpa using h1)]
  · rw [bif_neg (by simpa using h1)]
    by_cases h2 : (90 : Int) < (g.2.1.length : Int)
    · rw [bif_pos (by simpa using h2)]
    · rw [bif_neg (by simpa using h2), graph_Valid_eq, bnd_ok]
      cases hval : validB g with
      | false => rfl
      | true =>
        obtain ⟨N, hg, hN, hE, hv⟩ := valid_at hval
        obtain ⟨n, cl, hC, hS⟩ := graph_Strong_eq hg hN hE hv hval
        have hO := Order_eq hg hN hE hv hval
        have hfin := finS_inv hC hv n [] InvS.nil (by simp)
        have hSl : (outS N cl (finS N g.2.1 cl n [])).length = n := by
          rw [List.length_map]
          have := hfin.2
          omega
        rw [bif_neg (c := !true) rfl, hS, bnd_ok, hO, bnd_ok, bif_neg (by simp), loops_eq _ (by omega)]
        by_cases hf : (fin N g.2.1 N []).length = N
        · obtain ⟨hn, hloop⟩ := plain_of hv hC hf
          subst hn
          have hany : (g.2.1.any fun e => decide (e.1 = e.2.1)) = false := by
            rw [List.any_eq_false]
            intro e he
            have := hloop e he
            have := hv.mem he
            simp only [decide_eq_true_eq]
            intro h
            exact hloop e he (by show Int.toNat e.1 = Int.toNat e.2.1; rw [h])
          have hinj := fun u w hu hw h => cl_inj hC (u := u) (w := w) hu hw h
          have hff := finS_fin hv hinj hloop n [] (fun r h => by simp at h)
          have hs : outS n cl (finS n g.2.1 cl n []) = (fin n g.2.1 n []).map fun (r : Nat) => [(r : Int)] := by
            rw [hff]
            refine List.map_congr_left fun r hr => ?_
            have hrN := hfin.1.lt r (by rw [hff]; exact hr)
            rw [← casts_one]
            refine congrArg casts ?_
            rw [← filter_one hrN]
            refine filter_same fun v hv' => ?_
            simp only [decide_eq_true_eq]
            exact ⟨hinj v r hv' hrN, fun h => by rw [h]⟩
          have hL0 := AcyclicL0_eq (N := n) hN (fin n g.2.1 n []) (by omega) _ hs
          have hcl : (casts (fin n g.2.1 n [])).length = n := by simpa using hf
          rw [hSl] at hL0
          rw [hany, if_pos hf]
          simp (disch := omega) only [hSl, hg, law04_GraphAcyclicT1, law04_GraphAcyclicT1K, Bool.not_false, Bool.not_true, hL0, hcl, decide_true, ckB_ix, ckB_inR, ckB_room, ckB_cut, ckB_mk, ckB_ne, bif_lt, bif_nlt, bif_le, bif_nle, bif_eq, bif_neq, bif_ne, bif_nne, bif_not, bif_true', bif_false', bnd_ok, lk_inl, lk_inr, Int.toNat_natCast]
        · rw [if_neg hf]
          have hpl : ¬ ((n : Int) = (N : Int) ∧ (g.2.1.any fun e => decide (e.1 = e.2.1)) = false) := by
            rintro ⟨hn, hany⟩
            have hn' : n = N := by omega
            subst hn'
            have hloop : ∀ e ∈ g.2.1, src e ≠ dst e := fun e he h => by
              rw [List.any_eq_false] at hany
              have := hany e he
              have := hv.mem he
              simp only [decide_eq_true_eq] at *
              have h' : Int.toNat e.1 = Int.toNat e.2.1 := h
              omega
            have hff := finS_fin hv (fun u w hu hw h => cl_inj hC (u := u) (w := w) hu hw h) hloop n [] (fun r h => by simp at h)
            have := hfin.2
            rw [hff] at this
            exact hf (by omega)
          by_cases hn : (n : Int) = (N : Int)
          · have hany : (g.2.1.any fun e => decide (e.1 = e.2.1)) = true := by
              cases h : (g.2.1.any fun e => decide (e.1 = e.2.1)) with
              | true => rfl
              | false => exact absurd ⟨hn, h⟩ hpl
            rw [hany]
            simp (disch := omega) only [hSl, hg, law04_GraphAcyclicT1, law04_GraphAcyclicT1K, Bool.not_false, Bool.not_true, ckB_ix, ckB_inR, ckB_room, ckB_cut, ckB_mk, ckB_ne, bif_lt, bif_nlt, bif_le, bif_nle, bif_eq, bif_neq, bif_ne, bif_nne, bif_not, bif_true', bif_false', bnd_ok, lk_inl, lk_inr, Int.toNat_natCast]
            simp
          · simp (disch := omega) only [hSl, hg, law04_GraphAcyclicT1, law04_GraphAcyclicT1K, Bool.not_false, Bool.not_true, ckB_ix, ckB_inR, ckB_room, ckB_cut, ckB_mk, ckB_ne, bif_lt, bif_nlt, bif_le, bif_nle, bif_eq, bif_neq, bif_ne, bif_nne, bif_not, bif_true', bif_false', bnd_ok, lk_inl, lk_inr, Int.toNat_natCast]
            simp

end Go.Proofs.Ytmcmlloigphbeaa
