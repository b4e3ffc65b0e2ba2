/-
  Graphs: what the reference marks; Reach.
-/
import Derived.Test.YtmcmlloigphbeaaP4
set_option linter.all false
namespace Go.Proofs.Ytmcmlloigphbeaa
open Go.K Go.M

theorem W_congr {E : List St4} {S S' : Nat → Prop} (h : ∀ v, S v ↔ S' v) : ∀ k v, W E S k v ↔ W E S' k v
  | 0, v => h v
  | k + 1, v => by
    constructor
    · rintro ⟨e, he, hW, hd⟩; exact ⟨e, he, (W_congr h k _).1 hW, hd⟩
    · rintro ⟨e, he, hW, hd⟩; exact ⟨e, he, (W_congr h k _).2 hW, hd⟩

theorem cnt_le {m m' : Nat → Bool} : ∀ (l : List Nat), (∀ v ∈ l, m v = true → m' v = true) → (l.countP fun v => !m' v) ≤ l.countP fun v => !m v
  | [], _ => by simp
  | v :: l, h => by
    have ih := cnt_le l (fun w hw => h w (List.mem_cons_of_mem _ hw))
    have hv := h v List.mem_cons_self
    simp only [List.countP_cons]
    cases h1 : m v <;> cases h2 : m' v <;> simp_all <;> omega
theorem cnt_lt {m m' : Nat → Bool} : ∀ (l : List Nat), (∀ v ∈ l, m v = true → m' v = true) → (∃ v ∈ l, m v = false ∧ m' v = true) → (l.countP fun v => !m' v) < l.countP fun v => !m v
  | [], _, h => by obtain ⟨v, hv, _⟩ := h; simp at hv
  | v :: l, h, hx => by
    have h0 := cnt_le l (fun w hw => h w (List.mem_cons_of_mem _ hw))
    obtain ⟨w, hw, h1, h2⟩ := hx
    simp only [List.countP_cons]
    rcases List.mem_cons.1 hw with rfl | hw
    · simp only [h1, h2, Bool.not_true, Bool.not_false, Bool.false_eq_true, if_false, if_true]
      omega
    · have ih := cnt_lt l (fun w hw => h w (List.mem_cons_of_mem _ hw)) ⟨w, hw, h1, h2⟩
      have hv := h v List.mem_cons_self
      cases h3 : m v <;> cases h4 : m' v <;> simp_all <;> omega

def Snd (E : List St4) (S : Nat → Prop) (m : Nat → Bool) : Prop := ∀ v, m v = true → ∃ k, W E S k v

theorem MarksL0_eq {N : Nat} {E : List St4} {S : Nat → Prop} (hE : E.length ≤ 20000) (hv : VE N E) {m : Nat → Bool} (hm : Snd E S m) (a : Int) :
    ∃ b m', ref04_MarksL0 a E (false, 0, tab N m) = some (.inl (b, tab N m')) ∧ Snd E S m' ∧ (∀ v, m v = true → m' v = true) ∧ (b = false → (∀ v, m' v = m v) ∧ ∀ e ∈ E, m (src e) = true → m (dst e) = true) ∧ (b = true → ∃ v, v < N ∧ m v = false ∧ m' v = true) := by
  have main : ∃ o, loopM (fun s : Bool × Int × List Bool => ref04_MarksL0K a E s.1 s.2.1 s.2.2 (fun a' => some (LR.next a')) (fun e => some (LR.done e)) (fun r => some (LR.ret r))) (false, 0, tab N m) = some o ∧
      ∃ b m', o = .inl (b, tab N m') ∧ Snd E S m' ∧ (∀ v, m v = true → m' v = true) ∧ (b = false → (∀ v, m' v = m v) ∧ ∀ e ∈ E, m (src e) = true → m (dst e) = true) ∧ (b = true → ∃ v, v < N ∧ m v = false ∧ m' v = true) := by
    refine loop_inv (fun s => ∃ (b : Bool) (i : Nat) (m' : Nat → Bool), s = (b, (i : Int), tab N m') ∧ i ≤ E.length ∧ Snd E S m' ∧ (∀ v, m v = true → m' v = true) ∧ (b = false → (∀ v, m' v = m v) ∧ ∀ x, x < i → m (src (E.getD x St4.z)) = true → m (dst (E.getD x St4.z)) = true) ∧ (b = true → ∃ v, v < N ∧ m v = false ∧ m' v = true))
      (fun s => E.length + 1 - Int.toNat s.2.1) _ _ ⟨false, 0, m, rfl, Nat.zero_le _, hm, fun v h => h, fun _ => ⟨fun _ => rfl, fun x hx => by omega⟩, fun h => by cases h⟩ (by show E.length + 1 - Int.toNat 0 < many; unfold many; omega) ?_
    rintro s ⟨b, i, m', rfl, hi, hS, hle, hf, ht⟩
    by_cases hlt : i < E.length
    · obtain ⟨h1, h2, h3, h4⟩ := hv i hlt
      have k1 : Int.toNat (E.getD i St4.z).1 < N := by omega
      have k2 : Int.toNat (E.getD i St4.z).2.1 < N := by omega
      have hem : E.getD i St4.z ∈ E := getD_mem _ hlt
      have hμ : E.length + 1 - Int.toNat ((i : Int) + 1) < E.length + 1 - Int.toNat (i : Int) := by omega
      cases hs : m' (Int.toNat (E.getD i St4.z).1) with
      | false =>
        refine ⟨.next (b, (i : Int) + 1, tab N m'), ?_, ⟨b, i + 1, m', by rw [cast_succ], hlt, hS, hle, fun hb => ⟨(hf hb).1, fun x hx hmx => ?_⟩, ht⟩, hμ⟩
        · simp (disch := omega) only [ref04_MarksL0K, tab_len, tab_getD k1, hs, ckB_ix, ckB_inR, ckB_room, ckB_cut, ckB_mk, ckB_ne, bif_lt, bif_nlt, bif_le, bif_nle, bif_eq, bif_neq, bif_ne, bif_nne, bif_not, bif_true', bif_false', bnd_ok, lk_inl, lk_inr, Int.toNat_natCast]
        · by_cases hxi : x < i
          · exact (hf hb).2 x hxi hmx
          · obtain rfl : x = i := by omega
            have := hle _ hmx
            simp only [src] at this
            rw [hs] at this
            cases this
      | true =>
        cases hd : m' (Int.toNat (E.getD i St4.z).2.1) with
        | true =>
          refine ⟨.next (b, (i : Int) + 1, tab N m'), ?_, ⟨b, i + 1, m', by rw [cast_succ], hlt, hS, hle, fun hb => ⟨(hf hb).1, fun x hx hmx => ?_⟩, ht⟩, hμ⟩
          · simp (disch := omega) only [ref04_MarksL0K, tab_len, tab_getD k1, tab_getD k2, hs, hd, Bool.not_true, ckB_ix, ckB_inR, ckB_room, ckB_cut, ckB_mk, ckB_ne, bif_lt, bif_nlt, bif_le, bif_nle, bif_eq, bif_neq, bif_ne, bif_nne, bif_not, bif_true', bif_false', bnd_ok, lk_inl, lk_inr, Int.toNat_natCast]
          · by_cases hxi : x < i
            · exact (hf hb).2 x hxi hmx
            · obtain rfl : x = i := by omega
              rw [← (hf hb).1]
              exact hd
        | false =>
          refine ⟨.next (true, (i : Int) + 1, tab N (fun v => if v = Int.toNat (E.getD i St4.z).2.1 then true else m' v)), ?_, ⟨true, i + 1, _, by rw [cast_succ], hlt, fun v hmv => ?_, fun v hmv => ?_, (fun hb => by cases hb), fun _ => ⟨_, k2, ?_, if_pos rfl⟩⟩, hμ⟩
          · simp (disch := omega) only [ref04_MarksL0K, tab_len, tab_getD k1, tab_getD k2, hs, hd, Bool.not_false, tab_set, ckB_ix, ckB_inR, ckB_room, ckB_cut, ckB_mk, ckB_ne, bif_lt, bif_nlt, bif_le, bif_nle, bif_eq, bif_neq, bif_ne, bif_nne, bif_not, bif_true', bif_false', bnd_ok, lk_inl, lk_inr, Int.toNat_natCast]
          · by_cases e : v = Int.toNat (E.getD i St4.z).2.1
            · obtain ⟨k, hk⟩ := hS _ hs
              exact ⟨k + 1, _, hem, hk, e.symm⟩
            · rw [if_neg e] at hmv
              exact hS v hmv
          · by_cases e : v = Int.toNat (E.getD i St4.z).2.1
            · rw [if_pos e]
            · rw [if_neg e]
              exact hle v hmv
          · cases hq : m (Int.toNat (E.getD i St4.z).2.1) with
            | false => rfl
            | true => rw [hle _ hq] at hd; cases hd
    · refine ⟨.done (b, tab N m'), ?_, b, m', rfl, hS, hle, fun hb => ⟨(hf hb).1, fun e he hme => ?_⟩, ht⟩
      · simp (disch := omega) only [ref04_MarksL0K, ckB_ix, ckB_inR, ckB_room, ckB_cut, ckB_mk, ckB_ne, bif_lt, bif_nlt, bif_le, bif_nle, bif_eq, bif_neq, bif_ne, bif_nne, bif_not, bif_true', bif_false', bnd_ok, lk_inl, lk_inr, Int.toNat_natCast]
      · obtain ⟨x, hx, rfl⟩ := mem_getD St4.z he
        exact (hf hb).2 x (by omega) hme
  obtain ⟨o, ho, b, m', rfl, rest⟩ := main
  exact ⟨b, m', ho, rest⟩

theorem Marks_eq {g : Graph} {N : Nat} (hN : N ≤ 1000) (hE : g.2.1.length ≤ 20000) (hv : VE N g.2.1) (f : Nat → Bool) :
    ∃ m : Nat → Bool, ref04_Marks g (tab N f) = some (tab N m) ∧ ∀ v, v < N → (m v = true ↔ ∃ k, W g.2.1 (fun v => v < N ∧ f v = true) k v) := by
  obtain ⟨n, E, u⟩ := g
  simp only at hE hv
  have hclen : ∀ m : Nat → Bool, (tab N m).countP (fun b => !b) = (List.range N).countP fun v => !m v := fun m => by
    rw [List.countP_map]
    rfl
  have main : ∃ o, loopM (fun s : Bool × List Bool => ref04_MarksL1K n E s.1 s.2 (fun a' => some (LR.next a')) (fun e => some (LR.done e)) (fun r => some (LR.ret r))) (true, tab N f) = some o ∧
      ∃ m : Nat → Bool, o = .inl (tab N m) ∧ Snd E (fun v => v < N ∧ f v = true) (fun v => decide (v < N) && m v) ∧ (∀ v, v < N → f v = true → m v = true) ∧ ∀ e ∈ E, m (src e) = true → m (dst e) = true := by
    refine loop_inv (fun s => ∃ (b : Bool) (m : Nat → Bool), s = (b, tab N m) ∧ (∀ v, m v = true → v < N) ∧ Snd E (fun v => v < N ∧ f v = true) m ∧ (∀ v, v < N → f v = true → m v = true) ∧ (b = false → ∀ e ∈ E, m (src e) = true → m (dst e) = true))
      (fun s => (bif s.1 then 1 else 0) + 2 * s.2.countP (fun b => !b)) _ _ ⟨true, fun v => decide (v < N) && f v, ?_, ?_, ?_, ?_, fun h => by cases h⟩ ?_ ?_
    · refine Prod.ext rfl (tab_congr fun v hv' => ?_)
      simp [hv']
    · intro v h
      simp only [Bool.and_eq_true, decide_eq_true_eq] at h
      exact h.1
    · intro v h
      simp only [Bool.and_eq_true, decide_eq_true_eq] at h
      exact ⟨0, h⟩
    · intro v h1 h2
      simp [h1, h2]
    · show 1 + 2 * (tab N f).countP (fun b => !b) < many
      have : (tab N f).countP (fun b => !b) ≤ (tab N f).length := List.countP_le_length
      rw [tab_len] at this
      unfold many
      omega
    · rintro s ⟨b, m, rfl, hmN, hS, hf, hcl⟩
      cases b with
      | false =>
        refine ⟨.done (tab N m), by simp (disch := omega) only [ref04_MarksL1K, ckB_ix, ckB_inR, ckB_room, ckB_cut, ckB_mk, ckB_ne, bif_lt, bif_nlt, bif_le, bif_nle, bif_eq, bif_neq, bif_ne, bif_nne, bif_not, bif_true', bif_false', bnd_ok, lk_inl, lk_inr, Int.toNat_natCast], m, rfl, fun v h => ?_, hf, hcl rfl⟩
        simp only [Bool.and_eq_true, decide_eq_true_eq] at h
        exact hS v h.2
      | true =>
        obtain ⟨b', m', h0, hS', hle, hb1, hb2⟩ := MarksL0_eq hE hv hS n
        refine ⟨.next (b', tab N m'), by simp (disch := omega) only [ref04_MarksL1K, h0, ckB_ix, ckB_inR, ckB_room, ckB_cut, ckB_mk, ckB_ne, bif_lt, bif_nlt, bif_le, bif_nle, bif_eq, bif_neq, bif_ne, bif_nne, bif_not, bif_true', bif_false', bnd_ok, lk_inl, lk_inr, Int.toNat_natCast], ⟨b', fun v => decide (v < N) && m' v, ?_, ?_, ?_, ?_, ?_⟩, ?_⟩
        · refine Prod.ext rfl (tab_congr fun v hv' => ?_)
          simp [hv']
        · intro v h
          simp only [Bool.and_eq_true, decide_eq_true_eq] at h
          exact h.1
        · intro v h
          simp only [Bool.and_eq_true, decide_eq_true_eq] at h
          exact hS' v h.2
        · intro v h1 h2
          simp [h1, hle v (hf v h1 h2)]
        · intro hb e he h
          simp only [Bool.and_eq_true, decide_eq_true_eq] at h ⊢
          obtain ⟨h1, h2⟩ := hb1 hb
          obtain ⟨k1, k2, k3, k4⟩ := hv.mem he
          refine ⟨by simp only [dst]; omega, ?_⟩
          rw [h1] at h ⊢
          exact h2 e he h.2
        · show (bif b' then 1 else 0) + 2 * (tab N m').countP (fun b => !b) < 1 + 2 * (tab N m).countP (fun b => !b)
          rw [hclen, hclen]
          cases b' with
          | false =>
            have := cnt_le (m := m) (m' := m') (List.range N) (fun v _ h => hle v h)
            show 0 + _ < _
            omega
          | true =>
            obtain ⟨v, h1, h2, h3⟩ := hb2 rfl
            have := cnt_lt (m := m) (m' := m') (List.range N) (fun v _ h => hle v h) ⟨v, List.mem_range.2 h1, h2, h3⟩
            show 1 + _ < _
            omega
  obtain ⟨o, ho, m, rfl, hS, hf, hcl⟩ := main
  refine ⟨m, ?_, fun v hv' => ⟨fun h => hS v (by simp [hv', h]), ?_⟩⟩
  · unfold ref04_Marks
    have hl := tab_len N f
    rw [List.nil_append, ckB_room (by omega) (by omega)]
    show bnd (loopM _ _) _ = _
    rw [ho]
    rfl
  · rintro ⟨k, hk⟩
    have key : ∀ k v, W E (fun v => v < N ∧ f v = true) k v → m v = true := by
      intro k
      induction k with
      | zero => rintro v ⟨h1, h2⟩; exact hf v h1 h2
      | succ k ih =>
        rintro v ⟨e, he, hW, rfl⟩
        exact hcl e he (ih _ hW)
    exact key k v hk

theorem list_eq {N : Nat} (hN : N ≤ 1000) (m : Nat → Bool) : ref04_list (tab N m) = some (casts ((List.range N).filter m)) := by
  unfold ref04_list
  have hloop : ref04_listL0 (tab N m) (0, []) = some (.inl (casts ((List.range N).filter m))) := by
    refine loop_to (fun i : Nat => ((i : Int), casts ((List.range i).filter m))) N (many_of (by omega)) _ ?_ ?_ _ (by simp)
    · intro i hi
      have hl : (casts ((List.range i).filter m)).length ≤ i := by
        rw [casts_len]
        have := List.length_filter_le m (List.range i)
        simp at this
        exact this
      cases hm : m i with
      | true =>
        simp (disch := omega) only [ref04_listL0K, tab_len, tab_getD hi, hm, ckB_ix, ckB_inR, ckB_room, ckB_cut, ckB_mk, ckB_ne, bif_lt, bif_nlt, bif_le, bif_nle, bif_eq, bif_neq, bif_ne, bif_nne, bif_not, bif_true', bif_false', bnd_ok, lk_inl, lk_inr, Int.toNat_natCast]
        rw [cast_succ, List.range_succ, List.filter_append]
        simp [hm]
      | false =>
        simp (disch := omega) only [ref04_listL0K, tab_len, tab_getD hi, hm, ckB_ix, ckB_inR, ckB_room, ckB_cut, ckB_mk, ckB_ne, bif_lt, bif_nlt, bif_le, bif_nle, bif_eq, bif_neq, bif_ne, bif_nne, bif_not, bif_true', bif_false', bnd_ok, lk_inl, lk_inr, Int.toNat_natCast]
        rw [cast_succ, List.range_succ, List.filter_append]
        simp [hm]
    · simp (disch := omega) only [ref04_listL0K, tab_len, ckB_ix, ckB_inR, ckB_room, ckB_cut, ckB_mk, ckB_ne, bif_lt, bif_nlt, bif_le, bif_nle, bif_eq, bif_neq, bif_ne, bif_nne, bif_not, bif_true', bif_false', bnd_ok, lk_inl, lk_inr, Int.toNat_natCast]
  rw [hloop]
  rfl
theorem ReachL0_eq {N : Nat} (hN : N ≤ 1000) (fr : Nat → Int) : graph_ReachL0 (tab N fr) (N : Int) (0, []) = some (.inl (casts ((List.range N).filter fun v => decide (0 ≤ fr v)))) := by
  refine loop_to (fun i : Nat => ((i : Int), casts ((List.range i).filter fun v => decide (0 ≤ fr v)))) N (many_of (by omega)) _ ?_ ?_ _ (by simp)
  · intro i hi
    have hl : (casts ((List.range i).filter fun v => decide (0 ≤ fr v))).length ≤ i := by
      rw [casts_len]
      have := List.length_filter_le (fun v => decide (0 ≤ fr v)) (List.range i)
      simp at this
      exact this
    by_cases hm : 0 ≤ fr i
    · simp (disch := omega) only [graph_ReachL0K, tab_len, tab_getD hi, ckB_ix, ckB_inR, ckB_room, ckB_cut, ckB_mk, ckB_ne, bif_lt, bif_nlt, bif_le, bif_nle, bif_eq, bif_neq, bif_ne, bif_nne, bif_not, bif_true', bif_false', bnd_ok, lk_inl, lk_inr, Int.toNat_natCast]
      rw [cast_succ, List.range_succ, List.filter_append]
      simp [hm]
    · simp (disch := omega) only [graph_ReachL0K, tab_len, tab_getD hi, ckB_ix, ckB_inR, ckB_room, ckB_cut, ckB_mk, ckB_ne, bif_lt, bif_nlt, bif_le, bif_nle, bif_eq, bif_neq, bif_ne, bif_nne, bif_not, bif_true', bif_false', bnd_ok, lk_inl, lk_inr, Int.toNat_natCast]
      rw [cast_succ, List.range_succ, List.filter_append]
      simp [hm]
  · simp (disch := omega) only [graph_ReachL0K, ckB_ix, ckB_inR, ckB_room, ckB_cut, ckB_mk, ckB_ne, bif_lt, bif_nlt, bif_le, bif_nle, bif_eq, bif_neq, bif_ne, bif_nne, bif_not, bif_true', bif_false', bnd_ok, lk_inl, lk_inr, Int.toNat_natCast]

/-- Whether all numbers are vertices. -/
def allV (l : List Int) (n : Int) : Prop := ∀ x ∈ l, 0 ≤ x ∧ x < n
theorem contains59 (l : List Int) (hl : l.length ≤ 9223372036854775806) (g : Graph) : ∃ b, slices_ContainsFunc_int_int_59 l g = some b ∧ (b = false ↔ allV l g.1) := by
  have main : ∃ o, slices_IndexFunc_int_int_59L0 l g (l.length : Int) 0 = some o ∧ (match o with | .inl _ => allV l g.1 | .inr k => 0 ≤ k ∧ ¬ allV l g.1) := by
    refine loop_inv (fun s => ∃ i : Nat, s = (i : Int) ∧ i ≤ l.length ∧ ∀ j, j < i → 0 ≤ l.getD j 0 ∧ l.getD j 0 < g.1) (fun s => l.length + 1 - Int.toNat s) _ _ ⟨0, rfl, Nat.zero_le _, fun j hj => by omega⟩ (by show l.length + 1 - Int.toNat 0 < many; unfold many; omega) ?_
    rintro s ⟨i, rfl, hi, hall⟩
    by_cases hlt : i < l.length
    · by_cases hok : 0 ≤ l.getD i 0 ∧ l.getD i 0 < g.1
      · have hb : (decide (0 ≤ l.getD i 0) && decide (l.getD i 0 < g.1)) = true := by simpa using hok
        refine ⟨.next ((i : Int) + 1), ?_, ⟨i + 1, by rw [cast_succ], hlt, fun j hj => ?_⟩, by simp only [Int.toNat_natCast]; omega⟩
        · simp (disch := omega) only [slices_IndexFunc_int_int_59L0K, graph_Reach_1, graph_vertex_eq, hb, Bool.not_true, ckB_ix, ckB_inR, ckB_room, ckB_cut, ckB_mk, ckB_ne, bif_lt, bif_nlt, bif_le, bif_nle, bif_eq, bif_neq, bif_ne, bif_nne, bif_not, bif_true', bif_false', bnd_ok, lk_inl, lk_inr, Int.toNat_natCast]
        · by_cases hji : j < i
          · exact hall j hji
          · obtain rfl : j = i := by omega
            exact hok
      · have hb : (decide (0 ≤ l.getD i 0) && decide (l.getD i 0 < g.1)) = false := by
          cases hq : (decide (0 ≤ l.getD i 0) && decide (l.getD i 0 < g.1)) with
          | false => rfl
          | true => exact absurd (by simpa using hq) hok
        refine ⟨.ret (i : Int), ?_, by omega, fun h => hok (h _ (getD_mem 0 hlt))⟩
        simp (disch := omega) only [slices_IndexFunc_int_int_59L0K, graph_Reach_1, graph_vertex_eq, hb, Bool.not_false, ckB_ix, ckB_inR, ckB_room, ckB_cut, ckB_mk, ckB_ne, bif_lt, bif_nlt, bif_le, bif_nle, bif_eq, bif_neq, bif_ne, bif_nne, bif_not, bif_true', bif_false', bnd_ok, lk_inl, lk_inr, Int.toNat_natCast]
    · refine ⟨.done (), by simp (disch := omega) only [slices_IndexFunc_int_int_59L0K, ckB_ix, ckB_inR, ckB_room, ckB_cut, ckB_mk, ckB_ne, bif_lt, bif_nlt, bif_le, bif_nle, bif_eq, bif_neq, bif_ne, bif_nne, bif_not, bif_true', bif_false', bnd_ok, lk_inl, lk_inr, Int.toNat_natCast], fun x hx => ?_⟩
      obtain ⟨j, hj, rfl⟩ := mem_getD 0 hx
      exact hall j (by omega)
  obtain ⟨o, ho, hp⟩ := main
  unfold slices_ContainsFunc_int_int_59 slices_IndexFunc_int_int_59
  rw [ho, bnd_ok]
  cases o with
  | inl _ => exact ⟨false, rfl, by simpa using hp⟩
  | inr k => exact ⟨true, by simp [hp.1], by simpa using hp.2⟩
theorem contains36 (l : List Int) (hl : l.length ≤ 9223372036854775806) (g : Graph) : ∃ b, slices_ContainsFunc_int_int_36 l g = some b ∧ (b = false ↔ allV l g.1) := by
  have main : ∃ o, slices_IndexFunc_int_int_36L0 l g (l.length : Int) 0 = some o ∧ (match o with | .inl _ => allV l g.1 | .inr k => 0 ≤ k ∧ ¬ allV l g.1) := by
    refine loop_inv (fun s => ∃ i : Nat, s = (i : Int) ∧ i ≤ l.length ∧ ∀ j, j < i → 0 ≤ l.getD j 0 ∧ l.getD j 0 < g.1) (fun s => l.length + 1 - Int.toNat s) _ _ ⟨0, rfl, Nat.zero_le _, fun j hj => by omega⟩ (by show l.length + 1 - Int.toNat 0 < many; unfold many; omega) ?_
    rintro s ⟨i, rfl, hi, hall⟩
    by_cases hlt : i < l.length
    · by_cases hok : 0 ≤ l.getD i 0 ∧ l.getD i 0 < g.1
      · have hb : (decide (0 ≤ l.getD i 0) && decide (l.getD i 0 < g.1)) = true := by simpa using hok
        refine ⟨.next ((i : Int) + 1), ?_, ⟨i + 1, by rw [cast_succ], hlt, fun j hj => ?_⟩, by simp only [Int.toNat_natCast]; omega⟩
        · simp (disch := omega) only [slices_IndexFunc_int_int_36L0K, law04_GraphReaches_1, ref04_Vertex_eq, hb, Bool.not_true, ckB_ix, ckB_inR, ckB_room, ckB_cut, ckB_mk, ckB_ne, bif_lt, bif_nlt, bif_le, bif_nle, bif_eq, bif_neq, bif_ne, bif_nne, bif_not, bif_true', bif_false', bnd_ok, lk_inl, lk_inr, Int.toNat_natCast]
        · by_cases hji : j < i
          · exact hall j hji
          · obtain rfl : j = i := by omega
            exact hok
      · have hb : (decide (0 ≤ l.getD i 0) && decide (l.getD i 0 < g.1)) = false := by
          cases hq : (decide (0 ≤ l.getD i 0) && decide (l.getD i 0 < g.1)) with
          | false => rfl
          | true => exact absurd (by simpa using hq) hok
        refine ⟨.ret (i : Int), ?_, by omega, fun h => hok (h _ (getD_mem 0 hlt))⟩
        simp (disch := omega) only [slices_IndexFunc_int_int_36L0K, law04_GraphReaches_1, ref04_Vertex_eq, hb, Bool.not_false, ckB_ix, ckB_inR, ckB_room, ckB_cut, ckB_mk, ckB_ne, bif_lt, bif_nlt, bif_le, bif_nle, bif_eq, bif_neq, bif_ne, bif_nne, bif_not, bif_true', bif_false', bnd_ok, lk_inl, lk_inr, Int.toNat_natCast]
    · refine ⟨.done (), by simp (disch := omega) only [slices_IndexFunc_int_int_36L0K, ckB_ix, ckB_inR, ckB_room, ckB_cut, ckB_mk, ckB_ne, bif_lt, bif_nlt, bif_le, bif_nle, bif_eq, bif_neq, bif_ne, bif_nne, bif_not, bif_true', bif_false', bnd_ok, lk_inl, lk_inr, Int.toNat_natCast], fun x hx => ?_⟩
      obtain ⟨j, hj, rfl⟩ := mem_getD 0 hx
      exact hall j (by omega)
  obtain ⟨o, ho, hp⟩ := main
  unfold slices_ContainsFunc_int_int_36 slices_IndexFunc_int_int_36
  rw [ho, bnd_ok]
  cases o with
  | inl _ => exact ⟨false, rfl, by simpa using hp⟩
  | inr k => exact ⟨true, by simp [hp.1], by simpa using hp.2⟩

/-- The vertices that are reached. -/
theorem graph_Reach_eq {g : Graph} {N : Nat} (hg : g.1 = (N : Int)) (hN : N ≤ 1000) (hE : g.2.1.length ≤ 20000) (hv : VE N g.2.1) (hval : validB g = true) {l : List Int} (hl : l.length ≤ 1000000) (hok : allV l g.1) :
    ∃ p : Nat → Bool, graph_Reach g l = some (0, casts ((List.range N).filter p)) ∧ ∀ v, p v = true ↔ ∃ k, W g.2.1 (SF l) k v := by
  have hga := gathered_eq g hg hN hE hv false
  obtain ⟨fr, hr, hfr⟩ := reached_eq hN hE hv hl (fun x hx => by have := hok x hx; rw [hg] at this; exact this)
  obtain ⟨b, hb, hbi⟩ := contains59 l (by omega) g
  have hb0 : b = false := hbi.2 hok
  subst hb0
  refine ⟨fun v => decide (0 ≤ fr v), ?_, fun v => ?_⟩
  · unfold graph_Reach
    rw [graph_Valid_eq, hval, bnd_ok, bif_neg (c := !true) rfl, hb, bnd_ok, hga, bnd_ok, hr, bnd_ok, tab_len, ReachL0_eq hN]
    rfl
  · simp only [decide_eq_true_eq]
    rcases hfr v with ⟨h1, h2⟩ | ⟨k, _, h1, h2, _⟩
    · constructor
      · intro h; omega
      · rintro ⟨k, hk⟩; exact absurd hk (h2 k)
    · exact ⟨fun _ => ⟨k, h2⟩, fun _ => by omega⟩
theorem ref_Reach_eq {g : Graph} {N : Nat} (hg : g.1 = (N : Int)) (hN : N ≤ 1000) (hE : g.2.1.length ≤ 20000) (hv : VE N g.2.1) {l : List Int} (hl : l.length ≤ 1000000) (hok : allV l g.1) :
    ∃ p : Nat → Bool, ref04_Reach g l = some (casts ((List.range N).filter p)) ∧ ∀ v, v < N → (p v = true ↔ ∃ k, W g.2.1 (SF l) k v) := by
  obtain ⟨m, hm, hmi⟩ := Marks_eq hN hE hv (fun v => l.any fun x => decide (Int.toNat x = v))
  obtain ⟨n, E, u⟩ := g
  simp only at hg hE hv hok hmi
  subst hg
  have hloop : ref04_ReachL0 l (N : Int) E (0, List.replicate (Int.toNat (N : Int)) (false : Bool)) = some (.inl (tab N fun v => l.any fun x => decide (Int.toNat x = v))) := by
    refine loop_to (fun i : Nat => ((i : Int), tab N fun v => (l.take i).any fun x => decide (Int.toNat x = v))) l.length (many_of (by omega)) _ ?_ ?_ _ ?_
    · intro i hi
      obtain ⟨h1, h2⟩ := hok _ (getD_mem 0 hi)
      simp (disch := omega) only [ref04_ReachL0K, tab_len, tab_set, ckB_ix, ckB_inR, ckB_room, ckB_cut, ckB_mk, ckB_ne, bif_lt, bif_nlt, bif_le, bif_nle, bif_eq, bif_neq, bif_ne, bif_nne, bif_not, bif_true', bif_false', bnd_ok, lk_inl, lk_inr, Int.toNat_natCast]
      simp only [Option.some.injEq, LR.next.injEq, Prod.mk.injEq]
      refine ⟨by omega, tab_congr fun v _ => ?_⟩
      rw [take_succ_getD l i 0 hi, List.any_append]
      generalize l.getD i 0 = x
      by_cases e : v = Int.toNat x
      · subst e; simp
      · simp [e, Ne.symm e]
    · simp (disch := omega) only [ref04_ReachL0K, ckB_ix, ckB_inR, ckB_room, ckB_cut, ckB_mk, ckB_ne, bif_lt, bif_nlt, bif_le, bif_nle, bif_eq, bif_neq, bif_ne, bif_nne, bif_not, bif_true', bif_false', bnd_ok, lk_inl, lk_inr, Int.toNat_natCast]
      rw [List.take_length]
    · simp only [Int.toNat_natCast, tab_rep]
      exact Prod.ext rfl (tab_congr fun v _ => by simp)
  refine ⟨m, ?_, fun v hv' => ?_⟩
  · unfold ref04_Reach
    rw [ckB_mk (by omega) (by omega) (by simp only; omega) (by simp only; omega), hloop, bnd_ok, lk_inl, hm, bnd_ok, list_eq hN]
    rfl
  · rw [hmi v hv']
    refine exists_congr fun k => W_congr (fun w => ?_) k v
    simp only [List.any_eq_true, decide_eq_true_eq, SF]
    constructor
    · exact fun h => h.2
    · intro h
      refine ⟨?_, h⟩
      obtain ⟨x, hx, rfl⟩ := h
      have := hok x hx
      omega

theorem filter_same {N : Nat} {p q : Nat → Bool} (h : ∀ v, v < N → (p v = true ↔ q v = true)) : (List.range N).filter p = (List.range N).filter q :=
  List.filter_congr fun v hv => by
    rw [Bool.eq_iff_iff]
    exact h v (List.mem_range.1 hv)
theorem casts_filter_len {N : Nat} (p : Nat → Bool) : (casts ((List.range N).filter p)).length ≤ N := by
  rw [casts_len]
  have := List.length_filter_le p (List.range N)
  simp at this
  exact this

theorem GraphReaches_true (g : Graph) (l : List Int) : law04_GraphReaches g l = some true := by
  unfold law04_GraphReaches
  simp only [awake_true, bnd_ok]
  rw [bif_neg (c := !true) rfl]
  obtain ⟨b, hb⟩ := small_some g
  rw [hb, bnd_ok]
  cases b with
  | false => rfl
  | true =>
    rw [bif_neg (c := !true) rfl]
    by_cases hl : l.length ≤ 12
    · rw [bif_neg (by simp; omega), ref04_Valid_eq]
      cases hval : validB g with
      | false =>
        have : graph_Reach g l = some (1, []) := by
          unfold graph_Reach
          rw [graph_Valid_eq, hval]
          rfl
        rw [this]
        rfl
      | true =>
        obtain ⟨N, hg, hN, hE, hv⟩ := valid_at hval
        obtain ⟨b, hb, hbi⟩ := contains36 l (by omega) g
        cases b with
        | true =>
          have hn : ¬ allV l g.1 := fun h => by have := hbi.2 h; cases this
          have : graph_Reach g l = some (2, []) := by
            obtain ⟨b', hb', hbi'⟩ := contains59 l (by omega) g
            have hb1 : b' = true := by
              cases b' with
              | true => rfl
              | false => exact absurd (hbi'.1 rfl) hn
            subst hb1
            unfold graph_Reach
            rw [graph_Valid_eq, hval, bnd_ok, bif_neg (c := !true) rfl, hb']
            rfl
          rw [this, bnd_ok, bnd_ok, bif_neg (c := !true) rfl, hb]
          rfl
        | false =>
          have hok := hbi.1 rfl
          obtain ⟨p, hp, hpi⟩ := graph_Reach_eq hg hN hE hv hval (by omega) hok
          obtain ⟨q, hq, hqi⟩ := ref_Reach_eq hg hN hE hv (by omega) hok
          have hpq : (List.range N).filter p = (List.range N).filter q := filter_same fun v hv' => by rw [hpi v, hqi v hv']
          have hlen := casts_filter_len (N := N) q
          rw [hp, bnd_ok, bnd_ok, bif_neg (c := !true) rfl, hb, bnd_ok, bif_false', hq, bnd_ok, hpq, equal_self _ (Nat.le_trans hlen (by omega))]
          rfl
    · rw [bif_pos (by simp; omega)]

end Go.Proofs.Ytmcmlloigphbeaa
