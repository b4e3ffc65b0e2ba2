/-
  Graphs: what is reached, and how far it is (breadth first).
-/
import Derived.Test.YtmcmlloigphbeaaP3
set_option linter.all false
namespace Go.Proofs.Ytmcmlloigphbeaa
open Go.K Go.M

/-- A walk of k edges leads from S to v. -/
def W (E : List St4) (S : Nat → Prop) : Nat → Nat → Prop
  | 0, v => S v
  | k + 1, v => ∃ e ∈ E, W E S k (src e) ∧ dst e = v

theorem casts_getD (q : List Nat) (i : Nat) : (casts q).getD i 0 = ((q.getD i 0 : Nat) : Int) := by
  simp only [casts, List.getD_eq_getElem?_getD, List.getElem?_map]
  cases q[i]? <;> rfl
theorem casts_len (q : List Nat) : (casts q).length = q.length := by simp
theorem casts_add (q : List Nat) {x : Int} (h : 0 ≤ x) : casts q ++ [x] = casts (q ++ [Int.toNat x]) := by
  simp only [casts, List.map_append, List.map_cons, List.map_nil]
  rw [Int.toNat_of_nonneg h]
theorem getD_app_lt {q : List Nat} {w i : Nat} (h : i < q.length) : (q ++ [w]).getD i 0 = q.getD i 0 := by
  simp only [List.getD_eq_getElem?_getD, List.getElem?_append_left h]
theorem getD_app_eq {q : List Nat} {w : Nat} : (q ++ [w]).getD q.length 0 = w := by
  simp [List.getD_eq_getElem?_getD]

structure BQ (N : Nat) (E : List St4) (S : Nat → Prop) (q : List Nat) (fr : Nat → Int) : Prop where
  nd : q.Nodup
  lt : ∀ v ∈ q, v < N
  neg : ∀ v, v ∉ q → fr v = -1
  wlk : ∀ v ∈ q, ∃ k : Nat, fr v = (k : Int) ∧ W E S k v
  src0 : ∀ v, S v → v ∈ q ∧ fr v = 0
  sorted : ∀ i j, i ≤ j → j < q.length → fr (q.getD i 0) ≤ fr (q.getD j 0)
  pos : ∀ j, j < q.length → fr (q.getD j 0) ≤ (j : Int)

theorem BQ.len {N : Nat} {E : List St4} {S : Nat → Prop} {q : List Nat} {fr : Nat → Int} (h : BQ N E S q fr) : q.length ≤ N := nodup_le N q h.nd h.lt
theorem BQ.nn {N : Nat} {E : List St4} {S : Nat → Prop} {q : List Nat} {fr : Nat → Int} (h : BQ N E S q fr) (v : Nat) : v ∈ q ↔ 0 ≤ fr v := by
  constructor
  · intro hv
    obtain ⟨k, hk, _⟩ := h.wlk v hv
    omega
  · intro hv
    refine Classical.byContradiction fun hn => ?_
    have := h.neg v hn
    omega
theorem BQ.add {N : Nat} {E : List St4} {S : Nat → Prop} {q : List Nat} {fr : Nat → Int} (h : BQ N E S q fr) {i c w : Nat} {d : Int} (hi : i < q.length) (hci : q.getD i 0 = c) (hd : fr c = d) (hbd : ∀ v ∈ q, fr v ≤ d + 1) (hw : w ∉ q) (hwN : w < N) (he : ∃ e ∈ E, src e = c ∧ dst e = w) :
    BQ N E S (q ++ [w]) (fun v => if v = w then d + 1 else fr v) := by
  have hne : ∀ v ∈ q, v ≠ w := fun v hv e => hw (e ▸ hv)
  have hc : c ∈ q := by rw [← hci]; exact getD_mem 0 hi
  have hdi : d ≤ (i : Int) := by rw [← hd, ← hci]; exact h.pos i hi
  clear hci
  refine ⟨?_, fun v hv => ?_, fun v hv => ?_, fun v hv => ?_, fun v hv => ?_, fun i j hij hj => ?_, fun j hj => ?_⟩
  · rw [List.nodup_append]
    refine ⟨h.nd, by simp, fun a ha b hb => ?_⟩
    simp at hb
    subst hb
    exact hne a ha
  · rcases List.mem_append.1 hv with hv | hv
    · exact h.lt v hv
    · simp at hv; omega
  · have h1 : v ≠ w := fun e => hv (by simp [e])
    simp only [if_neg h1]
    exact h.neg v fun e => hv (List.mem_append_left _ e)
  · rcases List.mem_append.1 hv with hv | hv
    · simp only [if_neg (hne v hv)]
      exact h.wlk v hv
    · simp at hv
      subst hv
      obtain ⟨k, hk, hW⟩ := h.wlk c hc
      obtain ⟨e, he, h1, h2⟩ := he
      refine ⟨k + 1, by simp only [if_true]; omega, e, he, by rw [h1]; exact hW, h2⟩
  · obtain ⟨h1, h2⟩ := h.src0 v hv
    exact ⟨List.mem_append_left _ h1, by simp only [if_neg (hne v h1)]; exact h2⟩
  · have hmem : ∀ i, i < q.length → q.getD i 0 ∈ q := fun i hi => getD_mem 0 hi
    simp only [List.length_append, List.length_singleton] at hj
    by_cases hj' : j < q.length
    · rw [getD_app_lt hj', getD_app_lt (show i < q.length by omega)]
      simp only [if_neg (hne _ (hmem j hj')), if_neg (hne _ (hmem i (by omega)))]
      exact h.sorted i j hij hj'
    · obtain rfl : j = q.length := by omega
      rw [getD_app_eq]
      simp only [if_true]
      by_cases hi' : i < q.length
      · rw [getD_app_lt hi']
        simp only [if_neg (hne _ (hmem i hi'))]
        exact hbd _ (hmem i hi')
      · obtain rfl : i = q.length := by omega
        rw [getD_app_eq]
        simp
  · have hmem : ∀ i, i < q.length → q.getD i 0 ∈ q := fun i hi => getD_mem 0 hi
    simp only [List.length_append, List.length_singleton] at hj
    by_cases hj' : j < q.length
    · rw [getD_app_lt hj']
      simp only [if_neg (hne _ (hmem j hj'))]
      exact h.pos j hj'
    · obtain rfl : j = q.length := by omega
      rw [getD_app_eq]
      simp only [if_true]
      omega

theorem mem_nxt {E : List St4} {e : St4} (he : e ∈ E) {v : Nat} (hv : src e = v) : e.2.1 ∈ nxt false E v := by
  unfold nxt
  exact List.mem_flatMap.2 ⟨e, he, by simp [ng, hv]⟩
theorem nxt_mem {E : List St4} {v : Nat} {x : Int} (h : x ∈ nxt false E v) : ∃ e ∈ E, src e = v ∧ e.2.1 = x := by
  unfold nxt at h
  obtain ⟨e, he, h⟩ := List.mem_flatMap.1 h
  unfold ng at h
  by_cases hs : src e = v
  · simp [hs] at h
    exact ⟨e, he, hs, h.symm⟩
  · simp [hs] at h

/-- The queue is gone through up to place i. -/
structure BF (N : Nat) (E : List St4) (S : Nat → Prop) (i : Nat) (q : List Nat) (fr : Nat → Int) : Prop where
  b : BQ N E S q fr
  cl : ∀ j, j < i → ∀ e ∈ E, src e = q.getD j 0 → dst e ∈ q ∧ fr (dst e) ≤ fr (q.getD j 0) + 1
  bd : i < q.length → ∀ v ∈ q, fr v ≤ fr (q.getD i 0) + 1
  le : i ≤ q.length

theorem reachedL2_eq {N : Nat} {E : List St4} {S : Nat → Prop} (hN : N ≤ 1000) (hE : E.length ≤ 20000) (hv : VE N E) {i : Nat} {q0 : List Nat} {fr0 : Nat → Int} (hi : i < q0.length) (h : BF N E S i q0 fr0) (nx0 : List (List Int)) :
    ∃ q fr, BF N E S (i + 1) q fr ∧ graph_reachedL2 nx0 (i : Int) (nxt false E (q0.getD i 0)) ((nxt false E (q0.getD i 0)).length : Int) (0, tab N fr0, casts q0) = some (.inl (tab N fr, casts q)) := by
  have hwl := nxt_len false E (q0.getD i 0)
  obtain ⟨o, ho, q, fr, hBF, hoe⟩ := loop_inv (step := fun a : Int × List Int × List Int => graph_reachedL2K nx0 (i : Int) (nxt false E (q0.getD i 0)) ((nxt false E (q0.getD i 0)).length : Int) a.1 a.2.1 a.2.2 (fun a' => some (LR.next a')) (fun e => some (LR.done e)) (fun r => some (LR.ret r)))
    (fun s => ∃ (l : Nat) (q : List Nat) (fr : Nat → Int), s = ((l : Int), tab N fr, casts q) ∧ l ≤ (nxt false E (q0.getD i 0)).length ∧ BQ N E S q fr ∧ i < q.length ∧ q.getD i 0 = q0.getD i 0 ∧ fr (q0.getD i 0) = fr0 (q0.getD i 0) ∧ (∀ v ∈ q, fr v ≤ fr (q0.getD i 0) + 1) ∧
      (∀ j, j < i → ∀ e ∈ E, src e = q.getD j 0 → dst e ∈ q ∧ fr (dst e) ≤ fr (q.getD j 0) + 1) ∧ ∀ x, x < l → Int.toNat ((nxt false E (q0.getD i 0)).getD x 0) ∈ q)
    (fun s => (nxt false E (q0.getD i 0)).length - Int.toNat s.1)
    (fun o => ∃ q fr, BF N E S (i + 1) q fr ∧ o = .inl (tab N fr, casts q))
    ((0 : Int), tab N fr0, casts q0) ⟨0, q0, fr0, rfl, Nat.zero_le _, h.b, hi, rfl, rfl, h.bd hi, h.cl, fun x hx => by omega⟩ (by show (nxt false E (q0.getD i 0)).length - Int.toNat 0 < many; unfold many; omega) (by
    rintro s ⟨l, q, fr, rfl, hl, hB, hiq, hqi, hfi, hbd, hcl, hdone⟩
    generalize hc : q0.getD i 0 = c at *
    have hcq : c ∈ q := by rw [← hqi]; exact getD_mem 0 hiq
    obtain ⟨kc, hkc, _⟩ := hB.wlk c hcq
    have hcN := hB.lt c hcq
    have hpos := hB.pos i hiq
    rw [hqi] at hpos
    have hql := hB.len
    have hcast := casts_getD q i
    rw [hqi] at hcast
    have hclen := casts_len q
    by_cases hlt : l < (nxt false E c).length
    · obtain ⟨w1, w2⟩ := nxt_in hv false c (getD_mem 0 hlt)
      obtain ⟨e, he, he1, he2⟩ := nxt_mem (getD_mem 0 hlt)
      have kw : Int.toNat ((nxt false E c).getD l 0) < N := by omega
      by_cases hneg : fr (Int.toNat ((nxt false E c).getD l 0)) < 0
      · have hnq : Int.toNat ((nxt false E c).getD l 0) ∉ q := fun hm => by have := (hB.nn _).1 hm; omega
        have hadd := hB.add hiq hqi rfl hbd hnq kw ⟨e, he, he1, by simp only [dst, he2]⟩
        refine ⟨.next ((l : Int) + 1, tab N (fun v => if v = Int.toNat ((nxt false E c).getD l 0) then fr c + 1 else fr v), casts (q ++ [Int.toNat ((nxt false E c).getD l 0)])), ?_, ?_⟩
        · rw [← casts_add q w1]
          simp (disch := omega) only [graph_reachedL2K, tab_len, tab_getD kw, hcast, tab_getD hcN, tab_set, hclen, ckB_ix, ckB_inR, ckB_room, ckB_cut, ckB_mk, ckB_ne, bif_lt, bif_nlt, bif_le, bif_nle, bif_eq, bif_neq, bif_ne, bif_nne, bif_not, bif_true', bif_false', bnd_ok, lk_inl, lk_inr, Int.toNat_natCast]
        · have hcw : c ≠ Int.toNat ((nxt false E c).getD l 0) := fun e => hnq (e ▸ hcq)
          refine ⟨⟨l + 1, _, _, by rw [cast_succ], hlt, hadd, by simp; omega, by rw [getD_app_lt hiq]; exact hqi, by simp only [if_neg hcw]; exact hfi, ?_, ?_, ?_⟩, ?_⟩
          · intro v hv'
            simp only [if_neg hcw]
            rcases List.mem_append.1 hv' with h1 | h1
            · have : v ≠ Int.toNat ((nxt false E c).getD l 0) := fun e => hnq (e ▸ h1)
              simp only [if_neg this]
              exact hbd v h1
            · rw [List.mem_singleton] at h1
              simp only [if_pos h1]
              omega
          · intro j hj e' he' hs
            rw [getD_app_lt (show j < q.length by omega)] at hs ⊢
            obtain ⟨h1, h2⟩ := hcl j hj e' he' hs
            have h3 : dst e' ≠ Int.toNat ((nxt false E c).getD l 0) := fun e => hnq (e ▸ h1)
            have h4 : q.getD j 0 ≠ Int.toNat ((nxt false E c).getD l 0) := fun e => hnq (e ▸ getD_mem 0 (show j < q.length by omega))
            simp only [if_neg h3, if_neg h4]
            exact ⟨List.mem_append_left _ h1, h2⟩
          · intro x hx
            by_cases hxl : x < l
            · exact List.mem_append_left _ (hdone x hxl)
            · obtain rfl : x = l := by omega
              exact List.mem_append_right _ (by simp)
          · simp only [Int.toNat_natCast]
            omega
      · have hin : Int.toNat ((nxt false E c).getD l 0) ∈ q := (hB.nn _).2 (by omega)
        refine ⟨.next ((l : Int) + 1, tab N fr, casts q), ?_, ?_⟩
        · simp (disch := omega) only [graph_reachedL2K, tab_len, tab_getD kw, ckB_ix, ckB_inR, ckB_room, ckB_cut, ckB_mk, ckB_ne, bif_lt, bif_nlt, bif_le, bif_nle, bif_eq, bif_neq, bif_ne, bif_nne, bif_not, bif_true', bif_false', bnd_ok, lk_inl, lk_inr, Int.toNat_natCast]
        · refine ⟨⟨l + 1, q, fr, by rw [cast_succ], hlt, hB, hiq, hqi, hfi, hbd, hcl, fun x hx => ?_⟩, ?_⟩
          · by_cases hxl : x < l
            · exact hdone x hxl
            · obtain rfl : x = l := by omega
              exact hin
          · simp only [Int.toNat_natCast]
            omega
    · refine ⟨.done (tab N fr, casts q), ?_, q, fr, ⟨hB, fun j hj e' he' hs => ?_, fun hi1 v hv' => ?_, hiq⟩, rfl⟩
      · simp (disch := omega) only [graph_reachedL2K, ckB_ix, ckB_inR, ckB_room, ckB_cut, ckB_mk, ckB_ne, bif_lt, bif_nlt, bif_le, bif_nle, bif_eq, bif_neq, bif_ne, bif_nne, bif_not, bif_true', bif_false', bnd_ok, lk_inl, lk_inr, Int.toNat_natCast]
      · by_cases hji : j < i
        · exact hcl j hji e' he' hs
        · obtain rfl : j = i := by omega
          rw [hqi] at hs ⊢
          have hm := mem_nxt he' hs
          obtain ⟨x, hx, hxe⟩ := mem_getD 0 hm
          have h1 := hdone x (by omega)
          rw [hxe] at h1
          exact ⟨h1, hbd _ h1⟩
      · have h1 := hbd v hv'
        have h2 := hB.sorted i (i + 1) (by omega) hi1
        rw [hqi] at h2
        omega)
  exact ⟨q, fr, hBF, by rw [← hoe]; exact ho⟩

theorem reachedL3_eq {N : Nat} {E : List St4} {S : Nat → Prop} (hN : N ≤ 1000) (hE : E.length ≤ 20000) (hv : VE N E) {q0 : List Nat} {fr0 : Nat → Int} (h : BF N E S 0 q0 fr0) :
    ∃ q fr, BF N E S q.length q fr ∧ graph_reachedL3 (tab N (nxt false E)) (0, tab N fr0, casts q0) = some (.inl (tab N fr)) := by
  obtain ⟨o, ho, q, fr, hBF, hoe⟩ := loop_inv (step := fun a : Int × List Int × List Int => graph_reachedL3K (tab N (nxt false E)) a.1 a.2.1 a.2.2 (fun a' => some (LR.next a')) (fun e => some (LR.done e)) (fun r => some (LR.ret r)))
    (fun s => ∃ (i : Nat) (q : List Nat) (fr : Nat → Int), s = ((i : Int), tab N fr, casts q) ∧ BF N E S i q fr)
    (fun s => N + 1 - Int.toNat s.1)
    (fun o => ∃ q fr, BF N E S q.length q fr ∧ o = .inl (tab N fr))
    ((0 : Int), tab N fr0, casts q0) ⟨0, q0, fr0, rfl, h⟩ (by unfold many; simp; omega) (by
    rintro s ⟨i, q, fr, rfl, hB⟩
    have hql := hB.b.len
    have hclen := casts_len q
    have hle := hB.le
    by_cases hi : i < q.length
    · obtain ⟨q', fr', hB', hL2⟩ := reachedL2_eq hN hE hv hi hB (tab N (nxt false E))
      have hcN := hB.b.lt _ (getD_mem 0 hi)
      have hcast := casts_getD q i
      refine ⟨.next ((i : Int) + 1, tab N fr', casts q'), ?_, ⟨i + 1, q', fr', by rw [cast_succ], hB'⟩, ?_⟩
      · simp (disch := omega) only [graph_reachedL3K, hcast, tab_len, tab_getD hcN, hL2, hclen, ckB_ix, ckB_inR, ckB_room, ckB_cut, ckB_mk, ckB_ne, bif_lt, bif_nlt, bif_le, bif_nle, bif_eq, bif_neq, bif_ne, bif_nne, bif_not, bif_true', bif_false', bnd_ok, lk_inl, lk_inr, Int.toNat_natCast]
      · simp only [Int.toNat_natCast]
        omega
    · obtain rfl : i = q.length := by omega
      refine ⟨.done (tab N fr), ?_, q, fr, hB, rfl⟩
      simp (disch := omega) only [graph_reachedL3K, hclen, ckB_ix, ckB_inR, ckB_room, ckB_cut, ckB_mk, ckB_ne, bif_lt, bif_nlt, bif_le, bif_nle, bif_eq, bif_neq, bif_ne, bif_nne, bif_not, bif_true', bif_false', bnd_ok, lk_inl, lk_inr, Int.toNat_natCast])
  exact ⟨q, fr, hBF, by rw [← hoe]; exact ho⟩

/-- Where walks begin. -/
def SF (l : List Int) (v : Nat) : Prop := ∃ x ∈ l, Int.toNat x = v

theorem reachedL1_eq {N : Nat} {E : List St4} (hN : N ≤ 1000) {l : List Int} (hl : l.length ≤ 1000000) (hlN : ∀ x ∈ l, 0 ≤ x ∧ x < (N : Int)) (nx0 : List (List Int)) :
    ∃ q fr, BF N E (SF l) 0 q fr ∧ graph_reachedL1 nx0 l (l.length : Int) (0, tab N (fun _ => (-1 : Int)), []) = some (.inl (tab N fr, casts q)) := by
  obtain ⟨o, ho, q, hq1, hq2, hq3, hoe⟩ := loop_inv (step := fun a : Int × List Int × List Int => graph_reachedL1K nx0 l (l.length : Int) a.1 a.2.1 a.2.2 (fun a' => some (LR.next a')) (fun e => some (LR.done e)) (fun r => some (LR.ret r)))
    (fun s => ∃ (i : Nat) (q : List Nat), s = ((i : Int), tab N (fun v => if v ∈ q then (0 : Int) else -1), casts q) ∧ i ≤ l.length ∧ q.Nodup ∧ (∀ v ∈ q, v < N) ∧ ∀ v, v ∈ q ↔ SF (l.take i) v)
    (fun s => l.length + 1 - Int.toNat s.1)
    (fun o => ∃ q : List Nat, q.Nodup ∧ (∀ v ∈ q, v < N) ∧ (∀ v, v ∈ q ↔ SF l v) ∧ o = .inl (tab N (fun v => if v ∈ q then (0 : Int) else -1), casts q))
    ((0 : Int), tab N (fun _ => (-1 : Int)), []) ⟨0, [], by simp, Nat.zero_le _, List.nodup_nil, by simp, by simp [SF]⟩ (by unfold many; simp; omega) (by
    rintro s ⟨i, q, rfl, hi, hnd, hqN, hmem⟩
    have hql : q.length ≤ N := nodup_le N q hnd hqN
    have hclen := casts_len q
    by_cases hlt : i < l.length
    · obtain ⟨w1, w2⟩ := hlN _ (getD_mem 0 hlt)
      have kw : Int.toNat (l.getD i 0) < N := by omega
      have hsucc : ∀ v, SF (l.take (i + 1)) v ↔ SF (l.take i) v ∨ v = Int.toNat (l.getD i 0) := by
        intro v
        rw [take_succ_getD l i 0 hlt]
        unfold SF
        constructor
        · rintro ⟨x, hx, rfl⟩
          rcases List.mem_append.1 hx with hx | hx
          · exact .inl ⟨x, hx, rfl⟩
          · rw [List.mem_singleton] at hx
            exact .inr (by rw [hx])
        · rintro (⟨x, hx, rfl⟩ | rfl)
          · exact ⟨x, List.mem_append_left _ hx, rfl⟩
          · exact ⟨_, List.mem_append_right _ (List.mem_singleton.2 rfl), rfl⟩
      by_cases hin : Int.toNat (l.getD i 0) ∈ q
      · refine ⟨.next ((i : Int) + 1, tab N (fun v => if v ∈ q then (0 : Int) else -1), casts q), ?_, ⟨i + 1, q, by rw [cast_succ], hlt, hnd, hqN, fun v => ?_⟩, ?_⟩
        · simp (disch := omega) only [graph_reachedL1K, tab_len, tab_getD kw, if_pos hin, ckB_ix, ckB_inR, ckB_room, ckB_cut, ckB_mk, ckB_ne, bif_lt, bif_nlt, bif_le, bif_nle, bif_eq, bif_neq, bif_ne, bif_nne, bif_not, bif_true', bif_false', bnd_ok, lk_inl, lk_inr, Int.toNat_natCast]
        · rw [hsucc, hmem]
          constructor
          · exact .inl
          · rintro (h | rfl)
            · exact h
            · exact (hmem _).1 hin
        · simp only [Int.toNat_natCast]
          omega
      · refine ⟨.next ((i : Int) + 1, tab N (fun v => if v ∈ q ++ [Int.toNat (l.getD i 0)] then (0 : Int) else -1), casts (q ++ [Int.toNat (l.getD i 0)])), ?_, ⟨i + 1, _, by rw [cast_succ], hlt, ?_, fun v hv => ?_, fun v => ?_⟩, ?_⟩
        · rw [← casts_add q w1]
          simp (disch := omega) only [graph_reachedL1K, tab_len, tab_getD kw, if_neg hin, tab_set, hclen, ckB_ix, ckB_inR, ckB_room, ckB_cut, ckB_mk, ckB_ne, bif_lt, bif_nlt, bif_le, bif_nle, bif_eq, bif_neq, bif_ne, bif_nne, bif_not, bif_true', bif_false', bnd_ok, lk_inl, lk_inr, Int.toNat_natCast]
          simp only [Option.some.injEq, LR.next.injEq, Prod.mk.injEq, and_true, true_and]
          refine tab_congr fun v _ => ?_
          simp only [List.mem_append, List.mem_singleton]
          by_cases e : v = Int.toNat (l.getD i 0)
          · rw [if_pos e, if_pos (.inr e)]
          · rw [if_neg e]
            by_cases e2 : v ∈ q
            · rw [if_pos e2, if_pos (.inl e2)]
            · rw [if_neg e2, if_neg (fun h => h.elim e2 e)]
        · rw [List.nodup_append]
          refine ⟨hnd, by simp, fun a ha b hb => ?_⟩
          rw [List.mem_singleton] at hb
          subst hb
          exact fun e => hin (e ▸ ha)
        · rcases List.mem_append.1 hv with hv | hv
          · exact hqN v hv
          · rw [List.mem_singleton] at hv; omega
        · rw [hsucc, ← hmem]
          simp
        · simp only [Int.toNat_natCast]
          omega
    · obtain rfl : i = l.length := by omega
      rw [List.take_length] at hmem
      exact ⟨.done (tab N (fun v => if v ∈ q then (0 : Int) else -1), casts q), by simp (disch := omega) only [graph_reachedL1K, ckB_ix, ckB_inR, ckB_room, ckB_cut, ckB_mk, ckB_ne, bif_lt, bif_nlt, bif_le, bif_nle, bif_eq, bif_neq, bif_ne, bif_nne, bif_not, bif_true', bif_false', bnd_ok, lk_inl, lk_inr, Int.toNat_natCast], q, hnd, hqN, hmem, rfl⟩)
  refine ⟨q, fun v => if v ∈ q then (0 : Int) else -1, ⟨⟨hq1, hq2, fun v hv => if_neg hv, fun v hv => ⟨0, if_pos hv, (hq3 v).1 hv⟩, fun v hv => ⟨(hq3 v).2 hv, if_pos ((hq3 v).2 hv)⟩, fun i j hij hj => ?_, fun j hj => ?_⟩, fun j hj => by omega, fun h0 v hv => ?_, Nat.zero_le _⟩, by rw [← hoe]; exact ho⟩
  · rw [if_pos (getD_mem 0 hj), if_pos (getD_mem 0 (show i < q.length by omega))]
    exact Int.le_refl _
  · rw [if_pos (getD_mem 0 hj)]
    omega
  · rw [if_pos hv, if_pos (getD_mem 0 h0)]
    omega

theorem reachedL0_eq {N : Nat} (hN : N ≤ 1000) (nx0 : List (List Int)) (l : List Int) (f : Nat → Int) : graph_reachedL0 nx0 l (N : Int) (0, tab N f) = some (.inl (tab N fun _ => -1)) := by
  refine loop_to (fun i : Nat => ((i : Int), tab N fun v => if v < i then -1 else f v)) N (many_of (by omega)) _ ?_ ?_ _ (by simp)
  · intro i hi
    simp (disch := omega) only [graph_reachedL0K, tab_len, tab_set, ckB_ix, ckB_inR, ckB_room, ckB_cut, ckB_mk, ckB_ne, bif_lt, bif_nlt, bif_le, bif_nle, bif_eq, bif_neq, bif_ne, bif_nne, bif_not, bif_true', bif_false', bnd_ok, lk_inl, lk_inr, Int.toNat_natCast]
    simp only [Option.some.injEq, LR.next.injEq, Prod.mk.injEq]
    refine ⟨by omega, tab_congr fun v _ => ?_⟩
    by_cases e : v = i
    · rw [if_pos e, if_pos (by omega)]
    · rw [if_neg e]
      by_cases e2 : v < i
      · rw [if_pos e2, if_pos (by omega)]
      · rw [if_neg e2, if_neg (by omega)]
  · simp (disch := omega) only [graph_reachedL0K, ckB_ix, ckB_inR, ckB_room, ckB_cut, ckB_mk, ckB_ne, bif_lt, bif_nlt, bif_le, bif_nle, bif_eq, bif_neq, bif_ne, bif_nne, bif_not, bif_true', bif_false', bnd_ok, lk_inl, lk_inr, Int.toNat_natCast]
    congr 2
    exact tab_congr fun v hv => if_pos hv

/-- **How far vertices are.** -/
theorem reached_eq {N : Nat} {E : List St4} (hN : N ≤ 1000) (hE : E.length ≤ 20000) (hv : VE N E) {l : List Int} (hl : l.length ≤ 1000000) (hlN : ∀ x ∈ l, 0 ≤ x ∧ x < (N : Int)) :
    ∃ fr : Nat → Int, graph_reached (tab N (nxt false E)) l = some (tab N fr) ∧ ∀ v, (fr v = -1 ∧ ∀ k, ¬ W E (SF l) k v) ∨ ∃ k : Nat, k < N ∧ fr v = (k : Int) ∧ W E (SF l) k v ∧ ∀ j, W E (SF l) j v → k ≤ j := by
  obtain ⟨q1, fr1, hB1, h1⟩ := reachedL1_eq (E := E) hN hl hlN (tab N (nxt false E))
  obtain ⟨q, fr, hB, h3⟩ := reachedL3_eq hN hE hv hB1
  refine ⟨fr, ?_, ?_⟩
  · unfold graph_reached
    rw [tab_len, Int.toNat_natCast, List.length_replicate, tab_rep, reachedL0_eq hN]
    simp (disch := omega) only [h1, h3, ckB_ix, ckB_inR, ckB_room, ckB_cut, ckB_mk, ckB_ne, bif_lt, bif_nlt, bif_le, bif_nle, bif_eq, bif_neq, bif_ne, bif_nne, bif_not, bif_true', bif_false', bnd_ok, lk_inl, lk_inr, Int.toNat_natCast]
  · have key : ∀ k v, W E (SF l) k v → v ∈ q ∧ fr v ≤ (k : Int) := by
      intro k
      induction k with
      | zero =>
        intro v h
        obtain ⟨a, b⟩ := hB.b.src0 v h
        exact ⟨a, by omega⟩
      | succ k ih =>
        rintro v ⟨e, he, hW, rfl⟩
        obtain ⟨a, b⟩ := ih _ hW
        obtain ⟨j, hj, hje⟩ := mem_getD 0 a
        obtain ⟨c, d⟩ := hB.cl j hj e he hje.symm
        rw [hje] at d
        exact ⟨c, by omega⟩
    intro v
    by_cases hvq : v ∈ q
    · obtain ⟨k, hk, hW⟩ := hB.b.wlk v hvq
      obtain ⟨j, hj, hje⟩ := mem_getD 0 hvq
      have hp := hB.b.pos j hj
      have hql := hB.b.len
      rw [hje] at hp
      exact .inr ⟨k, by omega, hk, hW, fun j hj => by have := (key j v hj).2; omega⟩
    · exact .inl ⟨hB.b.neg v hvq, fun k hW => hvq (key k v hW).1⟩

end Go.Proofs.Ytmcmlloigphbeaa
