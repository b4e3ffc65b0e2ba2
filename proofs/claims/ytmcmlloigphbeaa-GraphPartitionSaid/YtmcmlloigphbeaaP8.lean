/-
  Graphs: the program's path is greedy; its beginnings are paths.
-/
import Derived.Test.YtmcmlloigphbeaaP7
set_option linter.all false
namespace Go.Proofs.Ytmcmlloigphbeaa
open Go.K Go.M

/-- The path that takes, at each vertex, the least next one. -/
def GP (E : List St4) (fr : Nat → Int) : Nat → Nat → List Nat → Prop
  | 0, _, l => l = []
  | k + 1, v, l => ∃ w t, l = w :: t ∧ Least (Cand E fr v (k : Int)) w ∧ GP E fr k w t

theorem GP.uniq {E : List St4} {fr : Nat → Int} : ∀ {k v : Nat} {l l' : List Nat}, GP E fr k v l → GP E fr k v l' → l = l'
  | 0, _, _, _, h, h' => by rw [h, h']
  | k + 1, v, _, _, ⟨w, t, e, h1, h2⟩, ⟨w', t', e', h1', h2'⟩ => by
    have := h1.uniq h1'
    subst this
    rw [e, e', GP.uniq h2 h2']
theorem GP.len {E : List St4} {fr : Nat → Int} : ∀ {k v : Nat} {l : List Nat}, GP E fr k v l → l.length = k
  | 0, _, _, h => by rw [h]; rfl
  | k + 1, v, _, ⟨w, t, e, h1, h2⟩ => by rw [e, List.length_cons, GP.len h2]

/-- How far it is to c. -/
def DF (N : Nat) (E : List St4) (c : Nat) (fr : Nat → Int) : Prop :=
  ∀ v, (fr v = -1 ∧ ∀ k, ¬ W (E.map swapE) (fun x => x = c) k v) ∨ ∃ k : Nat, k < N ∧ fr v = (k : Int) ∧ W (E.map swapE) (fun x => x = c) k v ∧ ∀ j, W (E.map swapE) (fun x => x = c) j v → k ≤ j

theorem DF.at_ {N : Nat} {E : List St4} {c : Nat} {fr : Nat → Int} (h : DF N E c fr) {v k : Nat} (hk : fr v = (k : Int)) : k < N ∧ W (E.map swapE) (fun x => x = c) k v ∧ ∀ j, W (E.map swapE) (fun x => x = c) j v → k ≤ j := by
  rcases h v with ⟨e, _⟩ | ⟨j, h1, h2, h3, h4⟩
  · omega
  · have : j = k := by omega
    subst this
    exact ⟨h1, h3, h4⟩
theorem DF.of_walk {N : Nat} {E : List St4} {c : Nat} {fr : Nat → Int} (h : DF N E c fr) {v j : Nat} (hW : W (E.map swapE) (fun x => x = c) j v) : ∃ k : Nat, k ≤ j ∧ fr v = (k : Int) := by
  rcases h v with ⟨_, e⟩ | ⟨k, h1, h2, h3, h4⟩
  · exact absurd hW (e j)
  · exact ⟨k, h4 j hW, h2⟩

/-- An edge lengthens a walk by one. -/
theorem W_edge {E : List St4} {c k : Nat} {e : St4} (he : e ∈ E) (h : W (E.map swapE) (fun x => x = c) k (dst e)) : W (E.map swapE) (fun x => x = c) (k + 1) (src e) :=
  ⟨swapE e, List.mem_map.2 ⟨e, he, rfl⟩, h, rfl⟩
theorem W_comp {R : List St4} {c b j : Nat} (hc : W R (fun x => x = b) j c) : ∀ {k v : Nat}, W R (fun x => x = c) k v → W R (fun x => x = b) (k + j) v
  | 0, v, h => by
    have : v = c := h
    subst this
    rw [Nat.zero_add]
    exact hc
  | k + 1, v, ⟨e, he, hW, hd⟩ => by
    rw [show k + 1 + j = (k + j) + 1 by omega]
    exact ⟨e, he, W_comp hc hW, hd⟩

theorem Cand.step {N : Nat} {E : List St4} {c : Nat} {fr : Nat → Int} (h : DF N E c fr) {v : Nat} {k : Nat} (hk : fr v = (k : Int) + 1) : ∃ w, Cand E fr v (k : Int) w := by
  obtain ⟨_, hW, hmin⟩ := h.at_ (k := k + 1) (by rw [hk]; omega)
  obtain ⟨e', he', hW', hd⟩ := hW
  obtain ⟨e, he, rfl⟩ := List.mem_map.1 he'
  have hW2 : W (E.map swapE) (fun x => x = c) k (dst e) := hW'
  obtain ⟨j, hj, hfj⟩ := h.of_walk hW2
  have h3 := hmin (j + 1) ⟨swapE e, he', (h.at_ hfj).2.1, hd⟩
  exact ⟨dst e, e, he, hd, rfl, by omega⟩

/-- **The beginning of a greedy path to b is the greedy path to where it ends.** i: so many steps. -/
theorem GP.take {N : Nat} {E : List St4} {b c : Nat} {fb fc : Nat → Int} (hb : DF N E b fb) (hc : DF N E c fc) : ∀ (i k v : Nat) (l : List Nat), fb v = (k : Int) → GP E fb k v l → i ≤ k → (v :: l).getD i 0 = c →
    fc v = (i : Int) ∧ GP E fc i v (l.take i) := by
  intro i
  induction i with
  | zero =>
    intro k v l hk hG hi hl
    have hvc : v = c := by simpa using hl
    subst hvc
    obtain ⟨j, hj, hf⟩ := hc.of_walk (v := v) (j := 0) rfl
    have : j = 0 := by omega
    subst this
    exact ⟨hf, by simp [GP]⟩
  | succ i ih =>
    intro k v l hk hG hi hl
    obtain ⟨k, rfl⟩ : ∃ q, k = q + 1 := ⟨k - 1, by omega⟩
    obtain ⟨w, t, rfl, hw, hG'⟩ := hG
    have hfw : fb w = (k : Int) := by obtain ⟨e, he, h1, h2, h3⟩ := hw.1; exact h3
    obtain ⟨e, he, h1, h2, _⟩ := hw.1
    have hl' : (w :: t).getD i 0 = c := by simpa using hl
    obtain ⟨hfc, hGc⟩ := ih k w t hfw hG' (by omega) hl'
    -- how far c is from b
    obtain ⟨_, hWw, _⟩ := hc.at_ hfc
    have hWv : W (E.map swapE) (fun x => x = c) (i + 1) v := by
      rw [← h1]
      exact W_edge he (by rw [h2]; exact hWw)
    obtain ⟨m, hm, hfv⟩ := hc.of_walk hWv
    have hcb : ∃ d : Nat, fb c = (d : Int) ∧ i + 1 + d = k + 1 := by
      have key : ∀ (i k v : Nat) (l : List Nat), fb v = (k : Int) → GP E fb k v l → i ≤ k → fb ((v :: l).getD i 0) = ((k - i : Nat) : Int) := by
        intro i
        induction i with
        | zero => intro k v l hk _ _; simpa using hk
        | succ i ih =>
          intro k v l hk hG hi
          obtain ⟨k, rfl⟩ : ∃ q, k = q + 1 := ⟨k - 1, by omega⟩
          obtain ⟨w, t, rfl, hw, hG'⟩ := hG
          have hfw : fb w = (k : Int) := by obtain ⟨e, he, h1, h2, h3⟩ := hw.1; exact h3
          have := ih k w t hfw hG' (by omega)
          rw [show k + 1 - (i + 1) = k - i by omega]
          simpa using this
      have := key (i + 1) (k + 1) v (w :: t) hk ⟨w, t, rfl, hw, hG'⟩ hi
      rw [hl] at this
      exact ⟨k + 1 - (i + 1), this, by omega⟩
    obtain ⟨d, hfd, hd⟩ := hcb
    obtain ⟨_, hWc, _⟩ := hb.at_ hfd
    obtain ⟨_, _, hminv⟩ := hb.at_ hk
    have hmi : m = i + 1 := by
      have h3 := hminv (m + d) (W_comp hWc (hc.at_ hfv).2.1)
      omega
    subst hmi
    refine ⟨hfv, w, t.take i, by simp, ⟨⟨e, he, h1, h2, hfc⟩, fun w' hw' => ?_⟩, hGc⟩
    obtain ⟨e', he', q1, q2, q3⟩ := hw'
    refine hw.2 w' ⟨e', he', q1, q2, ?_⟩
    -- a candidate for c is one for b
    have h4 := W_comp hWc (hc.at_ q3).2.1
    obtain ⟨x, hx, hfx⟩ := hb.of_walk h4
    have h5 := hminv (x + 1) (by rw [← q1]; exact W_edge he' (by rw [q2]; exact (hb.at_ hfx).2.1))
    omega

end Go.Proofs.Ytmcmlloigphbeaa
