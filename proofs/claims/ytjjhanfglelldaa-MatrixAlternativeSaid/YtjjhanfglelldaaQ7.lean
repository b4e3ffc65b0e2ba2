/-
  Matrices: products are associative, and transposing reverses them.
-/
import Derived.Test.YtjjhanfglelldaaQ6
set_option linter.all false
namespace Go.Proofs.Ytjjhanfglelldaa
open Go.K Go.M

section
variable {R K C D : Nat}

theorem T2_inj {R' C' : Nat} {A A' : Nat → Nat → Int} (h : T2 R C A = T2 R' C' A') (h0 : 0 < R) : R = R' ∧ C = C' ∧ ∀ i j, i < R → j < C → A i j = A' i j := by
  have h1 : R = R' := by have := congrArg List.length h; rwa [T2_len, T2_len] at this
  subst h1
  have hrow : ∀ i, i < R → tab C (A i) = tab C' (A' i) := fun i hi => by rw [← T2_row (A := A) hi, h, T2_row hi]
  have h2 : C = C' := by have := congrArg List.length (hrow 0 h0); rwa [tab_len, tab_len] at this
  subst h2
  refine ⟨rfl, rfl, fun i j hi hj => ?_⟩
  have := congrArg (fun l => l.getD j 0) (hrow i hi)
  simp only [tab_getD hj] at this
  exact this

theorem mulF_assoc {A B E : Nat → Nat → Int} (i j : Nat) : mulF C (mulF K A B) E i j = mulF K A (mulF C B E) i j := by
  unfold mulF
  have h1 : sumN (fun k => sumN (fun m => A i m * B m k) K * E k j) C = sumN (fun k => sumN (fun m => A i m * B m k * E k j) K) C := sumN_congr fun k _ => (sumN_mul' (E k j) _ K).symm
  rw [h1, sumN_swap]
  refine sumN_congr fun m _ => ?_
  rw [← sumN_mul]
  exact sumN_congr fun k _ => Int.mul_assoc _ _ _
theorem mulF_congr {A A' B B' : Nat → Nat → Int} {i j : Nat} (hA : ∀ k, k < K → A i k = A' i k) (hB : ∀ k, k < K → B k j = B' k j) : mulF K A B i j = mulF K A' B' i j := sumN_congr fun k hk => by rw [hA k hk, hB k hk]
theorem mulF_tr {A B : Nat → Nat → Int} (i j : Nat) : mulF K (trF B) (trF A) i j = trF (mulF K A B) i j := sumN_congr fun k _ => Int.mul_comm _ _

/-- A product of lists that may be anything. -/
theorem mul_gen {a b : List (List Int)} (ha : ∀ r ∈ a, r.length ≤ 9223372036854775806) (hb : ∀ r ∈ b, r.length ≤ 9223372036854775806) : ∃ e l, matrix_Mul a b = some (e, l) ∧ (∀ r ∈ l, r.length ≤ 9223372036854775806) ∧
    (e = 0 → ∃ (R K C : Nat) (A B : Nat → Nat → Int), a = T2 R K A ∧ b = T2 K C B ∧ (1 ≤ R ∧ R ≤ 20) ∧ (1 ≤ K ∧ K ≤ 20) ∧ (1 ≤ C ∧ C ≤ 20) ∧ Ent A ∧ Ent B ∧ l = T2 R C (mulF K A B) ∧ validM l = true) := by
  have va := Valid_eq a ha
  have vb := Valid_eq b hb
  cases hva : validM a with
  | false =>
    rw [hva] at va
    refine ⟨1, [], ?_, by simp, fun h => by cases h⟩
    unfold matrix_Mul; simp (disch := omega) only [va, Bool.not_false, ckB_ix, ckB_inR, ckB_room, ckB_cut, ckB_mk, ckB_ne, bif_lt, bif_nlt, bif_le, bif_nle, bif_eq, bif_neq, bif_ne, bif_nne, bif_not, bif_true', bif_false', bnd_ok, lk_inl, lk_inr, Int.toNat_natCast]
  | true =>
    rw [hva] at va
    cases hvb : validM b with
    | false =>
      rw [hvb] at vb
      refine ⟨1, [], ?_, by simp, fun h => by cases h⟩
      unfold matrix_Mul; simp (disch := omega) only [va, vb, Bool.not_true, Bool.not_false, ckB_ix, ckB_inR, ckB_room, ckB_cut, ckB_mk, ckB_ne, bif_lt, bif_nlt, bif_le, bif_nle, bif_eq, bif_neq, bif_ne, bif_nne, bif_not, bif_true', bif_false', bnd_ok, lk_inl, lk_inr, Int.toNat_natCast]
    | true =>
      rw [hvb] at vb
      obtain ⟨R, K, A, rfl, _, _, r1, r2, k1, k2, hA⟩ := valid_at hva
      obtain ⟨K', C, B, rfl, _, _, k1', k2', c1, c2, hB⟩ := valid_at hvb
      have h0 : 0 < R := by omega
      by_cases hk : K = K'
      · subst hk
        obtain ⟨h1, h2⟩ := mul_val r1 r2 k1 k2 c1 c2 hA hB
        cases hv : validM (T2 R C (mulF K A B)) with
        | true =>
          refine ⟨0, T2 R C (mulF K A B), ?_, T2_rows (by omega), fun _ => ⟨R, K, C, A, B, rfl, rfl, ⟨r1, r2⟩, ⟨k1, k2⟩, ⟨c1, c2⟩, hA, hB, rfl, hv⟩⟩
          rw [h1]; unfold mulV; rw [if_pos hv]
        | false =>
          refine ⟨6, [], ?_, by simp, fun h => by cases h⟩
          rw [h1]; unfold mulV; rw [if_neg (by rw [hv]; simp)]
      · have hk' : (K : Int) ≠ (K' : Int) := by omega
        refine ⟨29, [], ?_, by simp, fun h => by cases h⟩
        unfold matrix_Mul; simp (disch := omega) only [va, vb, Bool.not_true, T2_len, T2_row h0, tab_len, ckB_ix, ckB_inR, ckB_room, ckB_cut, ckB_mk, ckB_ne, bif_lt, bif_nlt, bif_le, bif_nle, bif_eq, bif_neq, bif_ne, bif_nne, bif_not, bif_true', bif_false', bnd_ok, lk_inl, lk_inr, Int.toNat_natCast]
end

theorem Products_T0 {a b ab : List (List Int)} {e : Int} (hab : e = 0 → ∃ (R K C : Nat) (A B : Nat → Nat → Int), a = T2 R K A ∧ b = T2 K C B ∧ (1 ≤ R ∧ R ≤ 20) ∧ (1 ≤ K ∧ K ≤ 20) ∧ (1 ≤ C ∧ C ≤ 20) ∧ Ent A ∧ Ent B ∧ ab = T2 R C (mulF K A B) ∧ validM ab = true) : law05_MatrixProductsT0 a b ab e = some (.inr true) := by
  unfold law05_MatrixProductsT0 law05_MatrixProductsT0K
  by_cases he : e = 0
  · obtain ⟨R, K, C, A, B, rfl, rfl, hR, hK, hC, hA, hB, rfl, hv⟩ := hab he
    obtain ⟨R', C', M, hM, h1, h2, _, _, _, _, hMe⟩ := valid_at hv
    have h0 : 0 < R := by omega
    obtain ⟨rfl, rfl, hent⟩ := T2_inj hM h0
    have t1 := Transpose_val hR.1 hR.2 hK.1 hK.2 hA
    have t2 := Transpose_val hK.1 hK.2 hC.1 hC.2 hB
    have t3 : matrix_Transpose (T2 R C (mulF K A B)) = some (0, T2 C R (trF M)) := by rw [hM]; exact Transpose_val hR.1 hR.2 hC.1 hC.2 hMe
    have hs := (mul_val hC.1 hC.2 hK.1 hK.2 hR.1 hR.2 (A := trF B) (B := trF A) (fun i j => hB j i) (fun i j => hA j i)).1
    have he2 : T2 C R (mulF K (trF B) (trF A)) = T2 C R (trF M) := T2_congr fun i j hi hj => by rw [mulF_tr]; exact hent j i hj hi
    have hval : validM (T2 C R (trF M)) = true := T2_valid hC.1 hC.2 hR.1 hR.2 (fun i j => hMe j i)
    unfold mulV at hs
    rw [he2, if_pos hval] at hs
    have h6 := same_self (T2 C R (trF M)) (by rw [T2_len]; omega) (T2_short (by omega))
    simp (disch := omega) only [t1, t2, t3, hs, h6, decide_true, ckB_ix, ckB_inR, ckB_room, ckB_cut, ckB_mk, ckB_ne, bif_lt, bif_nlt, bif_le, bif_nle, bif_eq, bif_neq, bif_ne, bif_nne, bif_not, bif_true', bif_false', bnd_ok, lk_inl, lk_inr, Int.toNat_natCast]
  · simp (disch := omega) only [ckB_ix, ckB_inR, ckB_room, ckB_cut, ckB_mk, ckB_ne, bif_lt, bif_nlt, bif_le, bif_nle, bif_eq, bif_neq, bif_ne, bif_nne, bif_not, bif_true', bif_false', bnd_ok, lk_inl, lk_inr, Int.toNat_natCast]

theorem MatrixProducts_true (a b c : List (List Int)) : law05_MatrixProducts a b c = some true := by
  obtain ⟨g, hg, hok⟩ := great_eq [a, b, c] (by simp)
  unfold law05_MatrixProducts
  cases g with
  | true => simp (disch := omega) only [awake_true, Bool.not_true, hg, ckB_ix, ckB_inR, ckB_room, ckB_cut, ckB_mk, ckB_ne, bif_lt, bif_nlt, bif_le, bif_nle, bif_eq, bif_neq, bif_ne, bif_nne, bif_not, bif_true', bif_false', bnd_ok, lk_inl, lk_inr, Int.toNat_natCast]
  | false =>
    have ha := (hok rfl a (by simp)).row
    have hb := (hok rfl b (by simp)).row
    have hc := (hok rfl c (by simp)).row
    have h9 : ∀ r ∈ a, r.length ≤ 9223372036854775806 := fun r hr => by have := (hok rfl a (by simp)).2 r hr; unfold okL at this; omega
    have h10 : ∀ r ∈ b, r.length ≤ 9223372036854775806 := fun r hr => by have := (hok rfl b (by simp)).2 r hr; unfold okL at this; omega
    have h11 : ∀ r ∈ c, r.length ≤ 9223372036854775806 := fun r hr => by have := (hok rfl c (by simp)).2 r hr; unfold okL at this; omega
    cases hva : validM a with
    | false => simp (disch := omega) only [awake_true, Bool.not_true, hg, refValid_eq, hva, Bool.not_false, ckB_ix, ckB_inR, ckB_room, ckB_cut, ckB_mk, ckB_ne, bif_lt, bif_nlt, bif_le, bif_nle, bif_eq, bif_neq, bif_ne, bif_nne, bif_not, bif_true', bif_false', bnd_ok, lk_inl, lk_inr, Int.toNat_natCast]
    | true =>
      cases hvb : validM b with
      | false => simp (disch := omega) only [awake_true, Bool.not_true, hg, refValid_eq, hva, hvb, Bool.not_false, ckB_ix, ckB_inR, ckB_room, ckB_cut, ckB_mk, ckB_ne, bif_lt, bif_nlt, bif_le, bif_nle, bif_eq, bif_neq, bif_ne, bif_nne, bif_not, bif_true', bif_false', bnd_ok, lk_inl, lk_inr, Int.toNat_natCast]
      | true =>
        cases hvc : validM c with
        | false => simp (disch := omega) only [awake_true, Bool.not_true, hg, refValid_eq, hva, hvb, hvc, Bool.not_false, ckB_ix, ckB_inR, ckB_room, ckB_cut, ckB_mk, ckB_ne, bif_lt, bif_nlt, bif_le, bif_nle, bif_eq, bif_neq, bif_ne, bif_nne, bif_not, bif_true', bif_false', bnd_ok, lk_inl, lk_inr, Int.toNat_natCast]
        | true =>
          obtain ⟨e1, l1, m1, s1, p1⟩ := mul_gen h9 h10
          obtain ⟨e2, l2, m2, s2, p2⟩ := mul_gen h10 h11
          obtain ⟨e3, l3, m3, s3, p3⟩ := mul_gen s1 h11
          obtain ⟨e4, l4, m4, s4, p4⟩ := mul_gen h9 s2
          have hT := Products_T0 p1
          by_cases q1 : e1 = 0
          · by_cases q2 : e2 = 0
            · by_cases q3 : e3 = 0
              · by_cases q4 : e4 = 0
                · have hsame : l3 = l4 := by
                    obtain ⟨R, K, C, A, B, rfl, rfl, hR, hK, hC, hA, hB, rfl, _⟩ := p1 q1
                    obtain ⟨K2, C2, D, B2, E, hb2, rfl, hK2, hC2, hD, _, _, rfl, _⟩ := p2 q2
                    obtain ⟨rfl, rfl, hBB⟩ := T2_inj hb2 (by omega)
                    obtain ⟨R3, C3, D3, M3, E3, h3a, h3c, _, _, _, _, _, rfl, _⟩ := p3 q3
                    obtain ⟨rfl, rfl, hM3⟩ := T2_inj h3a (by omega)
                    obtain ⟨_, rfl, hE3⟩ := T2_inj h3c (by omega)
                    obtain ⟨R4, K4, D4, A4, N4, h4a, h4b, _, _, _, _, _, rfl, _⟩ := p4 q4
                    obtain ⟨rfl, rfl, hA4⟩ := T2_inj h4a (by omega)
                    obtain ⟨_, rfl, hN4⟩ := T2_inj h4b (by omega)
                    refine T2_congr fun i j hi hj => ?_
                    rw [← mulF_congr (A := mulF K A B) (B := E) (fun k hk => hM3 i k hi hk) (fun k hk => hE3 k j hk hj), ← mulF_congr (A := A) (B := mulF C B2 E) (fun k hk => hA4 i k hi hk) (fun k hk => hN4 k j hk hj), mulF_assoc]
                    exact mulF_congr (fun k _ => rfl) fun k hk => mulF_congr (fun m hm => hBB k m hk hm) fun m _ => rfl
                  have h50 : l3.length ≤ 50 ∧ ∀ x ∈ l3, x.length ≤ 50 := by
                    obtain ⟨R, K, C, A, B, _, _, hR, hK, hC, _, _, rfl, _⟩ := p3 q3
                    exact ⟨by rw [T2_len]; omega, T2_short (by omega)⟩
                  have h6 := same_self l3 h50.1 h50.2
                  rw [← hsame] at m4
                  simp (disch := omega) only [awake_true, Bool.not_true, hg, refValid_eq, hva, hvb, hvc, m1, m2, m3, m4, h6, hT, ckB_ix, ckB_inR, ckB_room, ckB_cut, ckB_mk, ckB_ne, bif_lt, bif_nlt, bif_le, bif_nle, bif_eq, bif_neq, bif_ne, bif_nne, bif_not, bif_true', bif_false', bnd_ok, lk_inl, lk_inr, Int.toNat_natCast]
                · simp (disch := omega) only [awake_true, Bool.not_true, hg, refValid_eq, hva, hvb, hvc, m1, m2, m3, m4, hT, ckB_ix, ckB_inR, ckB_room, ckB_cut, ckB_mk, ckB_ne, bif_lt, bif_nlt, bif_le, bif_nle, bif_eq, bif_neq, bif_ne, bif_nne, bif_not, bif_true', bif_false', bnd_ok, lk_inl, lk_inr, Int.toNat_natCast]
              · simp (disch := omega) only [awake_true, Bool.not_true, hg, refValid_eq, hva, hvb, hvc, m1, m2, m3, m4, hT, ckB_ix, ckB_inR, ckB_room, ckB_cut, ckB_mk, ckB_ne, bif_lt, bif_nlt, bif_le, bif_nle, bif_eq, bif_neq, bif_ne, bif_nne, bif_not, bif_true', bif_false', bnd_ok, lk_inl, lk_inr, Int.toNat_natCast]
            · simp (disch := omega) only [awake_true, Bool.not_true, hg, refValid_eq, hva, hvb, hvc, m1, m2, m3, m4, hT, ckB_ix, ckB_inR, ckB_room, ckB_cut, ckB_mk, ckB_ne, bif_lt, bif_nlt, bif_le, bif_nle, bif_eq, bif_neq, bif_ne, bif_nne, bif_not, bif_true', bif_false', bnd_ok, lk_inl, lk_inr, Int.toNat_natCast]
          · simp (disch := omega) only [awake_true, Bool.not_true, hg, refValid_eq, hva, hvb, hvc, m1, m2, m3, m4, hT, ckB_ix, ckB_inR, ckB_room, ckB_cut, ckB_mk, ckB_ne, bif_lt, bif_nlt, bif_le, bif_nle, bif_eq, bif_neq, bif_ne, bif_nne, bif_not, bif_true', bif_false', bnd_ok, lk_inl, lk_inr, Int.toNat_natCast]

end Go.Proofs.Ytjjhanfglelldaa
