/-
  Roles: matching people to tasks (augmenting paths).
-/
import Derived.Test.YtmlfmeffjodhmaaZ7S3
set_option linter.all false
namespace Go.Proofs.Ytmlfmeffjodhmaa
open Go.K Go.M
def bitOf (x k : Int) : Bool := !decide ((bitI .and .u64 (shrI .u64 x k) 1) = 0)
def canB (able : List Int) (j k : Int) : Bool := bitOf (able.getD (Int.toNat j) 0) k
abbrev fI {β : Type} (k : Int) (l : List (Int × β)) : Option β := mfind (.int .i64) k l
abbrev pI {β : Type} (k : Int) (x : β) (l : List (Int × β)) : List (Int × β) := mput (.int .i64) k x l
theorem intEq_t {a b : Int} (h : a = b) : intEq a b = true := by unfold intEq; exact beq_iff_eq.2 h
theorem intEq_f {a b : Int} (h : ¬ a = b) : intEq a b = false := by unfold intEq; exact beq_eq_false_iff_ne.2 h
theorem fI_cons {β : Type} (k : Int) (e : Int × β) (l : List (Int × β)) : fI k (e :: l) = if k = e.1 then some e.2 else fI k l := by
  show (bif intEq k e.1 then some e.2 else fI k l) = _
  by_cases h : k = e.1
  · rw [intEq_t h, if_pos h]; rfl
  · rw [intEq_f h, if_neg h]; rfl
theorem pI_cons {β : Type} (k : Int) (x : β) (e : Int × β) (l : List (Int × β)) : pI k x (e :: l) = if k = e.1 then (k, x) :: l else e :: pI k x l := by
  show (bif intEq k e.1 then (k, x) :: l else e :: pI k x l) = _
  by_cases h : k = e.1
  · rw [intEq_t h, if_pos h]; rfl
  · rw [intEq_f h, if_neg h]; rfl
theorem fI_put {β : Type} (k k' : Int) (x : β) : ∀ (l : List (Int × β)), fI k (pI k' x l) = if k = k' then some x else fI k l
  | [] => fI_cons k (k', x) []
  | e :: l => by
    have ih := fI_put k k' x l
    rw [pI_cons]
    by_cases h1 : k' = e.1
    · rw [if_pos h1, fI_cons, fI_cons]
      show (if k = k' then some x else fI k l) = _
      by_cases h : k = k'
      · rw [if_pos h, if_pos h]
      · rw [if_neg h, if_neg h, if_neg (by rw [← h1]; exact h)]
    · rw [if_neg h1, fI_cons, fI_cons, ih]
      by_cases h2 : k = e.1
      · rw [if_pos h2, if_pos h2, if_neg (by rw [h2]; exact fun e => h1 e.symm)]
      · rw [if_neg h2, if_neg h2]
def sn (seen : List (Int × Bool)) (k : Int) : Prop := (fI k seen).getD false = true
theorem sn_put {seen : List (Int × Bool)} {k v : Int} : sn (pI v true seen) k ↔ k = v ∨ sn seen k := by
  unfold sn
  rw [fI_put]
  by_cases h : k = v
  · simp [h]
  · simp [h]
def GPre (able : List Int) (i : Int) (seen : List (Int × Bool)) (task : List (Int × Int)) : Prop :=
  (0 ≤ i ∧ i < able.length) ∧ (∀ k k' j, fI k task = some j → fI k' task = some j → k = k') ∧
  (∀ k j, fI k task = some j → (0 ≤ j ∧ j < able.length) ∧ (0 ≤ k ∧ k < 64) ∧ canB able j k = true) ∧ (∀ k, fI k task = some i → sn seen k)
def GPost (able : List Int) (i : Int) (seen : List (Int × Bool)) (task : List (Int × Int)) (r : Bool × List (Int × Bool) × List Int × List (Int × Int)) : Prop :=
  r.2.2.1 = able ∧ (∀ k, sn seen k → sn r.2.1 k) ∧
  (r.1 = false → r.2.2.2 = task ∧ (∀ k, 0 ≤ k → k < 64 → canB able i k = true → sn r.2.1 k) ∧
    ∀ k, sn r.2.1 k → sn seen k ∨ ((0 ≤ k ∧ k < 64) ∧ ∃ j, fI k task = some j ∧ ∀ k', 0 ≤ k' → k' < 64 → canB able j k' = true → sn r.2.1 k')) ∧
  (r.1 = true → (∀ k, sn seen k → fI k r.2.2.2 = fI k task) ∧ (∀ k k' j, fI k r.2.2.2 = some j → fI k' r.2.2.2 = some j → k = k' ∨ (j = i ∧ (sn seen k ∨ sn seen k'))) ∧
    (∃ k, ¬ sn seen k ∧ fI k r.2.2.2 = some i) ∧ (∀ k j, fI k r.2.2.2 = some j → (0 ≤ j ∧ j < able.length) ∧ (0 ≤ k ∧ k < 64) ∧ canB able j k = true) ∧
    (∀ k j, fI k task = some j → ∃ k', fI k' r.2.2.2 = some j) ∧ (∀ k j, fI k r.2.2.2 = some j → j = i ∨ ∃ k0, fI k0 task = some j))
def cntU (seen : List (Int × Bool)) : Nat := ((List.range 64).filter fun k : Nat => !((fI (k : Int) seen).getD false)).length
theorem filt_le {p q : Nat → Bool} : ∀ (l : List Nat), (∀ x ∈ l, q x = true → p x = true) → (l.filter q).length ≤ (l.filter p).length
  | [], _ => by simp
  | a :: l, h => by
    have ih := filt_le l (fun x hx => h x (List.mem_cons_of_mem _ hx))
    have ha := h a List.mem_cons_self
    simp only [List.filter_cons]
    cases hq : q a with
    | true => rw [ha hq]; simpa using ih
    | false => cases p a <;> simp <;> omega
theorem filt_lt {p q : Nat → Bool} : ∀ (l : List Nat), (∀ x ∈ l, q x = true → p x = true) → (∃ x ∈ l, p x = true ∧ q x = false) → (l.filter q).length < (l.filter p).length
  | [], _, ⟨x, hx, _⟩ => by simp at hx
  | a :: l, h, ⟨x, hx, h1, h2⟩ => by
    have ih := filt_le l (fun x hx => h x (List.mem_cons_of_mem _ hx))
    have ha := h a List.mem_cons_self
    simp only [List.filter_cons]
    rcases List.mem_cons.1 hx with rfl | hx
    · rw [h1, h2]
      simp
      omega
    · have ih2 := filt_lt l (fun x hx => h x (List.mem_cons_of_mem _ hx)) ⟨x, hx, h1, h2⟩
      cases hq : q a with
      | true => rw [ha hq]; simpa using ih2
      | false => cases p a <;> simp <;> omega
theorem cnt_le {a b : List (Int × Bool)} (h : ∀ k, sn a k → sn b k) : cntU b ≤ cntU a :=
  filt_le _ fun x _ hq => by
    simp only [Bool.not_eq_true'] at hq ⊢
    cases hc : (fI (x : Int) a).getD false with
    | false => rfl
    | true => rw [show (fI (x : Int) b).getD false = true from h x hc] at hq; exact hq
theorem cnt_lt {a : List (Int × Bool)} {v : Int} (h0 : 0 ≤ v) (h1 : v < 64) (hv : ¬ sn a v) : cntU (pI v true a) < cntU a := by
  refine filt_lt _ (fun x _ hq => ?_) ⟨v.toNat, List.mem_range.2 (by omega), ?_, ?_⟩
  · simp only [Bool.not_eq_true'] at hq ⊢
    cases hc : (fI (x : Int) a).getD false with
    | false => rfl
    | true => rw [show (fI (x : Int) (pI v true a)).getD false = true from sn_put.2 (.inr hc)] at hq; exact hq
  · have e : ((v.toNat : Nat) : Int) = v := by omega
    rw [e]
    cases hc : (fI v a).getD false with
    | false => rfl
    | true => exact absurd hc hv
  · have e : ((v.toNat : Nat) : Int) = v := by omega
    rw [e]
    have : (fI v (pI v true a)).getD false = true := sn_put.2 (.inl rfl)
    rw [this]
    rfl
abbrev GA : Type := (Int × Unit × Unit × Unit × Unit × Unit) × ((List (Int × Bool)) × (Unit × Unit) × (Unit × Unit) × ((Unit × Unit × Unit × Unit) × Unit) × (List Int) × (List (Int × Int)) × Unit)
abbrev GR : Type := Bool × (List (Int × Bool)) × (List Int) × (List (Int × Int))
def LInv (able : List Int) (i : Int) (seen : List (Int × Bool)) (task : List (Int × Int)) (v : Int) (sv : List (Int × Bool)) : Prop :=
  (∀ k, sn seen k → sn sv k) ∧ (∀ k, 0 ≤ k → k < v → canB able i k = true → sn sv k) ∧
    ∀ k, sn sv k → sn seen k ∨ ((0 ≤ k ∧ k < 64) ∧ ∃ j, fI k task = some j ∧ ∀ k', 0 ≤ k' → k' < 64 → canB able j k' = true → sn sv k')
theorem give_step (rec : GA → Option GR) (able : List Int) (i : Int) (seen : List (Int × Bool)) (task : List (Int × Int)) (hpre : GPre able i seen task)
    (hrec : ∀ j sv, cntU sv < cntU seen → GPre able j sv task → ∃ r, rec ((j, (), (), (), (), ()), (sv, ((), ()), ((), ()), (((), (), (), ()), ()), able, task, ())) = some r ∧ GPost able j sv task r) :
    ∃ r, roles_matched_1_95'F rec i seen able task = some r ∧ GPost able i seen task r := by
  obtain ⟨hi, hinj, hval, hown⟩ := hpre
  have hloop : ∃ o, roles_matched_1_95'L0 rec i (0, seen, able, task) = some o ∧ (match o with | .inl e => e.2.1 = able ∧ e.2.2 = task ∧ LInv able i seen task 64 e.1 | .inr r => GPost able i seen task r) := by
    refine loop_inv (fun (s : Int × (List (Int × Bool)) × (List Int) × (List (Int × Int))) => s.2.2.1 = able ∧ s.2.2.2 = task ∧ (0 ≤ s.1 ∧ s.1 ≤ 64) ∧ LInv able i seen task s.1 s.2.1) (fun s => (64 - s.1).toNat) (fun (o : ((List (Int × Bool)) × (List Int) × (List (Int × Int))) ⊕ GR) => match o with | .inl e => e.2.1 = able ∧ e.2.2 = task ∧ LInv able i seen task 64 e.1 | .inr r => GPost able i seen task r) _ ⟨rfl, rfl, ⟨by omega, by omega⟩, fun k h => h, fun k h1 h2 => by omega, fun k h => .inl h⟩ (by show (64 - (0 : Int)).toNat < many; decide) ?_
    rintro ⟨v, sv, ab, tk⟩ ⟨e1, e2, ⟨hv0, hv1⟩, hsub, hdone, hclo⟩
    simp only at e1 e2 hv0 hv1 hsub hdone hclo ⊢
    subst e1 e2
    by_cases hv : v < 64
    rotate_left
    · have hv64 : v = 64 := by omega
      subst hv64
      refine ⟨.done (sv, ab, tk), ?_, rfl, rfl, hsub, hdone, hclo⟩
      simp (disch := omega) only [roles_matched_1_95'L0K, ckB_ix, ckB_inR, ckB_room, ckB_cut, ckB_mk, ckB_ne, bif_lt, bif_nlt, bif_le, bif_nle, bif_eq, bif_neq, bif_ne, bif_nne, bif_not, bif_true', bif_false', bnd_ok, lk_inl, lk_inr, Int.toNat_natCast, decide_true]
    · have hix : 0 ≤ i := hi.1
      have hil : i < ab.length := hi.2
      cases hA : canB ab i v with
      | false =>
        have hb : decide ((bitI .and .u64 (shrI .u64 (ab.getD (Int.toNat i) 0) v) 1) = 0) = true := by
          unfold canB bitOf at hA
          simpa using hA
        refine ⟨.next (v + 1, sv, ab, tk), ?_, ⟨rfl, rfl, ⟨by show 0 ≤ v + 1; omega, by show v + 1 ≤ 64; omega⟩, hsub, fun k h1 h2 h3 => ?_, hclo⟩, by show (64 - (v + 1)).toNat < (64 - v).toNat; omega⟩
        · simp only [roles_matched_1_95'L0K, hb]
          simp (disch := omega) only [ckB_ix, ckB_inR, ckB_room, ckB_cut, ckB_mk, ckB_ne, bif_lt, bif_nlt, bif_le, bif_nle, bif_eq, bif_neq, bif_ne, bif_nne, bif_not, bif_true', bif_false', bnd_ok, lk_inl, lk_inr, Int.toNat_natCast, decide_true]
          rw [decide_eq_true hv0]
          rfl
        · have h2 : k < v + 1 := h2
          by_cases h : k < v
          · exact hdone k h1 h h3
          · have : k = v := by omega
            subst this
            rw [hA] at h3; cases h3
      | true =>
        have hb : decide ((bitI .and .u64 (shrI .u64 (ab.getD (Int.toNat i) 0) v) 1) = 0) = false := by
          unfold canB bitOf at hA
          simpa using hA
        have hup : ∀ (sw : List (Int × Bool)), (∀ k, sn sv k → sn sw k) → sn sw v → (∀ k, sn sw k → sn sv k ∨ ((0 ≤ k ∧ k < 64) ∧ ∃ j, fI k tk = some j ∧ ∀ k', 0 ≤ k' → k' < 64 → canB ab j k' = true → sn sw k')) → LInv ab i seen tk (v + 1) sw := by
          intro sw h1 h2 h3
          refine ⟨fun k hk => h1 k (hsub k hk), fun k k0 k1 k2 => ?_, fun k hk => ?_⟩
          · by_cases h : k < v
            · exact h1 k (hdone k k0 h k2)
            · have : k = v := by omega
              subst this
              exact h2
          · rcases h3 k hk with h | h
            · rcases hclo k h with h | ⟨a, j, b, c⟩
              · exact .inl h
              · exact .inr ⟨a, j, b, fun k' x y z => h1 k' (c k' x y z)⟩
            · exact .inr h
        cases hsv : (fI v sv).getD false with
        | true =>
          have hsv' : (mfind (.int .i64) v sv).getD false = true := hsv
          refine ⟨.next (v + 1, sv, ab, tk), ?_, ⟨rfl, rfl, ⟨by show 0 ≤ v + 1; omega, by show v + 1 ≤ 64; omega⟩, hup sv (fun _ h => h) hsv (fun k h => .inl h)⟩, by show (64 - (v + 1)).toNat < (64 - v).toNat; omega⟩
          simp only [roles_matched_1_95'L0K, hb, hsv']
          simp (disch := omega) only [ckB_ix, ckB_inR, ckB_room, ckB_cut, ckB_mk, ckB_ne, bif_lt, bif_nlt, bif_le, bif_nle, bif_eq, bif_neq, bif_ne, bif_nne, bif_not, bif_true', bif_false', bnd_ok, lk_inl, lk_inr, Int.toNat_natCast, decide_true]
          rw [decide_eq_true hv0]
          rfl
        | false =>
          have hns : ¬ sn sv v := fun h => by rw [show (fI v sv).getD false = true from h] at hsv; cases hsv
          have hvs : ¬ sn seen v := fun h => hns (hsub v h)
          have hsv' : (mfind (.int .i64) v sv).getD false = false := hsv
          have hne : ∀ {k}, sn seen k → k ≠ v := fun hk e => hvs (e ▸ hk)
          cases ht : fI v tk with
          | none =>
            have ht' : mfind (.int .i64) v tk = none := ht
            refine ⟨.ret (true, pI v true sv, ab, pI v i tk), ?_, rfl, fun k hk => sn_put.2 (.inr (hsub k hk)), fun h => (by cases h), fun _ => ⟨fun k hk => ?_, fun k k' j h1 h2 => ?_, ⟨v, hvs, ?_⟩, fun k j h1 => ?_, fun k j h1 => ⟨k, ?_⟩, fun k j h1 => ?_⟩⟩
            · simp only [roles_matched_1_95'L0K, hb, hsv', ht']
              simp (disch := omega) only [ckB_ix, ckB_inR, ckB_room, ckB_cut, ckB_mk, ckB_ne, bif_lt, bif_nlt, bif_le, bif_nle, bif_eq, bif_neq, bif_ne, bif_nne, bif_not, bif_true', bif_false', bnd_ok, lk_inl, lk_inr, Int.toNat_natCast, decide_true]
              rw [decide_eq_true hv0]
              rfl
            · show fI k (pI v i tk) = _
              rw [fI_put, if_neg (hne hk)]
            · have h1 : fI k (pI v i tk) = some j := h1
              have h2 : fI k' (pI v i tk) = some j := h2
              rw [fI_put] at h1 h2
              split at h1 <;> split at h2
              · rename_i e e'; exact .inl (e.trans e'.symm)
              · cases h1; exact .inr ⟨rfl, .inr (hown _ h2)⟩
              · cases h2; exact .inr ⟨rfl, .inl (hown _ h1)⟩
              · exact .inl (hinj _ _ _ h1 h2)
            · show fI v (pI v i tk) = _
              rw [fI_put, if_pos rfl]
            · have h1 : fI k (pI v i tk) = some j := h1
              rw [fI_put] at h1
              split at h1
              · rename_i e; cases h1; rw [e]; exact ⟨hi, ⟨hv0, hv⟩, hA⟩
              · exact hval _ _ h1
            · show fI k (pI v i tk) = _
              rw [fI_put, if_neg (fun e => by rw [e, ht] at h1; cases h1)]
              exact h1
            · have h1 : fI k (pI v i tk) = some j := h1
              rw [fI_put] at h1
              split at h1
              · cases h1; exact .inl rfl
              · exact .inr ⟨k, h1⟩
          | some j =>
            have ht' : mfind (.int .i64) v tk = some j := ht
            have hji : j ≠ i := fun e => hvs (hown v (e ▸ ht))
            obtain ⟨r, hr, hq1, hq2, hq3, hq4⟩ := hrec j (pI v true sv) (Nat.lt_of_lt_of_le (cnt_lt hv0 hv hns) (cnt_le hsub)) ⟨(hval v j ht).1, hinj, hval, fun k hk => sn_put.2 (.inl (hinj _ _ _ hk ht))⟩
            obtain ⟨rb, rs, ra, rt⟩ := r
            simp only at hq1 hq2 hq3 hq4
            subst hq1
            have hvr : sn rs v := hq2 v (sn_put.2 (.inl rfl))
            cases rb with
            | true =>
              obtain ⟨ha, hbb, ⟨k1, hc1, hc2⟩, hd, he, hf⟩ := hq4 rfl
              have hk1 : k1 ≠ v := fun e => hc1 (sn_put.2 (.inl e))
              have hmv : ∀ {k}, sn seen k → fI k rt = fI k tk := fun hk => ha _ (sn_put.2 (.inr (hsub _ hk)))
              have hfv : fI v rt = some j := (ha v (sn_put.2 (.inl rfl))).trans ht
              have hiat : ∀ k', fI k' rt = some i → sn seen k' := by
                intro k' hk'
                rcases hf k' i hk' with e | ⟨k0, hk0⟩
                · exact absurd e.symm hji
                · have h0 := hown k0 hk0
                  rcases hbb k0 k' i ((hmv h0).trans hk0) hk' with e | ⟨e, _⟩
                  · exact e ▸ h0
                  · exact absurd e.symm hji
              refine ⟨.ret (true, rs, ra, pI v i rt), ?_, rfl, fun k hk => hq2 k (sn_put.2 (.inr (hsub k hk))), fun h => (by cases h), fun _ => ⟨fun k hk => ?_, fun k k' jj h1 h2 => ?_, ⟨v, hvs, ?_⟩, fun k jj h1 => ?_, fun k jj h1 => ?_, fun k jj h1 => ?_⟩⟩
              · simp only [roles_matched_1_95'L0K, hb, hsv', ht']
                simp (disch := omega) only [ckB_ix, ckB_inR, ckB_room, ckB_cut, ckB_mk, ckB_ne, bif_lt, bif_nlt, bif_le, bif_nle, bif_eq, bif_neq, bif_ne, bif_nne, bif_not, bif_true', bif_false', bnd_ok, lk_inl, lk_inr, Int.toNat_natCast, decide_true]
                rw [decide_eq_true hv0]
                show bnd (rec ((j, (), (), (), (), ()), (pI v true sv, ((), ()), ((), ()), (((), (), (), ()), ()), ra, _, ()))) _ = _
                rw [hr]
                simp only [bnd_ok, ckB, decide_true, cond_true, cond_false]
              · show fI k (pI v i rt) = _
                rw [fI_put, if_neg (hne hk)]
                exact hmv hk
              · have h1 : fI k (pI v i rt) = some jj := h1
                have h2 : fI k' (pI v i rt) = some jj := h2
                rw [fI_put] at h1 h2
                split at h1 <;> split at h2
                · rename_i e e'; exact .inl (e.trans e'.symm)
                · cases h1; exact .inr ⟨rfl, .inr (hiat _ h2)⟩
                · cases h2; exact .inr ⟨rfl, .inl (hiat _ h1)⟩
                · rename_i e e'
                  rcases hbb k k' jj h1 h2 with h | ⟨rfl, h | h⟩
                  · exact .inl h
                  · rw [ha k h] at h1
                    exact absurd (hinj _ _ _ h1 ht) e
                  · rw [ha k' h] at h2
                    exact absurd (hinj _ _ _ h2 ht) e'
              · show fI v (pI v i rt) = _
                rw [fI_put, if_pos rfl]
              · have h1 : fI k (pI v i rt) = some jj := h1
                rw [fI_put] at h1
                split at h1
                · rename_i e; cases h1; rw [e]; exact ⟨hi, ⟨hv0, hv⟩, hA⟩
                · exact hd _ _ h1
              · by_cases hjj : jj = j
                · subst hjj
                  exact ⟨k1, by show fI k1 (pI v i rt) = _; rw [fI_put, if_neg hk1]; exact hc2⟩
                · obtain ⟨k', hk'⟩ := he k jj h1
                  refine ⟨k', ?_⟩
                  show fI k' (pI v i rt) = _
                  rw [fI_put, if_neg (fun e => ?_)]
                  · exact hk'
                  · rw [e, hfv] at hk'
                    cases hk'
                    exact hjj rfl
              · have h1 : fI k (pI v i rt) = some jj := h1
                rw [fI_put] at h1
                split at h1
                · cases h1; exact .inl rfl
                · rcases hf k jj h1 with rfl | h
                  · exact .inr ⟨v, ht⟩
                  · exact .inr h
            | false =>
              obtain ⟨rfl, h2, h3⟩ := hq3 rfl
              have hl := hup rs (fun k hk => hq2 k (sn_put.2 (.inr hk))) hvr (fun k hk => by
                rcases h3 k hk with h | h
                · rcases sn_put.1 h with rfl | h
                  · exact .inr ⟨⟨hv0, hv⟩, j, ht, h2⟩
                  · exact .inl h
                · exact .inr h)
              refine ⟨.next (v + 1, rs, ra, rt), ?_, ⟨rfl, rfl, ⟨by show 0 ≤ v + 1; omega, by show v + 1 ≤ 64; omega⟩, hl⟩, by show (64 - (v + 1)).toNat < (64 - v).toNat; omega⟩
              simp only [roles_matched_1_95'L0K, hb, hsv', ht']
              simp (disch := omega) only [ckB_ix, ckB_inR, ckB_room, ckB_cut, ckB_mk, ckB_ne, bif_lt, bif_nlt, bif_le, bif_nle, bif_eq, bif_neq, bif_ne, bif_nne, bif_not, bif_true', bif_false', bnd_ok, lk_inl, lk_inr, Int.toNat_natCast, decide_true]
              rw [decide_eq_true hv0]
              show bnd (rec ((j, (), (), (), (), ()), (pI v true sv, ((), ()), ((), ()), (((), (), (), ()), ()), ra, _, ()))) _ = _
              rw [hr]
              simp only [bnd_ok, ckB, decide_true, cond_true, cond_false]
  obtain ⟨o, ho, hp⟩ := hloop
  unfold roles_matched_1_95'F
  rw [ho, bnd_ok]
  cases o with
  | inl e =>
    obtain ⟨sv, ab, tk⟩ := e
    obtain ⟨rfl, rfl, h1, h2, h3⟩ := hp
    exact ⟨_, rfl, rfl, h1, fun _ => ⟨rfl, h2, h3⟩, fun h => by cases h⟩
  | inr r => exact ⟨r, rfl, hp⟩
theorem cnt_max (seen : List (Int × Bool)) : cntU seen ≤ 64 := by
  have := List.length_filter_le (fun k : Nat => !((fI (k : Int) seen).getD false)) (List.range 64)
  simpa [cntU] using this
theorem give_fuel (able : List Int) (task : List (Int × Int)) : ∀ (d fuel : Nat) (i : Int) (seen : List (Int × Bool)), cntU seen ≤ d → d < fuel → GPre able i seen task →
    ∃ r, recM (fun (rec : GA → Option GR) (a : GA) => roles_matched_1_95'F rec a.1.1 a.2.1 a.2.2.2.2.2.1 a.2.2.2.2.2.2.1) fuel ((i, (), (), (), (), ()), (seen, ((), ()), ((), ()), (((), (), (), ()), ()), able, task, ())) = some r ∧ GPost able i seen task r := by
  intro d
  induction d with
  | zero =>
    intro fuel i seen hc hf hp
    obtain ⟨n, rfl⟩ : ∃ n, fuel = n + 1 := ⟨fuel - 1, by omega⟩
    rw [recM_succ]
    exact give_step _ able i seen task hp (fun j sv hlt _ => absurd hlt (by omega))
  | succ d ih =>
    intro fuel i seen hc hf hp
    obtain ⟨n, rfl⟩ : ∃ n, fuel = n + 1 := ⟨fuel - 1, by omega⟩
    rw [recM_succ]
    exact give_step _ able i seen task hp (fun j sv hlt hp' => ih n j sv (by omega) (by omega) hp')
theorem give_ok (able : List Int) (i : Int) (seen : List (Int × Bool)) (task : List (Int × Int)) (hp : GPre able i seen task) : ∃ r, roles_matched_1_95' i seen able task = some r ∧ GPost able i seen task r :=
  give_fuel able task 64 many i seen (cnt_max seen) (by decide) hp
theorem sn_nil (k : Int) : ¬ sn [] k := by
  intro h
  cases h
def Assg (able : List Int) (n : Int) (task : List (Int × Int)) : Prop :=
  (∀ k k' j, fI k task = some j → fI k' task = some j → k = k') ∧ (∀ k j, fI k task = some j → (0 ≤ j ∧ j < n) ∧ (0 ≤ k ∧ k < 64) ∧ canB able j k = true) ∧ ∀ j, 0 ≤ j → j < n → ∃ k, fI k task = some j
def Short (able : List Int) (i : Int) (task : List (Int × Int)) (S : Int → Prop) : Prop :=
  (0 ≤ i ∧ i < able.length) ∧ Assg able i task ∧ (∀ k, 0 ≤ k → k < 64 → canB able i k = true → S k) ∧
    ∀ k, S k → (0 ≤ k ∧ k < 64) ∧ ∃ j, fI k task = some j ∧ ∀ k', 0 ≤ k' → k' < 64 → canB able j k' = true → S k'
theorem matched_ok (able : List Int) (hn : able.length ≤ 1000) : ∃ b, roles_matched able = some (b, able) ∧ (b = true → ∃ task, Assg able able.length task) ∧ (b = false → ∃ i task S, Short able i task S) := by
  have hloop : ∃ o, roles_matchedL0 (able.length : Int) (0, able, []) = some o ∧ (match o with | .inl e => e = able ∧ ∃ task, Assg able able.length task | .inr r => r = (false, able) ∧ ∃ i task S, Short able i task S) := by
    refine loop_inv (fun (s : Int × (List Int) × (List (Int × Int))) => s.2.1 = able ∧ (0 ≤ s.1 ∧ s.1 ≤ able.length) ∧ Assg able s.1 s.2.2) (fun s => ((able.length : Int) - s.1).toNat) (fun (o : (List Int) ⊕ (Bool × (List Int))) => match o with | .inl e => e = able ∧ ∃ task, Assg able able.length task | .inr r => r = (false, able) ∧ ∃ i task S, Short able i task S) _ ⟨rfl, ⟨by omega, by omega⟩, fun k k' j h => (by cases h), fun k j h => (by cases h), fun j h1 h2 => by omega⟩ (by show ((able.length : Int) - 0).toNat < many; unfold many; omega) ?_
    rintro ⟨v, ab, tk⟩ ⟨e1, ⟨hv0, hv1⟩, hinj, hval, hran⟩
    simp only at e1 hv0 hv1 hinj hval hran ⊢
    subst e1
    by_cases hv : v < ab.length
    rotate_left
    · have e : v = ab.length := by omega
      subst e
      refine ⟨.done ab, ?_, rfl, tk, hinj, hval, hran⟩
      simp (disch := omega) only [roles_matchedL0K, ckB_ix, ckB_inR, ckB_room, ckB_cut, ckB_mk, ckB_ne, bif_lt, bif_nlt, bif_le, bif_nle, bif_eq, bif_neq, bif_ne, bif_nne, bif_not, bif_true', bif_false', bnd_ok, lk_inl, lk_inr, Int.toNat_natCast, decide_true]
    · obtain ⟨r, hr, hq1, hq2, hq3, hq4⟩ := give_ok ab v [] tk ⟨⟨hv0, hv⟩, hinj, fun k j h => ⟨⟨(hval k j h).1.1, by have := (hval k j h).1.2; omega⟩, (hval k j h).2⟩, fun k h => by have := (hval k v h).1.2; omega⟩
      obtain ⟨rb, rs, ra, rt⟩ := r
      simp only at hq1 hq2 hq3 hq4
      subst hq1
      cases rb with
      | true =>
        obtain ⟨ha, hbb, ⟨k1, hc1, hc2⟩, hd, he, hf⟩ := hq4 rfl
        refine ⟨.next (v + 1, ra, rt), ?_, ⟨rfl, ⟨by show 0 ≤ v + 1; omega, by show v + 1 ≤ _; omega⟩, fun k k' j h1 h2 => ?_, fun k j h => ?_, fun j h0 h1 => ?_⟩, by show ((ra.length : Int) - (v + 1)).toNat < ((ra.length : Int) - v).toNat; omega⟩
        · simp (disch := omega) only [roles_matchedL0K, hr, ckB_ix, ckB_inR, ckB_room, ckB_cut, ckB_mk, ckB_ne, bif_lt, bif_nlt, bif_le, bif_nle, bif_eq, bif_neq, bif_ne, bif_nne, bif_not, bif_true', bif_false', bnd_ok, lk_inl, lk_inr, Int.toNat_natCast, decide_true]
          rfl
        · rcases hbb k k' j h1 h2 with h | ⟨_, h | h⟩
          · exact h
          · exact absurd h (sn_nil _)
          · exact absurd h (sn_nil _)
        · have h : fI k rt = some j := h
          obtain ⟨⟨a1, a2⟩, a3⟩ := hd k j h
          refine ⟨⟨a1, ?_⟩, a3⟩
          show j < v + 1
          rcases hf k j h with rfl | ⟨k0, hk0⟩
          · omega
          · have := (hval k0 j hk0).1.2
            omega
        · have h1 : j < v + 1 := h1
          show ∃ k, fI k rt = some j
          by_cases hjv : j = v
          · subst hjv; exact ⟨k1, hc2⟩
          · obtain ⟨k, hk⟩ := hran j h0 (by omega)
            exact he k j hk
      | false =>
        obtain ⟨rfl, h2, h3⟩ := hq3 rfl
        refine ⟨.ret (false, ra), ?_, rfl, v, rt, sn rs, ⟨hv0, hv⟩, ⟨hinj, hval, hran⟩, h2, fun k hk => ?_⟩
        · simp (disch := omega) only [roles_matchedL0K, hr, ckB_ix, ckB_inR, ckB_room, ckB_cut, ckB_mk, ckB_ne, bif_lt, bif_nlt, bif_le, bif_nle, bif_eq, bif_neq, bif_ne, bif_nne, bif_not, bif_true', bif_false', bnd_ok, lk_inl, lk_inr, Int.toNat_natCast, decide_true]
          rfl
        · rcases h3 k hk with h | h
          · exact absurd h (sn_nil _)
          · exact h
  obtain ⟨o, ho, hp⟩ := hloop
  unfold roles_matched
  rw [ho, bnd_ok]
  cases o with
  | inl e =>
    obtain ⟨rfl, h⟩ := hp
    exact ⟨true, rfl, fun _ => h, fun h => (by cases h)⟩
  | inr r =>
    obtain ⟨rfl, h⟩ := hp
    exact ⟨false, rfl, fun h => (by cases h), fun _ => h⟩
end Go.Proofs.Ytmlfmeffjodhmaa
