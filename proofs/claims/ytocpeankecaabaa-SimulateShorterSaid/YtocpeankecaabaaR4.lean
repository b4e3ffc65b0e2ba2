/-
  SimulateShorter: the statement.
-/
import Derived.Test.YtocpeankecaabaaR0
import Derived.Test.YtocpeankecaabaaW4
set_option linter.all false
namespace Go.Proofs.Ytocpeankecaabaa
open Go.Abs Go.RowKit Go.ChangeShapes Go.WideShapes Go.ChangeAt

theorem opn_u16s : Opn Try.prog 31 1 (fun (l : List Int) _ => encU l) (fun l => l.length ≤ maxLen ∧ ∀ x ∈ l, IntKind.min .u16 ≤ x ∧ x ≤ IntKind.max .u16) := Opn.slice opn_u16 0 Try.underlying31 (by kernel_rfl) (by omega)

set_option maxRecDepth 100000 in
theorem shorter_lifted (os : Os) (started : os.Started) (H : Type) (enc : TypeId × Value → H) :
    ReturnsInHanded {} Try.checked os 4 .any (Rows.simulateShorterSpec.pre6 enc Try.prog Try.f4 Rows.simulateShorterRow.domain false) (Rows.simulateShorterSpec.post enc Try.prog Try.f4 false true false false) := by
  refine returnsInHanded_of_change (C := Try.checked) Try.own started (by kernel_rfl) Try.func4
    (ChangeSpec.witness6 (enc := enc) (C := Try.checked) false ⟨#[], #[.slice none 0 0, .slice none 0 0, .int .u8 0], []⟩ 8 (by kernel_rfl) (by kernel_rfl) (by kernel_rfl) (by kernel_rfl)) ?_
  intro W base args ds gs before hval0 hW hcnd _
  have hval : ∀ (j : Nat) t v, Try.f4.params[j]? = some t → args[j]? = some v → Value.okWide Try.prog W .any base t v := hval0
  have hW' := hW
  obtain ⟨p, q, hA0, hV, rfl, hfz, hnd⟩ := hW
  have hA : DataW.TrodAll enc Try.prog W 0 (fun _ => true) true Try.f4.params.toList args.toList ds p := hA0
  have hA' := hA
  rw [Try.params4] at hA hval
  obtain ⟨v0, v1, v2, d0, d1, d2, p0, p1, p2, rfl, rfl, rfl, h0, h1, h2⟩ := trodAll_three hA
  obtain ⟨rfl, rfl⟩ := trodVars_none hV
  obtain ⟨l, hl, e0⟩ := opn_custs.argSlice Try.underlying22 (hval 0 22 v0 rfl rfl) h0
  obtain ⟨cuts, hc, e1⟩ := opn_u16s.argSlice Try.underlying31 (hval 1 31 v1 rfl rfl) h1
  obtain ⟨s, hs, e2⟩ := opn_u8.argInt Try.underlying5 (hval 2 5 v2 rfl rfl) h2
  clear hA0 hval0
  simp only [List.append_nil] at hW'
  have hcut : ∀ i, 0 ≤ cuts.getD i 0 ∧ cuts.getD i 0 ≤ 65535 := fun i => by
    rw [List.getD_eq_getElem?_getD]
    rcases Nat.lt_or_ge i cuts.length with h | h
    · rw [List.getElem?_eq_getElem h]
      exact hc.2 _ (List.getElem_mem h)
    · rw [List.getElem?_eq_none h]
      exact ⟨by decide, by decide⟩
  exact law_end (shorter_con l cuts s hl.1 hc.1 hcut hs) Try.laidOut (by kernel_rfl) rfl hW' hA' rfl
    (fun j A v hj hv => by
      match j, hj, hv with
      | 0, hj, hv => simp at hj hv; subst hj; subst hv; exact e0
      | 1, hj, hv => simp at hj hv; subst hj; subst hv; exact e1
      | 2, hj, hv => simp at hj hv; subst hj; subst hv; exact e2
      | n + 3, hj, hv => simp at hj)
    rfl rfl rfl rfl Try.underlying4

theorem shorter_holds : Rows.SimulateShorterSaid :=
  OpenClaim.holds_of_wide 4 Try.f4 rfl rfl rfl rfl rfl rfl rfl ⟨rfl, rfl, rfl, rfl, rfl⟩ rfl rfl rfl rfl rfl (by kernel_rfl) Try.func4 (by kernel_rfl)
    (of_decide_eq_true (by kernel_rfl)) (by unfold Func.isWrapper; first | (rw [if_pos (by decide +kernel)]; kernel_rfl) | (rw [if_neg (by decide +kernel)]; exact ⟨rfl, rfl⟩))
    (fun os started H enc _ => shorter_lifted os started H enc)

end Go.Proofs.Ytocpeankecaabaa
