/-
  SimulateServes: the statement.
-/
import Derived.Test.YtocpeankecaabaaR0
import Derived.Test.YtocpeankecaabaaW9
set_option linter.all false
namespace Go.Proofs.Ytocpeankecaabaa
open Go.Abs Go.RowKit Go.ChangeShapes Go.WideShapes Go.ChangeAt

set_option maxRecDepth 100000 in
theorem serves_lifted (os : Os) (started : os.Started) (H : Type) (enc : TypeId × Value → H) :
    ReturnsInHanded {} Try.checked os 5 .any (Rows.simulateServesSpec.pre6 enc Try.prog Try.f5 Rows.simulateServesRow.domain false) (Rows.simulateServesSpec.post enc Try.prog Try.f5 false true false false) := by
  refine returnsInHanded_of_change (C := Try.checked) Try.own started (by kernel_rfl) Try.func5
    (ChangeSpec.witness6 (enc := enc) (C := Try.checked) false ⟨#[], #[.slice none 0 0, .int .i64 0], []⟩ 8 (by kernel_rfl) (by kernel_rfl) (by kernel_rfl) (by kernel_rfl)) ?_
  intro W base args ds gs before hval0 hW hcnd _
  have hval : ∀ (j : Nat) t v, Try.f5.params[j]? = some t → args[j]? = some v → Value.okWide Try.prog W .any base t v := hval0
  have hW' := hW
  obtain ⟨p, q, hA0, hV, rfl, hfz, hnd⟩ := hW
  have hA : DataW.TrodAll enc Try.prog W 0 (fun _ => true) true Try.f5.params.toList args.toList ds p := hA0
  have hA' := hA
  rw [Try.params5] at hA hval
  obtain ⟨v0, v1, d0, d1, p0, p1, rfl, rfl, rfl, h0, h1⟩ := trodAll_two hA
  obtain ⟨rfl, rfl⟩ := trodVars_none hV
  obtain ⟨l, h_l, e0⟩ := opn_custs.argSlice Try.underlying22 (hval 0 22 v0 rfl rfl) h0
  obtain ⟨s, h_s, e1⟩ := opn_int.argInt Try.underlying3 (hval 1 3 v1 rfl rfl) h1
  clear hA0 hval0
  simp only [List.append_nil] at hW'
  exact law_end (serves_con l s h_l.1) Try.laidOut (by kernel_rfl) rfl hW' hA' rfl
    (fun j A v hj hv => by
      match j, hj, hv with
      | 0, hj, hv => simp at hj hv; subst hj; subst hv; exact e0
      | 1, hj, hv => simp at hj hv; subst hj; subst hv; exact e1
      | n + 2, hj, hv => simp at hj)
    rfl rfl rfl rfl Try.underlying4

theorem serves_holds : Rows.SimulateServesSaid :=
  OpenClaim.holds_of_wide 5 Try.f5 rfl rfl rfl rfl rfl rfl rfl ⟨rfl, rfl, rfl, rfl, rfl⟩ rfl rfl rfl rfl rfl (by kernel_rfl) Try.func5 (by kernel_rfl)
    (of_decide_eq_true (by kernel_rfl)) (by unfold Func.isWrapper; first | (rw [if_pos (by decide +kernel)]; kernel_rfl) | (rw [if_neg (by decide +kernel)]; exact ⟨rfl, rfl⟩))
    (fun os started H enc _ => serves_lifted os started H enc)

end Go.Proofs.Ytocpeankecaabaa
