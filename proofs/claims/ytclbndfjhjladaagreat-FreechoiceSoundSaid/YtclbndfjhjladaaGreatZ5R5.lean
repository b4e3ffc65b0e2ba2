/-
  FreechoiceSound: the statement.
-/
import Derived.Test.YtclbndfjhjladaaGreatRows
import Derived.Test.YtclbndfjhjladaaGreatZ5Mp5
import Derived.Test.YtclbndfjhjladaaGreatZ5Y6
set_option linter.all false
namespace Go.Proofs.YtclbndfjhjladaaGreat
open Go.K Go.M Go.RowKit Go.ChangeShapes Go.WideShapes Go.ChangeAt
theorem Tryz.own : ownKnob Tryz.prog.godebug = none := by kernel_rfl
theorem Tryz.laidOut : laidOutB Tryz.prog = true := by kernel_rfl
set_option maxRecDepth 100000 in
theorem sound_lifted (os : Os) (started : os.Started) (H : Type) (enc : TypeId × Value → H) :
   ReturnsInHanded {} Tryz.checked os 5 .any (Rows.freechoiceSoundSpec.pre6 enc Tryz.prog Tryz.f5 Rows.freechoiceSoundRow.domain false) (Rows.freechoiceSoundSpec.post enc Tryz.prog Tryz.f5 false true false false) := by
 refine returnsInHanded_of_change (C := Tryz.checked) Tryz.own started (by kernel_rfl) Tryz.func5
   (ChangeSpec.witness6 (enc := enc) (C := Tryz.checked) false ⟨#[], #[.agg #[.int .i64 0, .slice none 0 0, .int .i64 0, .int .i64 0]], []⟩ 8 (by kernel_rfl) (by kernel_rfl) (by kernel_rfl) (by kernel_rfl)) ?_
 intro W base args ds gs before hval0 hW hcnd _
 have hval : ∀ (j : Nat) t v, Tryz.f5.params[j]? = some t → args[j]? = some v → Value.okWide Tryz.prog W .any base t v := hval0
 have hW' := hW
 obtain ⟨p, q, hA0, hV, rfl, hfz, hnd⟩ := hW
 have hA : DataW.TrodAll enc Tryz.prog W 0 (fun _ => true) true Tryz.f5.params.toList args.toList ds p := hA0
 obtain ⟨rfl, rfl⟩ := trodVars_none hV
 simp only [List.append_nil] at hW'
 have hlen : ds.length = 1 := q1t hA
 rcases ds with _ | ⟨d0, _ | ⟨d, ds⟩⟩ <;> first | (simp at hlen; done) | skip
 exact jcd fits qij (by kernel_rfl) (fun a h => qov a.1) Tryz.laidOut (by kernel_rfl) rfl hW' hA hval rfl rfl rfl rfl Tryz.underlying4
theorem sound_holds : Rows.FreechoiceSoundSaid :=
 OpenClaim.holds_of_wide 5 Tryz.f5 rfl rfl rfl rfl rfl rfl rfl ⟨rfl, rfl, rfl, rfl, rfl⟩ rfl rfl rfl rfl rfl (by kernel_rfl) Tryz.func5 (by kernel_rfl)
   (of_decide_eq_true (by kernel_rfl)) (by unfold Func.isWrapper; first | (rw [if_pos (by decide +kernel)]; kernel_rfl) | (rw [if_neg (by decide +kernel)]; exact ⟨rfl, rfl⟩))
   (fun os started H enc _ => sound_lifted os started H enc)
end Go.Proofs.YtclbndfjhjladaaGreat
