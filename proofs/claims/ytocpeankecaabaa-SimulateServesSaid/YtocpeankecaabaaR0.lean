/-
  The arguments of the statements on customers, opened.
-/
import Derived.Test.YtocpeankecaabaaRows
import Derived.Test.YtocpeankecaabaaW1
import Derived.Test.YtocpeankecaabaaAbs15
set_option linter.all false
namespace Go.Proofs.Ytocpeankecaabaa
open Go.Abs Go.RowKit Go.ChangeShapes Go.WideShapes Go.ChangeAt

theorem Try.own : ownKnob Try.prog.godebug = none := by kernel_rfl
theorem Try.laidOut : laidOutB Try.prog = true := by kernel_rfl

theorem opn_int : Opn Try.prog 3 1 (fun (n : Int) _ => .int .i64 n) (fun n => IntKind.min .i64 ≤ n ∧ n ≤ IntKind.max .i64) := Opn.int Try.underlying3
theorem opn_u8 : Opn Try.prog 5 1 (fun (n : Int) _ => .int .u8 n) (fun n => IntKind.min .u8 ≤ n ∧ n ≤ IntKind.max .u8) := Opn.int Try.underlying5
theorem opn_u16 : Opn Try.prog 32 1 (fun (n : Int) _ => .int .u16 n) (fun n => IntKind.min .u16 ≤ n ∧ n ≤ IntKind.max .u16) := Opn.int Try.underlying32

theorem opn_cust : Opn Try.prog 29 4 (fun (c : Cust) f => .int .i64 (c.cell f)) (fun _ => True) := by
  refine (Opn.struct (M := fun _ => Int) (szs := fun _ => 1) (off := fun i => i) (idx := fun j => j) (en := fun _ n _ => .int .i64 n) (good := fun _ n => IntKind.min .i64 ≤ n ∧ n ≤ IntKind.max .i64) (fun _ => 0) Try.underlying29 (by kernel_rfl) ?_ ?_).map (fun m => ⟨m 0, m 1, m 2, m 3⟩) (fun _ _ => trivial) ?_
  · intro i f hf
    match i, hf with
    | 0, hf => simp at hf; subst hf; exact ⟨rfl, by kernel_rfl, opn_int⟩
    | 1, hf => simp at hf; subst hf; exact ⟨rfl, by kernel_rfl, opn_int⟩
    | 2, hf => simp at hf; subst hf; exact ⟨rfl, by kernel_rfl, opn_int⟩
    | 3, hf => simp at hf; subst hf; exact ⟨rfl, by kernel_rfl, opn_int⟩
    | n + 4, hf => simp at hf
  · intro j hj
    refine ⟨by simpa using hj, Nat.le_refl _, by simp⟩
  · intro m _ f hf
    have : f = 0 ∨ f = 1 ∨ f = 2 ∨ f = 3 := by omega
    rcases this with rfl | rfl | rfl | rfl <;> rfl

theorem opn_custs : Opn Try.prog 22 1 (fun (l : List Cust) _ => encC false l) (fun l => l.length ≤ maxLen ∧ ∀ x ∈ l, True) := Opn.slice opn_cust .z Try.underlying22 (by kernel_rfl) (by omega)
end Go.Proofs.Ytocpeankecaabaa
