/-
  cdb: two tasks, compared.
-/
import Derived.Test.YtpcgnffkhkdkhaaCdbPlain
import Derived.Laws.StructEq
namespace Go.Proofs.Ytpcgnffkhkdkhaa
set_option linter.unusedVariables false
set_option linter.unusedSimpArgs false
open Go.RowKit

theorem if_ok (p : Prop) [Decidable p] (b : Bool) (w : World) : (if p then (Result.ok b w : Result Bool) else .ok false w) = .ok (decide p && b) w := by
  by_cases h : p <;> simp [h]
theorem eq_task (t u : TK) (w : World) : (Op.equalIn 10000 32 (.agg t.cells) (.agg u.cells)).run Try.prog w = .ok (decide (t = u)) w := by
  have hS : Try.prog.underlying 32 = some (.struct (Try.prog.fieldsOf 32)) := by kernel_rfl
  have hp : Try.prog.stoodInHeld 32 = false := by kernel_rfl
  rw [show (10000 : Nat) = 9999 + 1 from rfl, run_equalIn_agg w 9999 32 _ _ hS hp]
  obtain ⟨a1, a2, a3, a4, a5, a6, a7, a8, a9, a10, a11, a12⟩ := t
  obtain ⟨b1, b2, b3, b4, b5, b6, b7, b8, b9, b10, b11, b12⟩ := u
  simp only [TK.mk.injEq]
  have q : ∀ x y : Nat, (((x : Int)) == (y : Int)) = decide (x = y) := by
    intro x y
    by_cases h : x = y
    · simp [h]
    · have : ¬ (x : Int) = (y : Int) := by omega
      simp [h, this]
  have qb : ∀ x y : Bool, (x == y) = decide (x = y) := by decide
  unfold TK.cells
  simp [go_sem, Op.eqFields, Program.fieldsOf, Try.underlying32, q, qb]
  simp only [if_ok, Bool.and_true]
end Go.Proofs.Ytpcgnffkhkdkhaa
