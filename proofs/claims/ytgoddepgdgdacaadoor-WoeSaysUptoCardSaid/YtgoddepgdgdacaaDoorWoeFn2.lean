/-
  woe: Full; stands, made.
-/
import Derived.Test.YtgoddepgdgdacaaDoorWoeFn
import Derived.Test.YtgoddepgdgdacaaDoorWoeIs
namespace Go.Proofs.YtgoddepgdgdacaaDoor
set_option linter.unusedVariables false
set_option linter.unusedSimpArgs false
open Go.RowKit Go.Extern.Stop Go.Stop Go.Extern

set_option maxHeartbeats 1000000 in
theorem full_nil (W : World) : Calls Tryd.prog 16 #[.nilIface] W fun ev w' => ev = .returned (.bool false) ∧ w' = W := by
  go_enter Tryd.func16, Tryd.ntmps16
  go_wp2_with (go_at_call 14; refine (is_nil _ _).mono ?_; rintro e w' ⟨rfl, rfl⟩)
  go_ret
  exact ⟨rfl, rfl⟩
set_option maxHeartbeats 1000000 in
theorem full_any (e : Value) (l : List ByteArray) (n : Int) (W : World) (h : IsErr W e l n) : Calls Tryd.prog 16 #[e] W fun ev w' => ev = .returned (.bool (n == 20 || n == 21 || n == 22)) ∧ w' = W := by
  have hc := fun m => is_num e l n m W h
  obtain ⟨T, x, rfl⟩ := h.iface
  by_cases h1 : n = 20
  · have e1 : (n == 20) = true := by simpa using h1
    have hr : (n == 20 || n == 21 || n == 22) = true := by simp [h1]
    rw [hr]
    clear hr
    go_enter Tryd.func16, Tryd.ntmps16
    go_wp2_with (go_at_call 14; refine (hc _).mono ?_; rw [e1]; rintro e w' ⟨rfl, rfl⟩)
    go_ret
    exact ⟨rfl, rfl⟩
  · have e1 : (n == 20) = false := by simpa using h1
    by_cases h2 : n = 21
    · have e2 : (n == 21) = true := by simpa using h2
      have hr : (n == 20 || n == 21 || n == 22) = true := by simp [h2]
      rw [hr]
      clear hr
      go_enter Tryd.func16, Tryd.ntmps16
      go_wp2_with (go_at_call 14; refine (hc _).mono ?_; (first | rw [e1] | rw [e2]); rintro e w' ⟨rfl, rfl⟩)
      go_ret
      exact ⟨rfl, rfl⟩
    · have e2 : (n == 21) = false := by simpa using h2
      have hr : (n == 20 || n == 21 || n == 22) = (n == 22) := by rw [e1, e2]; rfl
      rw [hr]
      clear hr
      have hx : (n == 22) = true ∨ (n == 22) = false := by cases (n == 22) <;> simp
      rcases hx with e3 | e3
      all_goals
        rw [e3]
        go_enter Tryd.func16, Tryd.ntmps16
        go_wp2_with (go_at_call 14; refine (hc _).mono ?_; (first | rw [e1] | rw [e2] | rw [e3]); rintro e w' ⟨rfl, rfl⟩)
        go_ret
        exact ⟨rfl, rfl⟩
end Go.Proofs.YtgoddepgdgdacaaDoor
