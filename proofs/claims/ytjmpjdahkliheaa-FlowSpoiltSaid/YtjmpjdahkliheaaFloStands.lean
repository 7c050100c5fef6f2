/-
  flow: the anchor.
-/
import Derived.Test.YtjmpjdahkliheaaFloSplit
namespace Go.Proofs.Ytjmpjdahkliheaa
set_option linter.unusedVariables false
set_option linter.unusedSimpArgs false
open Go.RowKit

theorem parts_known : parts 300 100 250 0 250 = [(0, 100, false), (100, 100, false), (200, 50, true), (250, 50, true)] := by
  rw [parts_step 300 100 250 0 250 (by omega) (by omega) (by omega) (by omega) 100 (by decide) false (by decide) 150 (by decide),
    parts_step 300 100 250 (0 + 100) 150 (by omega) (by omega) (by omega) (by omega) 100 (by decide) false (by decide) 50 (by decide),
    parts_step 300 100 250 (0 + 100 + 100) 50 (by omega) (by omega) (by omega) (by omega) 50 (by decide) true (by decide) 250 (by decide),
    parts_step 300 100 250 (0 + 100 + 100 + 50) 250 (by omega) (by omega) (by omega) (by omega) 50 (by decide) true (by decide) 200 (by decide),
    parts_end _ _ _ _ _ (by omega)]

set_option maxHeartbeats 1000000 in
theorem stands_any (w : World) : Calls Try.prog 8 #[] w fun e w' => e = .returned (.bool true) ∧ Below w.heap.size w w' := by
  go_enter Try.func8, Try.ntmps8
  go_wp2_with fail
  refine (split_any 300 100 250 (by decide) (by decide) (by decide) (by decide) (by decide) (by decide) w).mono ?_
  rintro e w1 ⟨v, rfl, hown, hb⟩
  rw [parts_known] at hown
  obtain ⟨a, cap, rfl, hc1, hc2, hl⟩ := hown.form
  obtain ⟨b, rfl, hb1, hb2, hc⟩ := hl.resolve_left (by simp)
  obtain ⟨c1, c2, c3⟩ := hc 2 (200, 50, true) rfl
  obtain ⟨d1, d2, d3⟩ := hc 3 (250, 50, true) rfl
  clear hc hl hown
  simp at c1 c2 c3 d1 d2 d3 hc1
  go_wp2
  go_ret
  exact ⟨rfl, hb⟩
end Go.Proofs.Ytjmpjdahkliheaa
