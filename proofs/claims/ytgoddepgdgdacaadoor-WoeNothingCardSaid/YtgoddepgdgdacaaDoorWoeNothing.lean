/-
  woe: WoeNothing walked.
-/
import Derived.Test.YtgoddepgdgdacaaDoorWoeStands
namespace Go.Proofs.YtgoddepgdgdacaaDoor
set_option linter.unusedVariables false
set_option linter.unusedSimpArgs false
open Go.RowKit

set_option maxHeartbeats 2000000 in
theorem nothing_walk (v0 : Value) (D0 : D) (W : World) (r0 : RdV Tryd.prog W 23 v0 D0) (hg : HasET W) :
    Calls Tryd.prog 6 #[v0] W fun e w' => e = .returned (.bool true) ∧ Below W.heap.size W w' := by
  obtain ⟨a, len, cap, l, rfl, rfl, rfl, hc1, hc2, hc3, hc4, hl⟩ := r0.strs Tryd.underlying23 Tryd.underlying9 (by kernel_rfl)
  have hm : l.length ≤ maxLen := Nat.le_trans hc1 hc2
  go_enter Tryd.func6, Tryd.ntmps6
  have hf := fun w (h : IsStrs w a l) => few_any a l cap w h hm
  go_wp2_with (first
    | (go_at_call 8; (with_reducible refine (stands_any _ hg).mono ?_); rintro e w1 ⟨rfl, hb1⟩; have hl1 := hl.below hb1)
    | (go_at_call 9; (with_reducible refine (hf _ hl1).mono ?_); rintro e w2 ⟨hE, rfl⟩; rcases hE with rfl | rfl))
  · have HB1 : Hid (Below W.heap.size W w2) := hb1
    clear hb1 hf
    go_loopw [3, 13] (fun x i wr => ∃ k : Nat, k ≤ l.length ∧ i = .int .i64 k ∧ x = .nilIface ∧ wr = w2) (fun _ i _ => l.length - (intOf i).toNat)
    case atStart => exact ⟨0, by omega, rfl, rfl, rfl⟩
    case round =>
      obtain ⟨k, hk, rfl, rfl, rfl⟩ := hrel
      unfold maxLen at hm
      by_cases hlt : k < l.length
      · obtain ⟨b, off, rfl, hbl, hc0⟩ := hl1.2.resolve_left (by intro h; subst h; simp at hlt)
        have hc := hc0 k hlt
        generalize l.getD k ByteArray.empty = s at *
        clear hc0
        go_wp2_with (go_at_call 17; (with_reducible refine (in_nil _ _).mono ?_); rintro e w' ⟨rfl, rfl⟩)
        go_round
        case rel => exact ⟨k + 1, by omega, by go_num, rfl, trivial⟩
        case measure => simp [intOf]; omega
      · obtain rfl : k = l.length := by omega
        go_wp2_with (first
          | (go_at_call 15; (with_reducible refine (number_nil _).mono ?_); rintro e w' ⟨rfl, rfl⟩)
          | (go_at_call 12; (with_reducible refine (way_nil _).mono ?_); rintro e w' ⟨rfl, rfl⟩)
          | (go_at_call 16; (with_reducible refine (full_nil _).mono ?_); rintro e w' ⟨rfl, rfl⟩))
        go_ret
        exact ⟨rfl, HB1.out⟩
  · go_ret
    exact ⟨rfl, hb1⟩
end Go.Proofs.YtgoddepgdgdacaaDoor
