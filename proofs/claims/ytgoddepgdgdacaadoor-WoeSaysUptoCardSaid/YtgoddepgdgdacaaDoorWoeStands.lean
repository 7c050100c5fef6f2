/-
  woe: stands.
-/
import Derived.Test.YtgoddepgdgdacaaDoorWoeWay
namespace Go.Proofs.YtgoddepgdgdacaaDoor
set_option linter.unusedVariables false
set_option linter.unusedSimpArgs false
open Go.RowKit

theorem in_first (s : ByteArray) (n : Int) (W : World) : Calls Tryd.prog 17 #[.string s, .iface 22 (.int .i64 n)] W fun ev w' => ∃ T x, ev = .returned (.iface T x) ∧ IsErr w' (.iface T x) [s] n ∧ Below W.heap.size W w' :=
  in_err s (.iface 22 (.int .i64 n)) [] n W rfl

set_option maxHeartbeats 1000000 in
theorem stands_any (W : World) (hg : HasET W) :
    Calls Tryd.prog 8 #[] W fun e w' => e = .returned (.bool true) ∧ Below W.heap.size W w' := by
  go_enter Tryd.func8, Tryd.ntmps8
  go_wp2_with (first
    | (go_at_call 17; (with_reducible refine (in_nil _ _).mono ?_); rintro e w' ⟨rfl, rfl⟩)
    | (go_at_call 17; (with_reducible refine (in_first _ _ _).mono ?_); rintro e w1 ⟨T1, x1, rfl, h1, hb1⟩)
    | (go_at_call 17; (with_reducible refine (in_err _ _ _ 10 _ h1).mono ?_); rintro e w2 ⟨T2, x2, rfl, h2, hb2⟩; have HB2 : Hid (Below W.heap.size W w2) := hb1.trans (hb2.mono hb1.size))
    | (go_at_call 15; (with_reducible refine (number_nil _).mono ?_); rintro e w' ⟨rfl, rfl⟩)
    | (go_at_call 15; (with_reducible refine (number_any _ _ 10 _ (hg.below HB2.out) h2).mono ?_); rintro e w3 ⟨rfl, hb3⟩; have h3 := h2.below hb3; have HB3 : Hid (Below W.heap.size W w3) := HB2.out.trans (hb3.mono HB2.out.size))
    | (go_at_call 12; (with_reducible refine (way_any _ _ 10 _ (hg.below HB3.out) h3 (by simp)).mono ?_); rintro e w4 ⟨v, rfl, ho, hb4⟩; obtain ⟨a, cap, rfl, hrow⟩ := ho.form; have HB4 : Hid (Below W.heap.size W w4) := HB3.out.trans (hb4.mono HB3.out.size); clear hrow ho))
  go_ret
  exact ⟨rfl, HB4.out⟩
end Go.Proofs.YtgoddepgdgdacaaDoor
