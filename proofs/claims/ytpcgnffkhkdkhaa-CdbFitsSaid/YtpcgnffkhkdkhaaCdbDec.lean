/-
  cdb: Decode, any command; the law's anchor.
-/
import Derived.Test.YtpcgnffkhkdkhaaCdbDc00
import Derived.Test.YtpcgnffkhkdkhaaCdbDc12
import Derived.Test.YtpcgnffkhkdkhaaCdbDc25
import Derived.Test.YtpcgnffkhkdkhaaCdbDc9E
import Derived.Test.YtpcgnffkhkdkhaaCdbDcA0
import Derived.Test.YtpcgnffkhkdkhaaCdbDc5E
import Derived.Test.YtpcgnffkhkdkhaaCdbDc5F
import Derived.Test.YtpcgnffkhkdkhaaCdbDc42
import Derived.Test.YtpcgnffkhkdkhaaCdbDcX
import Derived.Test.YtpcgnffkhkdkhaaCdbEq
namespace Go.Proofs.Ytpcgnffkhkdkhaa
set_option linter.unusedVariables false
set_option linter.unusedSimpArgs false
open Go.RowKit
attribute [local go_sem ↓] Go.wp_at_zero Go.wp_at_succ

theorem dec_any (b : List Nat) (hl : b.length = 16) (hb : ∀ c ∈ b, c < 256) (w : World) :
    Calls Try.prog 8 #[.agg (nv .u8 b)] w fun e w' => e = .returned (.tuple #[.agg (decP b).1.cells, .int .i64 ((decP b).2 : Nat)]) ∧ Below w.heap.size w w' := by
  by_cases h1 : b.getD 0 0 = 0
  · exact dec_00 b hl hb w h1
  by_cases h2 : b.getD 0 0 = 18
  · exact dec_12 b hl hb w h2
  by_cases h3 : b.getD 0 0 = 37
  · exact dec_25 b hl hb w h3
  by_cases h4 : b.getD 0 0 = 158
  · exact dec_9E b hl hb w h4
  by_cases h5 : b.getD 0 0 = 160
  · exact dec_A0 b hl hb w h5
  by_cases h6 : b.getD 0 0 = 94
  · exact dec_5E b hl hb w h6
  by_cases h7 : b.getD 0 0 = 95
  · exact dec_5F b hl hb w h7
  by_cases h8 : b.getD 0 0 = 66
  · exact dec_42 b hl hb w h8
  refine dec_X b hl hb w ?_
  simp only [List.mem_cons, List.not_mem_nil, or_false, forall_eq_or_imp, forall_eq]
  exact ⟨h1, h2, h3, h4, h5, h6, h7, h8⟩
end Go.Proofs.Ytpcgnffkhkdkhaa
