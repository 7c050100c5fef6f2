/-
  flow: FlowRuns, with its arguments read.
-/
import Derived.Test.YtjmpjdahkliheaaFloRuns
import Derived.Test.YtjmpjdahkliheaaFloReads
namespace Go.Proofs.Ytjmpjdahkliheaa
set_option linter.unusedVariables false
open Go.RowKit

theorem flowRuns_any (v0 v1 : Value) (D0 D1 : D) (W : World) (r0 : RdV Try.prog W 35 v0 D0) (r1 : RdV Try.prog W 36 v1 D1) :
    Calls Try.prog 4 #[v0, v1] W fun e w' => e = .returned (.bool true) ∧ Below W.heap.size W w' := by
  obtain ⟨d0, d3, d4, d5, nd, d1, d2, d6, d7, f, zA, zm, zc, rfl, hz1, hz2, hz3, _, hn⟩ := rd_begin r0
  obtain ⟨a, len, cap, K, rfl, hK, hl, _⟩ := rd_calls r1
  exact runs_walk d0 d3 d4 d5 nd d1 d2 d6 d7 f zA _ zc zm a len cap K W (Lib.hid rfl) hz3 hz1 hz2 hK hl hn
end Go.Proofs.Ytjmpjdahkliheaa
