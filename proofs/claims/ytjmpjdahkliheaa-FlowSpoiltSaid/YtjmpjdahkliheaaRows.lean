/-
  No cell of these rows narrows 'for every input' (looked for: loops, veiled, ifaces, maps, wideKeys, modest, calm, conditions, laid).
  DERIVED. THE GIVEN ROWS OF THIS SEAT. 5 by the template 'for every input the law returns true; each argument reads behind the call as it read before'; 0 by the template 'total and deterministic' (their statements: YtjmpjdahkliheaaTotals.lean).
  GIVEN WITH THE SEED: the statements are not yours to turn. If you find one false, say at which input.
  Laid BY PROGRAM, IN A SANDBOX (cutbox-rows.mjs): the forced cells as the released guide's own fill.sh prints them over the translation b2978ba259b2bf7a… (all of the seat's roots in one cut). By AI agents, Wed Nov 11 2026. No macro, syntax, notation, axiom, sorry.
-/
import Derived.Test.YtjmpjdahkliheaaChecked
import GoSem.Claim
import GoSem.ClaimJoined
import GoSem.ClaimMapViews
import Derived.JoinedTies
import Derived.KernelRfl
namespace Go.Proofs.Ytjmpjdahkliheaa
/- THE CELL 'sum', in the pinned program and in every row, IS THE sha256 OF THE DUMP (.gsa) THAT YtjmpjdahkliheaaProg.lean LOADS. Nothing in Lean hashes anything: it is a label: what it is worth is what the hold of that sum in a sandbox is worth. -/
noncomputable def Try.pinned : Pinned := { name := "ytjmpjdahkliheaa", sum := "b2978ba259b2bf7a3abe07dfc89f377d17e03ee669ee70ec5d7958de4b4aa2fd", checked := Try.checked }
namespace Rows
def none {H : Type} : Left H := { results := [], args := [] }

/-- 'bulkheadlaw18.FlowSplits': WHATEVER THE INPUT: true; the input reads as it did. -/
def flowSplitsSpec : ChangeSpec := { name := "flowSplits", fn := fun _ => fun
  | [d1, d2, d3] => { results := [.lit (.bool true)], args := [d1, d2, d3] }
  | _ => none }
def flowSplitsRow : OpenClaim := { program := "ytjmpjdahkliheaa", sum := "b2978ba259b2bf7a3abe07dfc89f377d17e03ee669ee70ec5d7958de4b4aa2fd", func := "bulkhead/bulkheadlaw18.FlowSplits", spec := "flowSplits", apart := false }
def FlowSplitsSaid : Prop := flowSplitsRow.holds Try.pinned (OpenSpec.ofChange flowSplitsSpec)

/-- ITS FALSE NEIGHBOUR: 'it returns false'. Refute it at one input. -/
def flowSplitsWrong : ChangeSpec := { name := "flowSplits", fn := fun _ => fun
  | [d1, d2, d3] => { results := [.lit (.bool false)], args := [d1, d2, d3] }
  | _ => none }
def FlowSplitsWrongFalsely : Prop := flowSplitsRow.holds Try.pinned (OpenSpec.ofChange flowSplitsWrong)

/-- 'bulkheadlaw18.FlowRuns': WHATEVER THE INPUT: true; the input reads as it did. -/
def flowRunsSpec : ChangeSpec := { name := "flowRuns", fn := fun _ => fun
  | [d1, d2] => { results := [.lit (.bool true)], args := [d1, d2] }
  | _ => none }
def flowRunsRow : OpenClaim := { program := "ytjmpjdahkliheaa", sum := "b2978ba259b2bf7a3abe07dfc89f377d17e03ee669ee70ec5d7958de4b4aa2fd", func := "bulkhead/bulkheadlaw18.FlowRuns", spec := "flowRuns", apart := false }
def FlowRunsSaid : Prop := flowRunsRow.holds Try.pinned (OpenSpec.ofChange flowRunsSpec)

/-- ITS FALSE NEIGHBOUR: 'it returns false'. Refute it at one input. -/
def flowRunsWrong : ChangeSpec := { name := "flowRuns", fn := fun _ => fun
  | [d1, d2] => { results := [.lit (.bool false)], args := [d1, d2] }
  | _ => none }
def FlowRunsWrongFalsely : Prop := flowRunsRow.holds Try.pinned (OpenSpec.ofChange flowRunsWrong)

/-- 'bulkheadlaw18.FlowEnds': WHATEVER THE INPUT: true; the input reads as it did. -/
def flowEndsSpec : ChangeSpec := { name := "flowEnds", fn := fun _ => fun
  | [d1, d2, d3] => { results := [.lit (.bool true)], args := [d1, d2, d3] }
  | _ => none }
def flowEndsRow : OpenClaim := { program := "ytjmpjdahkliheaa", sum := "b2978ba259b2bf7a3abe07dfc89f377d17e03ee669ee70ec5d7958de4b4aa2fd", func := "bulkhead/bulkheadlaw18.FlowEnds", spec := "flowEnds", apart := false }
def FlowEndsSaid : Prop := flowEndsRow.holds Try.pinned (OpenSpec.ofChange flowEndsSpec)

/-- ITS FALSE NEIGHBOUR: 'it returns false'. Refute it at one input. -/
def flowEndsWrong : ChangeSpec := { name := "flowEnds", fn := fun _ => fun
  | [d1, d2, d3] => { results := [.lit (.bool false)], args := [d1, d2, d3] }
  | _ => none }
def FlowEndsWrongFalsely : Prop := flowEndsRow.holds Try.pinned (OpenSpec.ofChange flowEndsWrong)

/-- 'bulkheadlaw18.FlowSpoilt': WHATEVER THE INPUT: true; the input reads as it did. -/
def flowSpoiltSpec : ChangeSpec := { name := "flowSpoilt", fn := fun _ => fun
  | [d1, d2, d3] => { results := [.lit (.bool true)], args := [d1, d2, d3] }
  | _ => none }
def flowSpoiltRow : OpenClaim := { program := "ytjmpjdahkliheaa", sum := "b2978ba259b2bf7a3abe07dfc89f377d17e03ee669ee70ec5d7958de4b4aa2fd", func := "bulkhead/bulkheadlaw18.FlowSpoilt", spec := "flowSpoilt", apart := false }
def FlowSpoiltSaid : Prop := flowSpoiltRow.holds Try.pinned (OpenSpec.ofChange flowSpoiltSpec)

/-- ITS FALSE NEIGHBOUR: 'it returns false'. Refute it at one input. -/
def flowSpoiltWrong : ChangeSpec := { name := "flowSpoilt", fn := fun _ => fun
  | [d1, d2, d3] => { results := [.lit (.bool false)], args := [d1, d2, d3] }
  | _ => none }
def FlowSpoiltWrongFalsely : Prop := flowSpoiltRow.holds Try.pinned (OpenSpec.ofChange flowSpoiltWrong)

/-- 'bulkheadlaw18.FlowUnasked': WHATEVER THE INPUT: true; the input reads as it did. -/
def flowUnaskedSpec : ChangeSpec := { name := "flowUnasked", fn := fun _ => fun
  | [d1, d2, d3] => { results := [.lit (.bool true)], args := [d1, d2, d3] }
  | _ => none }
def flowUnaskedRow : OpenClaim := { program := "ytjmpjdahkliheaa", sum := "b2978ba259b2bf7a3abe07dfc89f377d17e03ee669ee70ec5d7958de4b4aa2fd", func := "bulkhead/bulkheadlaw18.FlowUnasked", spec := "flowUnasked", apart := false }
def FlowUnaskedSaid : Prop := flowUnaskedRow.holds Try.pinned (OpenSpec.ofChange flowUnaskedSpec)

/-- ITS FALSE NEIGHBOUR: 'it returns false'. Refute it at one input. -/
def flowUnaskedWrong : ChangeSpec := { name := "flowUnasked", fn := fun _ => fun
  | [d1, d2, d3] => { results := [.lit (.bool false)], args := [d1, d2, d3] }
  | _ => none }
def FlowUnaskedWrongFalsely : Prop := flowUnaskedRow.holds Try.pinned (OpenSpec.ofChange flowUnaskedWrong)

/- THE SECOND FORM. 'bulk': how many values and letters a reading holds, each counted each time it is reached (what is shared counts as often as it is met; a slice's spare places count too). A statement '..UptoSaid' is the law's where the arguments, and the package variables that the reading takes, are together of bulk at most 1048576: NARROWER than '..Said'. Prove '..Said' where nothing that the law and all that it calls make is longer than what came in: it says more and counts as full. Else prove '..UptoSaid'. A law counts once. -/
mutual
def uptoBulk {H : Type} : DataW H → Nat
  | .lit (.string bytes) => bytes.length + 1
  | .lit _ => 1
  | .nil => 1
  | .ptr d => uptoBulk d + 1
  | .slice elems spare => uptoBulkAll elems + uptoBulkAll spare + 1
  | .agg parts => uptoBulkAll parts + 1
  | .iface _ d => uptoBulk d + 1
  | .map entries => uptoBulkEntries entries + 1
  | .held _ => 1
def uptoBulkAll {H : Type} : List (DataW H) → Nat
  | [] => 0
  | d :: r => uptoBulk d + uptoBulkAll r
def uptoBulkEntries {H : Type} : List (Lit × DataW H) → Nat
  | [] => 0
  | x :: r => uptoBulkEntry x + uptoBulkEntries r
def uptoBulkEntry {H : Type} : Lit × DataW H → Nat
  | (.string bytes, d) => bytes.length + uptoBulk d + 1
  | (_, d) => uptoBulk d + 1
 end
def uptoSmall : (H : Type) → List (DataW H) → Bool := fun _ ds => decide (uptoBulkAll ds ≤ 1048576)
def OpenSpec.upto (s : _root_.Go.ChangeSpec) : _root_.Go.OpenSpec := { _root_.Go.OpenSpec.ofChange s with cond := some uptoSmall }

/-- 'bulkheadlaw18.FlowSplits', WHERE WHAT IT READS IS OF BULK AT MOST 1048576: true; the input reads as it did. -/
def flowSplitsUptoRow : OpenClaim := { program := "ytjmpjdahkliheaa", sum := "b2978ba259b2bf7a3abe07dfc89f377d17e03ee669ee70ec5d7958de4b4aa2fd", func := "bulkhead/bulkheadlaw18.FlowSplits", spec := "flowSplits", apart := false, narrowed := true }
def FlowSplitsUptoSaid : Prop := flowSplitsUptoRow.holds Try.pinned (OpenSpec.upto flowSplitsSpec)

/-- 'bulkheadlaw18.FlowRuns', WHERE WHAT IT READS IS OF BULK AT MOST 1048576: true; the input reads as it did. -/
def flowRunsUptoRow : OpenClaim := { program := "ytjmpjdahkliheaa", sum := "b2978ba259b2bf7a3abe07dfc89f377d17e03ee669ee70ec5d7958de4b4aa2fd", func := "bulkhead/bulkheadlaw18.FlowRuns", spec := "flowRuns", apart := false, narrowed := true }
def FlowRunsUptoSaid : Prop := flowRunsUptoRow.holds Try.pinned (OpenSpec.upto flowRunsSpec)

/-- 'bulkheadlaw18.FlowEnds', WHERE WHAT IT READS IS OF BULK AT MOST 1048576: true; the input reads as it did. -/
def flowEndsUptoRow : OpenClaim := { program := "ytjmpjdahkliheaa", sum := "b2978ba259b2bf7a3abe07dfc89f377d17e03ee669ee70ec5d7958de4b4aa2fd", func := "bulkhead/bulkheadlaw18.FlowEnds", spec := "flowEnds", apart := false, narrowed := true }
def FlowEndsUptoSaid : Prop := flowEndsUptoRow.holds Try.pinned (OpenSpec.upto flowEndsSpec)

/-- 'bulkheadlaw18.FlowSpoilt', WHERE WHAT IT READS IS OF BULK AT MOST 1048576: true; the input reads as it did. -/
def flowSpoiltUptoRow : OpenClaim := { program := "ytjmpjdahkliheaa", sum := "b2978ba259b2bf7a3abe07dfc89f377d17e03ee669ee70ec5d7958de4b4aa2fd", func := "bulkhead/bulkheadlaw18.FlowSpoilt", spec := "flowSpoilt", apart := false, narrowed := true }
def FlowSpoiltUptoSaid : Prop := flowSpoiltUptoRow.holds Try.pinned (OpenSpec.upto flowSpoiltSpec)

/-- 'bulkheadlaw18.FlowUnasked', WHERE WHAT IT READS IS OF BULK AT MOST 1048576: true; the input reads as it did. -/
def flowUnaskedUptoRow : OpenClaim := { program := "ytjmpjdahkliheaa", sum := "b2978ba259b2bf7a3abe07dfc89f377d17e03ee669ee70ec5d7958de4b4aa2fd", func := "bulkhead/bulkheadlaw18.FlowUnasked", spec := "flowUnasked", apart := false, narrowed := true }
def FlowUnaskedUptoSaid : Prop := flowUnaskedUptoRow.holds Try.pinned (OpenSpec.upto flowUnaskedSpec)

end Rows
end Go.Proofs.Ytjmpjdahkliheaa
