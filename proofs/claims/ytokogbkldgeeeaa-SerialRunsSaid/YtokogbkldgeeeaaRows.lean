/-
  No cell of these rows narrows 'for every input' (looked for: loops, veiled, ifaces, maps, wideKeys, modest, calm, conditions, laid).
  DERIVED. THE GIVEN ROWS OF THIS SEAT. 5 by the template 'for every input the law returns true; each argument reads behind the call as it read before'; 0 by the template 'total and deterministic' (their statements: YtokogbkldgeeeaaTotals.lean).
  GIVEN WITH THE SEED: the statements are not yours to turn. If you find one false, say at which input.
  Laid BY PROGRAM, IN A SANDBOX (cutbox-rows.mjs): the forced cells as the released guide's own fill.sh prints them over the translation 7c7a4177f7682c11… (all of the seat's roots in one cut). By AI agents, Wed Nov 11 2026. No macro, syntax, notation, axiom, sorry.
-/
import Derived.Test.YtokogbkldgeeeaaChecked
import GoSem.Claim
import GoSem.ClaimJoined
import GoSem.ClaimMapViews
import Derived.JoinedTies
import Derived.KernelRfl
namespace Go.Proofs.Ytokogbkldgeeeaa
/- THE CELL 'sum', in the pinned program and in every row, IS THE sha256 OF THE DUMP (.gsa) THAT YtokogbkldgeeeaaProg.lean LOADS. Nothing in Lean hashes anything: it is a label: what it is worth is what the hold of that sum in a sandbox is worth. -/
noncomputable def Try.pinned : Pinned := { name := "ytokogbkldgeeeaa", sum := "7c7a4177f7682c111e6a785ca98816ca3f601ea7a9a8c9b7f9536a1a6da8d474", checked := Try.checked }
namespace Rows
def none {H : Type} : Left H := { results := [], args := [] }

/-- 'bulkheadlaw17.SerialOrder': WHATEVER THE INPUT: true; the input reads as it did. -/
def serialOrderSpec : ChangeSpec := { name := "serialOrder", fn := fun _ => fun
  | [d1, d2, d3] => { results := [.lit (.bool true)], args := [d1, d2, d3] }
  | _ => none }
def serialOrderRow : OpenClaim := { program := "ytokogbkldgeeeaa", sum := "7c7a4177f7682c111e6a785ca98816ca3f601ea7a9a8c9b7f9536a1a6da8d474", func := "bulkhead/bulkheadlaw17.SerialOrder", spec := "serialOrder", apart := false }
def SerialOrderSaid : Prop := serialOrderRow.holds Try.pinned (OpenSpec.ofChange serialOrderSpec)

/-- ITS FALSE NEIGHBOUR: 'it returns false'. Refute it at one input. -/
def serialOrderWrong : ChangeSpec := { name := "serialOrder", fn := fun _ => fun
  | [d1, d2, d3] => { results := [.lit (.bool false)], args := [d1, d2, d3] }
  | _ => none }
def SerialOrderWrongFalsely : Prop := serialOrderRow.holds Try.pinned (OpenSpec.ofChange serialOrderWrong)

/-- 'bulkheadlaw17.SerialWithin': WHATEVER THE INPUT: true; the input reads as it did. -/
def serialWithinSpec : ChangeSpec := { name := "serialWithin", fn := fun _ => fun
  | [d1, d2, d3] => { results := [.lit (.bool true)], args := [d1, d2, d3] }
  | _ => none }
def serialWithinRow : OpenClaim := { program := "ytokogbkldgeeeaa", sum := "7c7a4177f7682c111e6a785ca98816ca3f601ea7a9a8c9b7f9536a1a6da8d474", func := "bulkhead/bulkheadlaw17.SerialWithin", spec := "serialWithin", apart := false }
def SerialWithinSaid : Prop := serialWithinRow.holds Try.pinned (OpenSpec.ofChange serialWithinSpec)

/-- ITS FALSE NEIGHBOUR: 'it returns false'. Refute it at one input. -/
def serialWithinWrong : ChangeSpec := { name := "serialWithin", fn := fun _ => fun
  | [d1, d2, d3] => { results := [.lit (.bool false)], args := [d1, d2, d3] }
  | _ => none }
def SerialWithinWrongFalsely : Prop := serialWithinRow.holds Try.pinned (OpenSpec.ofChange serialWithinWrong)

/-- 'bulkheadlaw17.SerialRuns': WHATEVER THE INPUT: true; the input reads as it did. -/
def serialRunsSpec : ChangeSpec := { name := "serialRuns", fn := fun _ => fun
  | [d1, d2, d3] => { results := [.lit (.bool true)], args := [d1, d2, d3] }
  | _ => none }
def serialRunsRow : OpenClaim := { program := "ytokogbkldgeeeaa", sum := "7c7a4177f7682c111e6a785ca98816ca3f601ea7a9a8c9b7f9536a1a6da8d474", func := "bulkhead/bulkheadlaw17.SerialRuns", spec := "serialRuns", unfollowed := true, recurses := true, apart := false }
def SerialRunsSaid : Prop := serialRunsRow.holds Try.pinned (OpenSpec.ofChange serialRunsSpec)

/-- ITS FALSE NEIGHBOUR: 'it returns false'. Refute it at one input. -/
def serialRunsWrong : ChangeSpec := { name := "serialRuns", fn := fun _ => fun
  | [d1, d2, d3] => { results := [.lit (.bool false)], args := [d1, d2, d3] }
  | _ => none }
def SerialRunsWrongFalsely : Prop := serialRunsRow.holds Try.pinned (OpenSpec.ofChange serialRunsWrong)

/-- 'bulkheadlaw17.SerialOnce': WHATEVER THE INPUT: true; the input reads as it did. -/
def serialOnceSpec : ChangeSpec := { name := "serialOnce", fn := fun _ => fun
  | [d1, d2] => { results := [.lit (.bool true)], args := [d1, d2] }
  | _ => none }
def serialOnceRow : OpenClaim := { program := "ytokogbkldgeeeaa", sum := "7c7a4177f7682c111e6a785ca98816ca3f601ea7a9a8c9b7f9536a1a6da8d474", func := "bulkhead/bulkheadlaw17.SerialOnce", spec := "serialOnce", apart := false }
def SerialOnceSaid : Prop := serialOnceRow.holds Try.pinned (OpenSpec.ofChange serialOnceSpec)

/-- ITS FALSE NEIGHBOUR: 'it returns false'. Refute it at one input. -/
def serialOnceWrong : ChangeSpec := { name := "serialOnce", fn := fun _ => fun
  | [d1, d2] => { results := [.lit (.bool false)], args := [d1, d2] }
  | _ => none }
def SerialOnceWrongFalsely : Prop := serialOnceRow.holds Try.pinned (OpenSpec.ofChange serialOnceWrong)

/-- 'bulkheadlaw17.SerialWindows': WHATEVER THE INPUT: true; the input reads as it did. -/
def serialWindowsSpec : ChangeSpec := { name := "serialWindows", fn := fun _ => fun
  | [d1, d2, d3] => { results := [.lit (.bool true)], args := [d1, d2, d3] }
  | _ => none }
def serialWindowsRow : OpenClaim := { program := "ytokogbkldgeeeaa", sum := "7c7a4177f7682c111e6a785ca98816ca3f601ea7a9a8c9b7f9536a1a6da8d474", func := "bulkhead/bulkheadlaw17.SerialWindows", spec := "serialWindows", apart := false }
def SerialWindowsSaid : Prop := serialWindowsRow.holds Try.pinned (OpenSpec.ofChange serialWindowsSpec)

/-- ITS FALSE NEIGHBOUR: 'it returns false'. Refute it at one input. -/
def serialWindowsWrong : ChangeSpec := { name := "serialWindows", fn := fun _ => fun
  | [d1, d2, d3] => { results := [.lit (.bool false)], args := [d1, d2, d3] }
  | _ => none }
def SerialWindowsWrongFalsely : Prop := serialWindowsRow.holds Try.pinned (OpenSpec.ofChange serialWindowsWrong)

/- THE SECOND FORM. 'bulk': how many values and letters a reading holds, each counted each time it is reached (what is shared counts as often as it is met; a slice's spare places count too). A statement '..UptoSaid' is the law's where the arguments, and the package variables that the reading takes, are together of bulk at most 1048576: NARROWER than '..Said'. Prove '..Said' where nothing that the law and all that it calls make is longer than what came in: it says more and counts as full. Else prove '..UptoSaid'. A law counts once. -/
mutual
def uptoBulk {H : Type} : DataW H → Nat
  | .lit (.string bytes) => bytes.length + 1
  | .lit _ => 1
  | .nil => 1
  | .ptr d => uptoBulk d + 1
  | .slice elems spare => uptoBulkAll elems + uptoBulkAll spare + 1
  | .agg parts => uptoBulkAll parts + 1
  | .iface _ d => uptoBulk d + 1
  | .map entries => uptoBulkEntries entries + 1
  | .held _ => 1
def uptoBulkAll {H : Type} : List (DataW H) → Nat
  | [] => 0
  | d :: r => uptoBulk d + uptoBulkAll r
def uptoBulkEntries {H : Type} : List (Lit × DataW H) → Nat
  | [] => 0
  | x :: r => uptoBulkEntry x + uptoBulkEntries r
def uptoBulkEntry {H : Type} : Lit × DataW H → Nat
  | (.string bytes, d) => bytes.length + uptoBulk d + 1
  | (_, d) => uptoBulk d + 1
 end
def uptoSmall : (H : Type) → List (DataW H) → Bool := fun _ ds => decide (uptoBulkAll ds ≤ 1048576)
def OpenSpec.upto (s : _root_.Go.ChangeSpec) : _root_.Go.OpenSpec := { _root_.Go.OpenSpec.ofChange s with cond := some uptoSmall }

/-- 'bulkheadlaw17.SerialOrder', WHERE WHAT IT READS IS OF BULK AT MOST 1048576: true; the input reads as it did. -/
def serialOrderUptoRow : OpenClaim := { program := "ytokogbkldgeeeaa", sum := "7c7a4177f7682c111e6a785ca98816ca3f601ea7a9a8c9b7f9536a1a6da8d474", func := "bulkhead/bulkheadlaw17.SerialOrder", spec := "serialOrder", apart := false, narrowed := true }
def SerialOrderUptoSaid : Prop := serialOrderUptoRow.holds Try.pinned (OpenSpec.upto serialOrderSpec)

/-- 'bulkheadlaw17.SerialWithin', WHERE WHAT IT READS IS OF BULK AT MOST 1048576: true; the input reads as it did. -/
def serialWithinUptoRow : OpenClaim := { program := "ytokogbkldgeeeaa", sum := "7c7a4177f7682c111e6a785ca98816ca3f601ea7a9a8c9b7f9536a1a6da8d474", func := "bulkhead/bulkheadlaw17.SerialWithin", spec := "serialWithin", apart := false, narrowed := true }
def SerialWithinUptoSaid : Prop := serialWithinUptoRow.holds Try.pinned (OpenSpec.upto serialWithinSpec)

/-- 'bulkheadlaw17.SerialRuns', WHERE WHAT IT READS IS OF BULK AT MOST 1048576: true; the input reads as it did. -/
def serialRunsUptoRow : OpenClaim := { program := "ytokogbkldgeeeaa", sum := "7c7a4177f7682c111e6a785ca98816ca3f601ea7a9a8c9b7f9536a1a6da8d474", func := "bulkhead/bulkheadlaw17.SerialRuns", spec := "serialRuns", unfollowed := true, recurses := true, apart := false, narrowed := true }
def SerialRunsUptoSaid : Prop := serialRunsUptoRow.holds Try.pinned (OpenSpec.upto serialRunsSpec)

/-- 'bulkheadlaw17.SerialOnce', WHERE WHAT IT READS IS OF BULK AT MOST 1048576: true; the input reads as it did. -/
def serialOnceUptoRow : OpenClaim := { program := "ytokogbkldgeeeaa", sum := "7c7a4177f7682c111e6a785ca98816ca3f601ea7a9a8c9b7f9536a1a6da8d474", func := "bulkhead/bulkheadlaw17.SerialOnce", spec := "serialOnce", apart := false, narrowed := true }
def SerialOnceUptoSaid : Prop := serialOnceUptoRow.holds Try.pinned (OpenSpec.upto serialOnceSpec)

/-- 'bulkheadlaw17.SerialWindows', WHERE WHAT IT READS IS OF BULK AT MOST 1048576: true; the input reads as it did. -/
def serialWindowsUptoRow : OpenClaim := { program := "ytokogbkldgeeeaa", sum := "7c7a4177f7682c111e6a785ca98816ca3f601ea7a9a8c9b7f9536a1a6da8d474", func := "bulkhead/bulkheadlaw17.SerialWindows", spec := "serialWindows", apart := false, narrowed := true }
def SerialWindowsUptoSaid : Prop := serialWindowsUptoRow.holds Try.pinned (OpenSpec.upto serialWindowsSpec)

end Rows
end Go.Proofs.Ytokogbkldgeeeaa
