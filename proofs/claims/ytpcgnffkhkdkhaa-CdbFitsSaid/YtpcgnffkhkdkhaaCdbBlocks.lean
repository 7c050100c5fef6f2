/-
  cdb: blocks.
-/
import Derived.Test.YtpcgnffkhkdkhaaCdbAt
import Derived.Deep.RegionHeld3
import Derived.Deep.DeepCutAuto
import Derived.Deep.CutBlock
namespace Go.Proofs.Ytpcgnffkhkdkhaa
set_option linter.unusedVariables false
set_option linter.unusedSimpArgs false
open Go.RowKit
attribute [local go_sem ↓] Go.wp_at_zero Go.wp_at_succ

theorem results_cell_tmp {P : Program} {fn : Func} {p q : Tmp} {ty : TypeId} (h : fn.results = #[.cell p ty, .tmp q]) (tmps : Array Value) (w : World) (g : Nat) (t : TypeId) (cs : Array Value) (d : TypeDesc)
    (hp : tmps.getD p undef = .pointer (some ⟨g, 0, none⟩)) (hg : IsBlk w g cs t) (v : Value) (hq : tmps.getD q undef = v)
    (hu : P.underlying ty = some d) (hd : (match d with | .struct _ | .array _ _ => true | _ => false) = true) (hi : (P.info? ty).map (·.size) = some cs.size) :
    (results fn tmps).run P w = .ok (.tuple #[.agg cs, v]) w := by
  have hp' : tmps[p]?.getD undef = .pointer (some ⟨g, 0, none⟩) := by simpa using hp
  have hq' : tmps[q]?.getD undef = v := by simpa using hq
  have hg' : w.heap[g]? = some (.cells cs t (0, 0)) := hg
  simp [results, h, hp', hq', asAddr, run_loadVar_row w g t ty cs (0, 0) d hg' hu hd hi]

theorem isBlk_conv {w : World} {b : Nat} {cs ds : Array Value} {t : TypeId} (h : IsBlk w b cs t) (e : cs = ds) : IsBlk w b ds t := e ▸ h
/-- Twelve cells stored, one behind the other. -/
theorem stored12 {W : World} {g : Nat} {t : TypeId} {a0 a1 a2 a3 a4 a5 a6 a7 a8 a9 a10 a11 : Value} (h : IsBlk W g #[a0, a1, a2, a3, a4, a5, a6, a7, a8, a9, a10, a11] t) (v0 v1 v2 v3 v4 v5 v6 v7 v8 v9 v10 v11 : Value) :
    IsBlk ((((((((((((W.setCell ⟨g, 0, none⟩ v0).setCell ⟨g, 1, none⟩ v1).setCell ⟨g, 2, none⟩ v2).setCell ⟨g, 3, none⟩ v3).setCell ⟨g, 4, none⟩ v4).setCell ⟨g, 5, none⟩ v5).setCell ⟨g, 6, none⟩ v6).setCell ⟨g, 7, none⟩ v7).setCell ⟨g, 8, none⟩ v8).setCell ⟨g, 9, none⟩ v9).setCell ⟨g, 10, none⟩ v10).setCell ⟨g, 11, none⟩ v11) g #[v0, v1, v2, v3, v4, v5, v6, v7, v8, v9, v10, v11] t :=
  isBlk_conv ((((((((((((h.set 0 v0).set 1 v1).set 2 v2).set 3 v3).set 4 v4).set 5 v5).set 6 v6).set 7 v7).set 8 v8).set 9 v9).set 10 v10).set 11 v11) (by simp)
/-- The state of 'blocks' behind its first row: the bytes, the result's cells, the task. -/
structure Bk (w : World) (A R T : Nat) (b : List Nat) (W : World) (t : TK) : Prop where
  a : IsBlk W A (nv .u8 b) 29
  r : IsBlk W R (({} : TK).cells) 32
  t : IsBlk W T t.cells 32
  bel : Below w.heap.size w W
  ar : A ≠ R
  at_ : A ≠ T
  rt : R ≠ T
  ha : w.heap.size ≤ A
  hr : w.heap.size ≤ R
  ht : w.heap.size ≤ T

end Go.Proofs.Ytpcgnffkhkdkhaa
