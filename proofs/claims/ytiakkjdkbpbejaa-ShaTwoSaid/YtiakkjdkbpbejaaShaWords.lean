/-
  sha: the round words, of both.
-/
import Derived.Test.YtiakkjdkbpbejaaShaTurn
import Derived.Test.YtiakkjdkbpbejaaBlk
import Derived.Laws.Rows
namespace Go.Proofs.Ytiakkjdkbpbejaa
set_option linter.unusedVariables false
set_option linter.unusedSimpArgs false
open Go.RowKit

/-- Numbers as values. -/
def nv (k : IntKind) (l : List Nat) : Array Value := (l.map fun (c : Nat) => Value.int k (c : Int)).toArray
theorem nv_size (k : IntKind) (l : List Nat) : (nv k l).size = l.length := by simp [nv]
theorem nv_get (k : IntKind) (l : List Nat) (i : Nat) (h : i < l.length) : (nv k l)[i]? = some (.int k ((l.getD i 0 : Nat) : Int)) := by
  simp [nv, List.getD, h]
theorem nv_one (k : IntKind) (l : List Nat) : (nv k l).all (·.oneCell') = true := by
  simp [nv, Value.oneCell']
theorem nv_set (k : IntKind) (l : List Nat) (i v : Nat) : (nv k l).setIfInBounds i (.int k (v : Int)) = nv k (l.set i v) := by
  simp [nv, List.map_set]
theorem kw_length : kw.length = 64 := by kernel_rfl
theorem zero_64 (w : World) : (zeroValue 46).run Try.prog w = .ok (.agg (nv .u32 (List.replicate 64 0))) w := by kernel_rfl

theorem below_setRow {B : Nat} {w w' : World} (h : Below B w w') (g : Nat) (hg : B ≤ g) (cs : Array Value) : Below B w (w'.setRow g cs) := by
  refine h.trans ⟨rfl, rfl, rfl, ?_, ?_⟩
  · simp [World.setRow]
  · intro k hk
    simp only [World.setRow, Array.getElem?_modify]
    rw [if_neg (by omega)]
theorem isBlk_setRow {w : World} {g : Nat} {old : Array Value} {t : TypeId} (h : IsBlk w g old t) (cs : Array Value) : IsBlk (w.setRow g cs) g cs t := by
  have h' : w.heap[g]? = some (.cells old t) := h
  show (w.setRow g cs).heap[g]? = _
  simp [World.setRow, Array.getElem?_modify, h']

set_option maxRecDepth 100000 in
set_option maxHeartbeats 4000000 in
theorem words_any (w : World) : Calls Try.prog 19 #[] w fun e w' => e = .returned (.agg (nv .u32 kw)) ∧ Below w.heap.size w w' := by
  have hz := zero_64
  go_enter Try.func19, Try.ntmps19
  go_wp2_with (first
    | (refine wpList_store_row (by rfl) 46 (.tmp 0) (.tmp 1) (by rfl) w.heap.size (nv .u32 kw) (by rfl) (by rfl) 46 (nv .u32 (List.replicate 64 0)) (heap_alloc_new w _) (by kernel_rfl) (by rw [nv_size, nv_size, kw_length]; rfl) (nv_one _ _) ?_))
  refine bodyPost_ret (v := .agg (nv .u32 kw)) (results_cell_row Try.results19 _ _ w.heap.size 46 (nv .u32 kw) (0, 0) (.array 64 39) (by rfl) ?_ (by kernel_rfl) rfl (by kernel_rfl)) rfl ⟨rfl, ?_⟩
  · exact isBlk_setRow (IsBlk.new w _ _) _
  · exact below_setRow ((Below.refl _ _).alloc (Nat.le_refl _) _) _ (Nat.le_refl _) _
set_option maxRecDepth 100000 in
set_option maxHeartbeats 1000000 in
theorem roots_any (w : World) : Calls Try.prog 17 #[] w fun e w' => e = .returned (.slice (some ⟨w.heap.size, 0, none⟩) 64 64) ∧ ∃ t, w' = w.alloc (.cells (nv .u64 kw) t) := by
  go_enter Try.func17, Try.ntmps17
  go_wp2
  go_ret
  exact ⟨rfl, _, rfl⟩
end Go.Proofs.Ytiakkjdkbpbejaa
