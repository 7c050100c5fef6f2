/-
  Rows of natural numbers as values; a block's row stored whole.
-/
import Derived.Test.YtjmjfgbpjecgfaaDoorBlk
import Derived.Laws.Rows
namespace Go.Proofs.YtjmjfgbpjecgfaaDoor
set_option linter.unusedVariables false
set_option linter.unusedSimpArgs false
open Go.RowKit

/-- Numbers as values. -/
def nv (k : IntKind) (l : List Nat) : Array Value := (l.map fun (c : Nat) => Value.int k (c : Int)).toArray
theorem nv_size (k : IntKind) (l : List Nat) : (nv k l).size = l.length := by simp [nv]
theorem nv_get (k : IntKind) (l : List Nat) (i : Nat) (h : i < l.length) : (nv k l)[i]? = some (.int k ((l.getD i 0 : Nat) : Int)) := by
  simp [nv, List.getD, h]
theorem nv_one (k : IntKind) (l : List Nat) : (nv k l).all (·.oneCell') = true := by
  simp [nv, Value.oneCell']
theorem nv_set (k : IntKind) (l : List Nat) (i v : Nat) : (nv k l).setIfInBounds i (.int k (v : Int)) = nv k (l.set i v) := by
  simp [nv, List.map_set]
theorem below_setRow {B : Nat} {w w' : World} (h : Below B w w') (g : Nat) (hg : B ≤ g) (cs : Array Value) : Below B w (w'.setRow g cs) := by
  refine h.trans ⟨rfl, rfl, rfl, ?_, ?_⟩
  · simp [World.setRow]
  · intro k hk
    simp only [World.setRow, Array.getElem?_modify]
    rw [if_neg (by omega)]
theorem isBlk_setRow {w : World} {g : Nat} {old : Array Value} {t : TypeId} (h : IsBlk w g old t) (cs : Array Value) : IsBlk (w.setRow g cs) g cs t := by
  have h' : w.heap[g]? = some (.cells old t) := h
  show (w.setRow g cs).heap[g]? = _
  simp [World.setRow, Array.getElem?_modify, h']
theorem isBlk_setRowOther {w : World} {b g : Nat} {cs : Array Value} {t : TypeId} (h : IsBlk w b cs t) (hne : g ≠ b) (ds : Array Value) : IsBlk (w.setRow g ds) b cs t := by
  have h' : w.heap[b]? = some (.cells cs t) := h
  show (w.setRow g ds).heap[b]? = _
  simp [World.setRow, Array.getElem?_modify, h', hne]
theorem drawn_below {B : Nat} {a w : World} (h : Below B a w) (n : Nat) : Below B a (w.drewN n) := ⟨h.os, h.tape, h.output, h.size, h.block⟩
theorem isBytes_row {w : World} {b : Nat} {l : List Nat} {t : TypeId} (hk : IsBlk w b (nv .u8 l) t) (hl : ∀ c ∈ l, c < 256) : IsBytes w (some ⟨b, 0, none⟩) l :=
  ⟨hl, .inr ⟨b, 0, rfl, fun i hi => by rw [Nat.zero_add]; exact hk.cell i (nv_get .u8 l i hi)⟩⟩
end Go.Proofs.YtjmjfgbpjecgfaaDoor
