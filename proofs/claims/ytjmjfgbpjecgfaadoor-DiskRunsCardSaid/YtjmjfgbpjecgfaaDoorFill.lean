/-
  A struct of one number and one array, built out of values that are letters.
-/
import Derived.Test.YtjmjfgbpjecgfaaDoorNv
import Derived.Laws.Tables
import Derived.Great.BuildSlice
import Derived.OrdersHeld
namespace Go.Proofs.YtjmjfgbpjecgfaaDoor
set_option linter.unusedVariables false
set_option linter.unusedSimpArgs false
open Go.RowKit

theorem fold_set (off : Nat) : ∀ (vs : List Value) (k : Nat) (cells : Array Value), ((vs.zipIdx k).foldl (fun (cs : Array Value) (x : Value × Nat) => cs.setIfInBounds (off + x.2) x.1) cells).size = cells.size ∧
    ∀ i, ((vs.zipIdx k).foldl (fun (cs : Array Value) (x : Value × Nat) => cs.setIfInBounds (off + x.2) x.1) cells)[i]? = if i < cells.size ∧ off + k ≤ i ∧ i < off + k + vs.length then vs[i - (off + k)]? else cells[i]? := by
  intro vs
  induction vs with
  | nil => intro k cells; exact ⟨rfl, fun i => by rw [if_neg (by simp)]; rfl⟩
  | cons v vs ih =>
    intro k cells
    obtain ⟨h1, h2⟩ := ih (k + 1) (cells.setIfInBounds (off + k) v)
    rw [List.zipIdx_cons, List.foldl_cons]
    refine ⟨h1.trans (by simp), fun i => ?_⟩
    rw [h2 i, Array.size_setIfInBounds, Array.getElem?_setIfInBounds, List.length_cons]
    by_cases hi : i = off + k
    · subst hi
      by_cases hs : off + k < cells.size
      · rw [if_neg (by omega), if_pos rfl, if_pos hs, if_pos (by omega)]; simp
      · rw [if_neg (by omega), if_pos rfl, if_neg hs, if_neg (by omega), Array.getElem?_eq_none (by omega)]
    · by_cases hr : i < cells.size ∧ off + k ≤ i ∧ i < off + k + (vs.length + 1)
      · rw [if_pos (by omega), if_pos hr, show i - (off + k) = (i - (off + (k + 1))) + 1 by omega]; simp
      · rw [if_neg (by omega), if_neg (fun h => hi h.symm), if_neg hr]
theorem fold_array (off : Nat) (vs cells : Array Value) : (vs.zipIdx.foldl (fun (cs : Array Value) (x : Value × Nat) => cs.setIfInBounds (off + x.2) x.1) cells) = (vs.toList.zipIdx.foldl (fun (cs : Array Value) (x : Value × Nat) => cs.setIfInBounds (off + x.2) x.1) cells) := by
  rw [← Array.foldl_toList, Array.toList_zipIdx]
theorem fill_step {place : Nat → Option (Nat × Nat)} {cells : Array Value} {i off size : Nat} {v : Value} {rest : List (Nat × Value)} (h : place i = some (off, size)) (hs : v.cells.size = size) (hc : off + size ≤ cells.size) :
    Instr.fill place cells ((i, v) :: rest) = Instr.fill place (v.cells.zipIdx.foldl (fun (cs : Array Value) (x : Value × Nat) => cs.setIfInBounds (off + x.2) x.1) cells) rest := by
  rw [Instr.fill]
  simp only [h]
  have hn : ¬ ((decide (v.cells.size ≠ size) || decide (off + v.cells.size > cells.size)) = true) := by
    simp only [Bool.or_eq_true, decide_eq_true_eq]
    omega
  rw [if_neg hn]
/-- One cell ahead of an array's. -/
theorem fill_two (place : Nat → Option (Nat × Nat)) (cells : Array Value) (v : Value) (hv : v.cells = #[v]) (cs : Array Value) (h0 : place 0 = some (0, 1)) (h1 : place 1 = some (1, cs.size)) (hs : cells.size = cs.size + 1) :
    Instr.fill place cells [(0, v), (1, .agg cs)] = some ((v :: cs.toList).toArray) := by
  have hc : (Value.agg cs).cells = cs := rfl
  have hz : (v.cells.zipIdx.foldl (fun (cs : Array Value) (x : Value × Nat) => cs.setIfInBounds (0 + x.2) x.1) cells) = cells.setIfInBounds 0 v := by
    rw [hv, fold_array]; rfl
  rw [fill_step h0 (by rw [hv]; rfl) (by omega), hz, fill_step h1 (by rw [hc]) (by simp; omega), hc, Instr.fill]
  congr 1
  rw [fold_array]
  obtain ⟨h2, h3⟩ := fold_set 1 cs.toList 0 (cells.setIfInBounds 0 v)
  apply Array.ext_getElem?
  intro i
  have hr : (v :: cs.toList).toArray[i]? = (v :: cs.toList)[i]? := by simp
  rw [h3 i, hr, Array.size_setIfInBounds, Array.getElem?_setIfInBounds, Array.length_toList]
  cases i with
  | zero => rw [if_neg (by omega), if_pos rfl, if_pos (by omega)]; simp
  | succ i =>
    rw [if_neg (show ¬ (0 = i + 1) by omega), List.getElem?_cons_succ]
    by_cases hi : i < cs.size
    · rw [if_pos (by omega), show i + 1 - (1 + 0) = i by omega]
    · rw [if_neg (by omega), List.getElem?_eq_none (by simp; omega), Array.getElem?_eq_none (by omega)]
/-- One part that is the whole. -/
theorem fill_one (place : Nat → Option (Nat × Nat)) (cells cs : Array Value) (h0 : place 0 = some (0, cs.size)) (hs : cells.size = cs.size) : Instr.fill place cells [(0, .agg cs)] = some cs := by
  have hc : (Value.agg cs).cells = cs := rfl
  rw [fill_step h0 (by rw [hc]) (by omega), hc, Instr.fill]
  congr 1
  rw [fold_array]
  obtain ⟨h2, h3⟩ := fold_set 0 cs.toList 0 cells
  apply Array.ext_getElem?
  intro i
  rw [h3 i, Array.length_toList]
  by_cases hi : i < cs.size
  · rw [if_pos (by omega), show i - (0 + 0) = i by omega, Array.getElem?_toList]
  · rw [if_neg (by omega), Array.getElem?_eq_none (by omega), Array.getElem?_eq_none (by omega)]
/-- An operation by its run. -/
theorem wp_of_run {P : Program} {o : Oper} {a : Act} {w w' : World} {K : Act → World → Prop} {Q : Exit → Act → World → Prop} {v : Value} (hrun : (execOp a.eval o).run P w = .ok (.value v) w') (h : K (a.put o.dst v) w') : o.wp P a w K Q := by
  unfold Oper.wp
  rw [hrun]
  exact h
theorem yields_build {P : Program} {ops : Array Oper} {op : Oper} {a : Act} (hw : Region.wanted op (yielded ops a.tmps) = true) (t : TypeId) (parts : Array (Nat × Operand)) (ho : op.op = .build t parts) (cells : Array Value)
    (hb : P.built t (parts.toList.map fun (i, x) => (i, a.eval x)) = some cells) : Yields P ops op (.agg cells) a :=
  .inl ⟨hw, fun w => by
    rw [← Array.toList_map] at hb
    unfold execOp
    simp only [ho, Sem.run_bind, run_build w t _ cells hb, Result.andThen_ok]
    rfl⟩
/-- A variable's making, its zero by the program's table of types. -/
theorem wpList_alloc_info {P : Program} {ops : Array Oper} {rest : List Oper} {o : Oper} {a : Act} {w : World} {Q : Exit → Act → World → Prop} (hgd : o.guard = none) (t : TypeId) (ho : o.op = .alloc t) (z : Value) (cs : Array Value) (hz : (P.info? t).bind (·.zero) = some z) (hc : z.cells = cs)
    (h : wpList P ops Q rest (a.put o.dst (.pointer (some ⟨w.heap.size, 0, none⟩))) (w.alloc (.cells cs t))) : wpList P ops Q (o :: rest) a w :=
  wpList_plain hgd fun K hK => by
    obtain ⟨it, h1, h2⟩ := Option.bind_eq_some_iff.1 hz
    unfold Oper.wp execOp
    simp [ho, Instr.alloc, zeroValue, typeInfo, h1, h2, newVar, newRow, hc]
    exact hK _ _ h
/-- A slice of one element, made. -/
theorem wp_slice_one {P : Program} {o : Oper} {a : Act} {w w' : World} {K : Act → World → Prop} {Q : Exit → Act → World → Prop} (t : TypeId) (x : Operand) (ho : o.op = .buildSlice t 1 #[(0, x)]) (v s : Value) (hx : a.eval x = v)
    (hrun : (Instr.buildSlice t 1 #[(0, v)]).run P w = .ok s w') (h : K (a.put o.dst s) w') : o.wp P a w K Q := by
  have hm : (#[(0, x)] : Array (Nat × Operand)).map (fun (i, y) => (i, a.eval y)) = #[(0, v)] := by simp [hx]
  unfold Oper.wp execOp
  simp only [ho, hm, Sem.run_bind, hrun, Result.andThen_ok]
  exact h
theorem yieldsIf_build {P : Program} {ops : Array Oper} {S : World → Prop} {op : Oper} {a : Act} (hw : Region.wanted op (yielded ops a.tmps) = true) (t : TypeId) (parts : Array (Nat × Operand)) (ho : op.op = .build t parts) (cells : Array Value)
    (hb : P.built t (parts.toList.map fun (i, x) => (i, a.eval x)) = some cells) : YieldsIf P ops S op (.agg cells) a :=
  .inl ⟨hw, fun w _ => by
    rw [← Array.toList_map] at hb
    unfold execOp
    simp only [ho, Sem.run_bind, run_build w t _ cells hb, Result.andThen_ok]
    rfl⟩
end Go.Proofs.YtjmjfgbpjecgfaaDoor
