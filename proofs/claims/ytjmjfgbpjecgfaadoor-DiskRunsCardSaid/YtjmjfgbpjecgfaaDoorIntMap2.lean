/-
  Maps from integers: lookup with its word, clear.
-/
import Derived.Test.YtjmjfgbpjecgfaaDoorIntMap
import Derived.RegionTactic
import Derived.OwnWalk
namespace Go.Proofs.YtjmjfgbpjecgfaaDoor
set_option linter.unusedVariables false
set_option linter.unusedSimpArgs false
open Go.RowKit

section
variable {P : Program} {w : World} {t kt e : TypeId} {b : Nat} {k : IntKind} {f : Int → Option Value}

theorem run_lookup2_intMap (ht : P.underlying t = some (.map kt e)) (hk : P.underlying kt = some (.int k)) (h : IntMap w b k f) {z : Value} (hz : (zeroValue e).run P w = .ok z w) (n : Int) :
    (Instr.lookup t (.map (some b)) (.int k n) true).run P w = .ok (.tuple #[(f n).getD z, .bool (f n).isSome]) w := by
  obtain ⟨es, clock, hb, h1, h2, h3⟩ := h
  have hgo : (getObj b).run P w = .ok (.map es clock) w := Go.MapKept.run_getObj_map hb
  rcases findNow_spec k k n es.toList 0 h1 with ⟨hf, hno⟩ | ⟨q, x, hf, hq, hx⟩
  · have hn : f n = none := by
      cases hfn : f n with
      | none => rfl
      | some v => obtain ⟨x, hx, hk1, _⟩ := (h3 n v).1 hfn; exact absurd hk1 (hno x hx)
    simp [Instr.lookup, run_underlying ht, hgo, run_checkKey_int hk, Instr.findKey, run_underlying hk, hf, hz, hn]
  · have hn : f n = some x.val := (h3 n x.val).2 ⟨x, List.mem_of_getElem? hq, hx, rfl⟩
    simp [Instr.lookup, run_underlying ht, hgo, run_checkKey_int hk, Instr.findKey, run_underlying hk, hf, hn]

theorem run_clear_intMap (ht : P.underlying t = some (.map kt e)) (h : IntMap w b k f) (ty : TypeId) :
    ∃ w', (Builtin.clear_ #[t] ty #[.map (some b)]).run P w = .ok (.tuple #[]) w' ∧ IntMap w' b k (fun _ => none) ∧ MapTurned w w' b := by
  have hlt := h.lt
  obtain ⟨es, clock, hb, h1, h2, h3⟩ := h
  have hgo : (getObj b).run P w = .ok (.map es clock) w := Go.MapKept.run_getObj_map hb
  refine ⟨{ w with heap := w.heap.setIfInBounds b (.map #[] clock) }, ?_, ⟨#[], clock, heap_set_at w b _ hlt, Holds.empty k⟩, MapTurned.set w b _⟩
  simp [Builtin.clear_, run_underlying ht, hgo, MapKept.run_setObj_map _ hb, Result.andThen]
/-- A lookup at the list of a plain region's operations; a map's store; a clear. -/
theorem wpList_lookup2 {ops : Array Oper} {rest : List Oper} {o : Oper} {a : Act} {w : World} {Q : Exit → Act → World → Prop} (hgd : o.guard = none) (t : TypeId) (x i : Operand) (c : Bool) (ho : o.op = .lookup t x i c)
    (b : Nat) (k : IntKind) (n : Int) (v : Value) (hx : a.eval x = .map (some b)) (hi : a.eval i = .int k n) (hrun : (Instr.lookup t (.map (some b)) (.int k n) c).run P w = .ok v w)
    (h : wpList P ops Q rest (a.put o.dst v) w) : wpList P ops Q (o :: rest) a w :=
  wpList_plain hgd fun K hK => by
    unfold Oper.wp execOp
    simp only [ho, hx, hi, Sem.run_bind, hrun, Result.andThen_ok]
    exact hK _ _ h
theorem wpList_clear {ops : Array Oper} {rest : List Oper} {o : Oper} {a : Act} {w w' : World} {Q : Exit → Act → World → Prop} (hgd : o.guard = none) (t : TypeId) (x : Operand) (ho : o.op = .call { callee := .builtin .clear, args := #[x], argTypes := #[t] })
    (b : Nat) (hx : a.eval x = .map (some b)) (hrun : (Builtin.clear_ #[t] o.type #[.map (some b)]).run P w = .ok (.tuple #[]) w')
    (h : wpList P ops Q rest (a.put o.dst (.tuple #[])) w') : wpList P ops Q (o :: rest) a w :=
  wpList_plain hgd fun K hK => by
    unfold Oper.wp
    simp [execOp, ho, resolve, invoke, builtin, hx, hrun, Result.andThen]
    exact hK _ _ h
theorem wp_makeMap {o : Oper} {a : Act} {w : World} {K : Act → World → Prop} {Q : Exit → Act → World → Prop} (t : TypeId) (ho : o.op = .makeMap t none) (h : K (a.put o.dst (.map (some w.heap.size))) (w.alloc (.map #[] 0))) : o.wp P a w K Q := by
  unfold Oper.wp execOp
  simp [ho, Instr.makeMap, newObj]
  exact h
theorem wpList_makeMap {ops : Array Oper} {rest : List Oper} {o : Oper} {a : Act} {w : World} {Q : Exit → Act → World → Prop} (hgd : o.guard = none) (t : TypeId) (ho : o.op = .makeMap t none)
    (h : wpList P ops Q rest (a.put o.dst (.map (some w.heap.size))) (w.alloc (.map #[] 0))) : wpList P ops Q (o :: rest) a w :=
  wpList_plain hgd fun K hK => wp_makeMap t ho (hK _ _ h)
/-- A map's store, as one operation. -/
theorem wp_mapUpdate {o : Oper} {a : Act} {w w' : World} {K : Act → World → Prop} {Q : Exit → Act → World → Prop} (t : TypeId) (x i y : Operand) (ho : o.op = .mapUpdate t x i y)
    (b : Nat) (k : IntKind) (n : Int) (v : Value) (hx : a.eval x = .map (some b)) (hi : a.eval i = .int k n) (hy : a.eval y = v) (hrun : (Instr.mapUpdate t (.map (some b)) (.int k n) v).run P w = .ok () w')
    (h : K (a.put o.dst undef) w') : o.wp P a w K Q := by
  unfold Oper.wp execOp
  simp only [ho, hx, hi, hy, Sem.run_bind, Sem.run_pure, hrun, Result.andThen_ok]
  exact h
end
end Go.Proofs.YtjmjfgbpjecgfaaDoor
