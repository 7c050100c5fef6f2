/-
  A map literal with integer keys: insert, and lookup with ok, at a list of operations.
-/
import Derived.Test.YtpcgnffkhkdkhaaIntMap
import Derived.Test.YtpcgnffkhkdkhaaNv
namespace Go.Proofs.Ytpcgnffkhkdkhaa
set_option linter.unusedVariables false
set_option linter.unusedSimpArgs false
open Go.RowKit

theorem MapTurned.blk {w w' : World} {b c : Nat} {cs : Array Value} {t : TypeId} (h : MapTurned w w' b) (hk : IsBlk w c cs t) (hc : c ≠ b) : IsBlk w' c cs t := hk.of_block (h.2.2.2.2 c hc)
theorem IntMap.alloc {w : World} {b : Nat} {k : IntKind} {f : Int → Option Value} (h : IntMap w b k f) (o : Obj) : IntMap (w.alloc o) b k f := h.of_block (Below.heap_alloc w o b h.lt)

section
variable {P : Program} {w : World} {t kt e : TypeId} {b : Nat} {k : IntKind} {f : Int → Option Value}
theorem run_lookupOk_intMap (ht : P.underlying t = some (.map kt e)) (hk : P.underlying kt = some (.int k)) (h : IntMap w b k f) {z : Value} (hz : (zeroValue e).run P w = .ok z w) (n : Int) :
    (Instr.lookup t (.map (some b)) (.int k n) true).run P w = .ok (.tuple #[(f n).getD z, .bool (f n).isSome]) w := by
  obtain ⟨es, clock, hb, h1, h2, h3⟩ := h
  have hgo : (getObj b).run P w = .ok (.map es clock) w := Go.MapKept.run_getObj_map hb
  rcases findNow_spec k k n es.toList 0 h1 with ⟨hf, hno⟩ | ⟨q, x, hf, hq, hx⟩
  · have hn : f n = none := by
      cases hfn : f n with
      | none => rfl
      | some v => obtain ⟨x, hx, hk1, _⟩ := (h3 n v).1 hfn; exact absurd hk1 (hno x hx)
    simp [Instr.lookup, run_underlying ht, hgo, run_checkKey_int hk, Instr.findKey, run_underlying hk, hf, hz, hn]
  · have hn : f n = some x.val := (h3 n x.val).2 ⟨x, List.mem_of_getElem? hq, hx, rfl⟩
    simp [Instr.lookup, run_underlying ht, hgo, run_checkKey_int hk, Instr.findKey, run_underlying hk, hf, hn]

theorem wpList_insert_int {ops : Array Oper} {rest : List Oper} {o : Oper} {a : Act} {Q : Exit → Act → World → Prop} (hgd : o.guard = none) (m x v : Operand) (ho : o.op = .insert t m x v)
    (ht : P.underlying t = some (.map kt e)) (hk : P.underlying kt = some (.int k)) (hm : a.eval m = .map (some b)) (n : Int) (hx : a.eval x = .int k n) (h : IntMap w b k f) (val : Value) (hv : a.eval v = val)
    (hK : ∀ w', IntMap w' b k (fun j => if j = n then some val else f j) → MapTurned w w' b → wpList P ops Q rest (a.put o.dst (.tuple #[])) w') : wpList P ops Q (o :: rest) a w :=
  wpList_plain hgd fun _ hK' => by
    obtain ⟨w', hr, h1, h2⟩ := run_update_intMap ht hk h n val
    unfold Oper.wp execOp
    simp only [ho, hm, hx, hv, hr, Sem.run_bind, Result.andThen_ok, Sem.run_pure]
    exact hK' _ _ (hK w' h1 h2)
theorem wpList_lookupOk_int {ops : Array Oper} {rest : List Oper} {o : Oper} {a : Act} {Q : Exit → Act → World → Prop} (hgd : o.guard = none) (m x : Operand) (ho : o.op = .lookup t m x true)
    (ht : P.underlying t = some (.map kt e)) (hk : P.underlying kt = some (.int k)) (hm : a.eval m = .map (some b)) (n : Int) (hx : a.eval x = .int k n) (h : IntMap w b k f) {z : Value} (hz : (zeroValue e).run P w = .ok z w)
    (r : Option Value) (hr : f n = r) (hK : wpList P ops Q rest (a.put o.dst (.tuple #[r.getD z, .bool r.isSome])) w) : wpList P ops Q (o :: rest) a w :=
  wpList_plain hgd fun _ hK' => by
    have h1 := run_lookupOk_intMap ht hk h hz n
    subst hr
    unfold Oper.wp execOp
    simp only [ho, hm, hx, h1, Sem.run_bind, Result.andThen_ok, Sem.run_pure]
    exact hK' _ _ hK
end

/-- What has been inserted so far: keys, blocks, rows. -/
def looks (l : List (Int × Nat × Array Value)) (n : Int) : Option Value := (l.find? fun x => n == x.1).map fun x => .slice (some ⟨x.2.1, 0, none⟩) x.2.2.size x.2.2.size
structure Named (w0 w : World) (mb : Nat) (t : TypeId) (l : List (Int × Nat × Array Value)) : Prop where
  map : IntMap w mb .u8 (looks l)
  rows : ∀ x ∈ l, IsBlk w x.2.1 x.2.2 t ∧ x.2.1 ≠ mb
  bel : Below w0.heap.size w0 w
  hb : w0.heap.size ≤ mb
theorem Named.step {w0 w w' : World} {mb : Nat} {t : TypeId} {l : List (Int × Nat × Array Value)} (h : Named w0 w mb t l) {n : Int} {S k : Nat} {cs : Array Value}
    (h1 : IntMap w' mb .u8 (fun j => if j = n then some (.slice (some ⟨S, 0, none⟩) k k) else looks l j)) (h2 : MapTurned (w.alloc (.cells cs t)) w' mb) (hS : S = w.heap.size) (hk : k = cs.size) : Named w0 w' mb t ((n, S, cs) :: l) := by
  subst hS hk
  have hne : w.heap.size ≠ mb := by have := h.map.lt; omega
  refine ⟨?_, ?_, h2.below (h.bel.alloc h.bel.size _) h.hb, h.hb⟩
  · have e : looks ((n, w.heap.size, cs) :: l) = fun j => if j = n then some (.slice (some ⟨w.heap.size, 0, none⟩) cs.size cs.size) else looks l j := by
      funext j
      unfold looks
      by_cases hj : j = n
      · simp [hj]
      · have : (j == n) = false := by simpa using hj
        simp [List.find?_cons, this, hj]
    rw [e]; exact h1
  · intro x hx
    rcases List.mem_cons.1 hx with rfl | hx
    · exact ⟨h2.blk (IsBlk.new _ _ _) hne, hne⟩
    · exact ⟨h2.blk ((h.rows x hx).1.alloc _) (h.rows x hx).2, (h.rows x hx).2⟩
end Go.Proofs.Ytpcgnffkhkdkhaa
