/-
  A function's code from one of its regions on: the rest of a body as a term of its own.
-/
import Derived.Test.YtjmjfgbpjecgfaaDoorBlk
import Derived.Laws.Rows
namespace Go.Proofs.YtjmjfgbpjecgfaaDoor
set_option linter.unusedVariables false
set_option linter.unusedSimpArgs false
open Go.RowKit

/-- The number of the region that a code begins with. -/
def regNo : Code → Nat
  | .region n _ _ => n
  | .seq a _ => regNo a
  | _ => 1000000
/-- The code from region n on, in the main row. -/
def codeFrom (n : Nat) : Code → Code
  | .seq a b => if regNo a = n then .seq a b else codeFrom n b
  | c => c
/-- A function's code from region n on. -/
def restOf (F : Func) (n : Nat) : Code := match F.body with
  | some c => codeFrom n c
  | none => .skip
/-- Of 'a region, a test; the rest' the test's other way. -/
def elseOf : Code → Code
  | .seq (.seq _ (.cond _ _ c)) _ => c
  | c => c
def thenOf : Code → Code
  | .seq (.seq _ (.cond _ c _)) _ => c
  | c => c
/-- A slice turned to an array's pointer. -/
theorem run_arrayAt {P : Program} {t e : TypeId} {n len cap : Nat} (a : Option Addr) (ht : P.underlying t = some (.array n e)) (hle : n ≤ len) (w : World) : (Instr.arrayAt t (.slice a len cap)).run P w = .ok (.pointer a) w := by
  have h1 : ¬ len < n := by omega
  unfold Instr.arrayAt
  simp only [Sem.run_bind, run_underlying ht, Result.andThen_ok]
  rw [if_neg h1]
  rfl
/-- An operation behind a guard that holds. -/
theorem wpList_wanted {P : Program} {ops : Array Oper} {Q : Exit → Act → World → Prop} {a : Act} {w : World} {rest : List Oper} {o : Oper} (hw : Region.wanted o (yielded ops a.tmps) = true)
    (h : ∀ K : Act → World → Prop, (∀ a w, wpList P ops Q rest a w → K a w) → o.wp P a w K Q) : wpList P ops Q (o :: rest) a w :=
  wpList_step fun K hK => by simp only [hw, if_true]; exact h K hK
/-- A row loaded, behind a guard that holds. -/
theorem wpList_load_row_g {P : Program} {ops : Array Oper} {rest : List Oper} {o : Oper} {a : Act} {w : World} {Q : Exit → Act → World → Prop} (hw : Region.wanted o (yielded ops a.tmps) = true) (ty : TypeId) (x : Operand) (ho : o.op = .load ty x)
    (g : Nat) (hx : a.eval x = .pointer (some ⟨g, 0, none⟩)) (t : TypeId) (cs : Array Value) (fr : Nat × Nat) (d : TypeDesc) (hg : w.heap[g]? = some (.cells cs t fr))
    (hu : P.underlying ty = some d) (hd : (match d with | .struct _ | .array _ _ => true | _ => false) = true) (hi : (P.info? ty).map (·.size) = some cs.size)
    (h : wpList P ops Q rest (a.put o.dst (.agg cs)) w) : wpList P ops Q (o :: rest) a w :=
  wpList_wanted hw fun _ hK => wp_load_row ty x ho g hx t cs fr d hg hu hd hi (hK _ _ h)
end Go.Proofs.YtjmjfgbpjecgfaaDoor
