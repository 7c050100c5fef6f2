/-
  What a law's arguments read as, told without the form's tokens: one inductive reading over plain types (bools, integers, strings, structs, arrays, slices).
  The readings' inversions; rows of integers.
  The readings, more: a struct's fields, a slice of structs.
  append onto a row of the call's own, whatever the source (nil, empty or not): at a list of operations, and at a step of a region that draws its order.
  Rows of bytes: as they came in, and of the call's own; append at a step and at a list of operations.
  A block known whole; what a call leaves as it was but for some blocks.
  Rows whose elements take c cells each: slices of arrays, of structs. Own rows read, stored to, framed.
  A map of the call's own with integer keys: what it holds, key by key; lookup, store, delete.
  Maps from integers: lookup with its word, clear.
  Rows of natural numbers as values; a block's row stored whole.
  A struct of one number and one array, built out of values that are letters.
  A function's code from one of its regions on: the rest of a body as a term of its own.
  Small laws that several layers share: equality of arrays of integers.
  A drawn region whose last operations write what the first ones read: a condition S on the world that holds as long as none of these last ones (number n and those behind it) has come up. Each of them waits for whatever is taken first.
-/
import Derived.WalkKit
import Derived.ProofKit
import Derived.OpenShut
import Derived.SizedLaws
import Derived.Maps.AppendAt
import Derived.RegionTactic
import Derived.OwnWalk
import Derived.Test.YtkabkehfckbhcaaDoorRows
import Derived.Deep.RegionLaw
import Derived.Deep.DrawnRows
import Derived.Lib.Hide
import Derived.Deep.QuietTactic
import Derived.BigQuiet
import Derived.Deep.MidRow
import Derived.WalkLawsBesides
import Derived.MapKept
import Derived.Laws.Rows
import Derived.Laws.Tables
import Derived.Great.BuildSlice
import Derived.OrdersHeld
import Derived.Deep.RegionHeld
namespace Go.Proofs.YtkabkehfckbhcaaDoor
set_option linter.unusedVariables false
set_option linter.unusedSimpArgs false
set_option linter.unnecessarySimpa false
open Go.ChangeShapes Go.WideShapes Go.ChangeAt Go.RowKit

/-- A datum. -/
inductive D where
  | b (x : Bool) | i (n : Int) | s (x : ByteArray) | agg (l : List D) | sl (a : Option Addr) (len cap : Nat) (l : List D)

/-- The cells cs of type t read as d in the world w. -/
inductive Rd (P : Program) (w : World) : TypeId → List Value → D → Prop where
  | b {t : TypeId} {x : Bool} (h : P.underlying t = some .bool) : Rd P w t [.bool x] (.b x)
  | i {t : TypeId} {k : IntKind} {n : Int} (h : P.underlying t = some (.int k)) (hw : (Lit.int k n).wf = true) : Rd P w t [.int k n] (.i n)
  | s {t : TypeId} {x : ByteArray} (h : P.underlying t = some .string) (hw : x.size ≤ maxLen) (hr : x.size ≤ reachBytes) : Rd P w t [.string x] (.s x)
  | st {t : TypeId} {fs : Array Field} {cs : List Value} {l : List D} (h : P.underlying t = some (.struct fs)) (hc : cs.length = P.cellsOf t) (hl : l.length = fs.size)
      (hd : ∀ (i : Nat) (f : Field) (d : D), fs[i]? = some f → l[i]? = some d → Rd P w f.type ((cs.drop f.offset).take (P.cellsOf f.type)) d) : Rd P w t cs (.agg l)
  | ar {t e : TypeId} {n : Nat} {cs : List Value} {l : List D} (h : P.underlying t = some (.array n e)) (hc : cs.length = P.cellsOf t) (hl : l.length = n)
      (hd : ∀ (i : Nat) (d : D), l[i]? = some d → Rd P w e ((cs.drop (i * P.cellsOf e)).take (P.cellsOf e)) d) : Rd P w t cs (.agg l)
  | sl {t e : TypeId} {a : Option Addr} {len cap : Nat} {l : List D} (cells : Nat → List Value) (h : P.underlying t = some (.slice e)) (hl : l.length = len) (hc : len ≤ cap) (hm : cap ≤ maxLen)
      (hr : cap * P.bytesOf e ≤ reachBytes) (hn : a = none → cap = 0)
      (hcell : ∀ i, i < len → ∀ ad, a = some ad → (cells i).length = P.cellsOf e ∧ ∀ j, j < P.cellsOf e → w.cell? (ad.add (i * P.cellsOf e + j)) = (cells i)[j]?)
      (hd : ∀ (i : Nat) (d : D), l[i]? = some d → Rd P w e (cells i) d) : Rd P w t [.slice a len cap] (.sl a len cap l)

/-- The type is built of bools, integers, strings, structs, arrays, slices alone, to the depth n. -/
def plainT (P : Program) : Nat → TypeId → Bool
  | 0, _ => false
  | n + 1, t => match P.underlying t with
    | some .bool | some (.int _) | some .string => true
    | some (.slice e) | some (.array _ e) => plainT P n e
    | some (.struct fs) => fs.toList.all fun f => plainT P n f.type
    | _ => false

theorem add_of_add (a : Addr) (i j : Nat) : (a.add i).add j = a.add (i + j) := by
  unfold Addr.add
  by_cases hi : i = 0 <;> by_cases hj : j = 0 <;> simp [hi, hj, Nat.add_assoc]

theorem choose_list {α : Type} {n : Nat} {R : Nat → α → Prop} (h : ∀ i, i < n → ∃ d, R i d) : ∃ l : List α, l.length = n ∧ ∀ i d, l[i]? = some d → R i d := by
  induction n with
  | zero => exact ⟨[], rfl, fun i d h => by simp at h⟩
  | succ n ih =>
    obtain ⟨l, hl, hr⟩ := ih (fun i hi => h i (by omega))
    obtain ⟨d, hd⟩ := h n (by omega)
    refine ⟨l ++ [d], by simp [hl], fun i d' hi => ?_⟩
    by_cases hin : i < n
    · rw [List.getElem?_append_left (by omega)] at hi
      exact hr i d' hi
    · have hi2 : i < (l ++ [d]).length := (List.getElem?_eq_some_iff.1 hi).1
      simp at hi2
      obtain rfl : i = n := by omega
      rw [List.getElem?_append_right (by omega)] at hi
      simp [hl] at hi
      subst hi
      exact hd

section
variable {H : Type} {enc : TypeId × Value → H} {P : Program} {w : World}

theorem weights_all_mem {e : TypeId} : ∀ {ds : List (DataW H)} {i : Nat} {d : DataW H}, ds[i]? = some d → ∀ n ∈ d.weights P e, n ∈ DataW.weightsAll P e ds := by
  intro ds
  induction ds with
  | nil => intro i d h; simp at h
  | cons x r ih =>
    intro i d h n hn
    simp only [DataW.weightsAll, List.mem_append]
    cases i with
    | zero => simp at h; subst h; exact .inl hn
    | succ i => simp at h; exact .inr (ih h n hn)

theorem rd_of_trod {base : Nat} : ∀ (fuel m : Nat) (t : TypeId) (cs : List Value) (d : DataW H) (ps : List MemPlace), plainT P m t = true →
    DataW.trod enc P w base (fun _ => true) true fuel t cs = some (d, ps) → (∀ x ∈ d.weights P t, x ≤ reachBytes) → ∃ D, Rd P w t cs D := by
  intro fuel
  induction fuel with
  | zero => intro m t cs d ps _ h _; simp [DataW.trod] at h
  | succ fuel ih =>
    intro m t cs d ps hp h hw
    cases m with
    | zero => simp [plainT] at hp
    | succ m =>
      unfold plainT at hp
      split at hp
      · rename_i ht
        obtain ⟨x, rfl, _⟩ := DataW.trod_bool ht h
        exact ⟨_, .b ht⟩
      · rename_i k ht
        obtain ⟨n, rfl, _, hwf⟩ := DataW.trod_int ht h
        exact ⟨_, .i ht hwf⟩
      · rename_i ht
        obtain ⟨s, rfl, hx, hs⟩ := DataW.trod_string ht h
        simp only [Prod.mk.injEq] at hx
        obtain ⟨rfl, _⟩ := hx
        exact ⟨_, .s ht hs (by have := hw s.data.toList.length (by simp [DataW.weights]); simpa using this)⟩
      · rename_i e ht
        rcases DataW.trod_slice ht h with ⟨rfl, hx⟩ | ⟨a, len, cap, elems, rest, n, hn, rfl, hx, hb, hl, hm, hlen, hel, hsp, _⟩
        · exact ⟨.sl none 0 0 [], .sl (fun _ => []) ht rfl (Nat.le_refl _) (by unfold maxLen; omega) (by simp) (fun _ => rfl) (fun i hi => by omega) (fun i d hi => by simp at hi)⟩
        · obtain rfl : fuel = n := by omega
          simp only [Prod.mk.injEq] at hx
          obtain ⟨rfl, rfl⟩ := hx
          have hrl := (hsp rfl).1
          have hreach : (elems.length + rest.length) * P.bytesOf e ≤ reachBytes := hw _ (by simp [DataW.weights, ht])
          have hev : ∀ i, i < len → ∃ x : List Value × D, (x.1.length = P.cellsOf e ∧ ∀ j, j < P.cellsOf e → w.cell? (a.add (i * P.cellsOf e + j)) = x.1[j]?) ∧ Rd P w e x.1 x.2 := by
            intro i hi
            have h1 := hel i hi
            have hei : elems[i]? = some elems[i] := List.getElem?_eq_getElem (by omega)
            rw [hei] at h1
            obtain ⟨cs', hcs, ht'⟩ := Option.bind_eq_some_iff.1 h1
            have hsome := World.cells?_some hcs
            obtain ⟨D, hD⟩ := ih m e cs' elems[i].1 elems[i].2 hp ht' (fun x hx => hw x (by
              simp only [DataW.weights, ht, List.mem_cons, List.mem_append]
              exact .inr (.inl (weights_all_mem (i := i) (by simp [hei]) x hx))))
            refine ⟨(cs', D), ⟨hsome.2.1, fun j hj => ?_⟩, hD⟩
            have := hsome.2.2 j hj
            rw [add_of_add] at this
            exact this
          obtain ⟨l, hll, hlr⟩ := choose_list hev
          refine ⟨.sl (some a) len cap (l.map (·.2)), .sl (fun i => (l.map (·.1)).getD i []) ht (by simp [hll]) hl hm ?_ (fun h => by cases h) ?_ ?_⟩
          · have : elems.length + rest.length = cap := by omega
            rw [this] at hreach
            exact hreach
          · rintro i hi ad ⟨rfl⟩
            have hli : l[i]? = some l[i] := List.getElem?_eq_getElem (by omega)
            have := (hlr i _ hli).1
            simpa [List.getD, hli] using this
          · intro i d hi
            rw [List.getElem?_map] at hi
            obtain ⟨x, hx, rfl⟩ := Option.map_eq_some_iff.1 hi
            have := (hlr i _ hx).2
            simpa [List.getD, hx] using this
      · rename_i n e ht
        obtain ⟨xs, m', hm', hx, hl, hxl, hxs⟩ := DataW.trod_array ht h
        obtain rfl : fuel = m' := by omega
        simp only [Prod.mk.injEq] at hx
        obtain ⟨rfl, rfl⟩ := hx
        have hev : ∀ i, i < n → ∃ D, Rd P w e ((cs.drop (i * P.cellsOf e)).take (P.cellsOf e)) D := by
          intro i hi
          have hei : xs[i]? = some xs[i] := List.getElem?_eq_getElem (by omega)
          have h1 := hxs i hi
          rw [hei] at h1
          exact ih m e _ xs[i].1 xs[i].2 hp h1 (fun x hx => hw x (by
            simp only [DataW.weights, ht]
            exact weights_all_mem (i := i) (by simp [hei]) x hx))
        obtain ⟨l, hll, hlr⟩ := choose_list hev
        exact ⟨.agg l, .ar ht hl hll hlr⟩
      · rename_i fs ht
        obtain ⟨xs, m', hm', hx, hl, hxl, hxs⟩ := DataW.trod_struct ht h
        obtain rfl : fuel = m' := by omega
        simp only [Prod.mk.injEq] at hx
        obtain ⟨rfl, rfl⟩ := hx
        have hev : ∀ i, i < fs.size → ∃ D, ∀ f, fs[i]? = some f → Rd P w f.type ((cs.drop f.offset).take (P.cellsOf f.type)) D := by
          intro i hi
          have hei : xs[i]? = some xs[i] := List.getElem?_eq_getElem (by omega)
          have hfi : fs[i]? = some fs[i] := Array.getElem?_eq_getElem hi
          have h1 := hxs i _ hfi
          rw [hei] at h1
          have hpf : plainT P m fs[i].type = true := by
            have := List.all_eq_true.1 hp fs[i] (by simp)
            exact this
          obtain ⟨D, hD⟩ := ih m _ _ xs[i].1 xs[i].2 hpf h1 (fun x hx => hw x (by
            simp only [DataW.weights, ht]
            exact DataW.weights_mem_each (j := i) (by simp [hfi]) (by simp [hei]) x hx))
          exact ⟨D, fun f hf => by rw [hfi] at hf; cases hf; exact hD⟩
        obtain ⟨l, hll, hlr⟩ := choose_list hev
        exact ⟨.agg l, .st ht hl hll (fun i f d hf hd => hlr i d hd f hf)⟩
      · cases hp

/-- A value of type t that came in, read. -/
def RdV (P : Program) (w : World) (t : TypeId) (v : Value) (d : D) : Prop := Rd P w t v.cells.toList d ∧ ∃ (r : Reach) (b : Nat), Value.okWide P w r b t v

theorem rdv_open {r : Reach} {b0 m : Nat} {t : TypeId} {v : Value} {d : DataW H} {ps : List MemPlace} (hp : plainT P m t = true) (hval : Value.okWide P w r b0 t v)
    (h : DataW.Trod enc P w 0 (fun _ => true) true t v d ps) (hw : ∀ x ∈ d.weights P t, x ≤ reachBytes) : ∃ D, RdV P w t v D := by
  obtain ⟨fuel, hf⟩ := h
  obtain ⟨D, hD⟩ := rd_of_trod fuel m t _ d ps hp hf hw
  exact ⟨D, hD, r, b0, hval⟩

theorem RdV.bool {t : TypeId} {v : Value} {d : D} (h : RdV P w t v d) (ht : P.underlying t = some .bool) : ∃ x, v = .bool x ∧ d = .b x := by
  obtain ⟨h, r, b0, hv⟩ := h
  obtain ⟨x, rfl⟩ := okWide_bool ht hv
  simp only [Value.cells] at h
  cases h with
  | b _ => exact ⟨_, rfl, rfl⟩
  | st h _ _ _ => rw [ht] at h; cases h
  | ar h _ _ _ => rw [ht] at h; cases h
theorem RdV.int {t : TypeId} {v : Value} {d : D} {k : IntKind} (h : RdV P w t v d) (ht : P.underlying t = some (.int k)) : ∃ n, v = .int k n ∧ d = .i n ∧ (Lit.int k n).wf = true := by
  obtain ⟨h, r, b0, hv⟩ := h
  obtain ⟨x, rfl⟩ := okWide_int ht hv
  simp only [Value.cells] at h
  cases h with
  | i _ hw => exact ⟨_, rfl, rfl, hw⟩
  | st h _ _ _ => rw [ht] at h; cases h
  | ar h _ _ _ => rw [ht] at h; cases h
theorem RdV.string {t : TypeId} {v : Value} {d : D} (h : RdV P w t v d) (ht : P.underlying t = some .string) : ∃ x : ByteArray, v = .string x ∧ d = .s x ∧ x.size ≤ reachBytes := by
  obtain ⟨h, r, b0, hv⟩ := h
  obtain ⟨x, rfl⟩ := okWide_string ht hv
  simp only [Value.cells] at h
  cases h with
  | s _ _ hr => exact ⟨_, rfl, rfl, hr⟩
  | st h _ _ _ => rw [ht] at h; cases h
  | ar h _ _ _ => rw [ht] at h; cases h
theorem RdV.slice {t e : TypeId} {v : Value} {d : D} (h : RdV P w t v d) (ht : P.underlying t = some (.slice e)) : ∃ a len cap l, v = .slice a len cap ∧ d = .sl a len cap l ∧ Rd P w t [.slice a len cap] (.sl a len cap l) := by
  obtain ⟨h, r, b0, hv⟩ := h
  obtain ⟨a, len, cap, rfl⟩ := okWide_slice ht hv
  simp only [Value.cells] at h
  cases h with
  | sl cells h1 h2 h3 h4 h5 h6 h7 h8 => exact ⟨_, _, _, _, rfl, rfl, .sl cells h1 h2 h3 h4 h5 h6 h7 h8⟩
  | st h _ _ _ => rw [ht] at h; cases h
  | ar h _ _ _ => rw [ht] at h; cases h
theorem RdV.struct {t : TypeId} {v : Value} {d : D} {fs : Array Field} (h : RdV P w t v d) (ht : P.underlying t = some (.struct fs)) : ∃ cs l, v = .agg cs ∧ d = .agg l ∧ Rd P w t cs.toList (.agg l) := by
  obtain ⟨h, r, b0, hv⟩ := h
  simp only [Value.okWide, ht] at hv
  obtain ⟨cs, rfl, _⟩ := hv
  simp only [Value.cells] at h
  generalize hcs : cs.toList = l0 at h
  cases h with
  | st h1 h2 h3 h4 => exact ⟨cs, _, rfl, rfl, by rw [hcs]; exact .st h1 h2 h3 h4⟩
  | ar h1 h2 h3 h4 => rw [ht] at h1; cases h1
  | b h => rw [ht] at h; cases h
  | i h _ => rw [ht] at h; cases h
  | s h _ _ => rw [ht] at h; cases h
  | sl _ h _ _ _ _ _ _ _ => rw [ht] at h; cases h
theorem RdV.array {t e : TypeId} {n : Nat} {v : Value} {d : D} (h : RdV P w t v d) (ht : P.underlying t = some (.array n e)) : ∃ cs l, v = .agg cs ∧ d = .agg l ∧ Rd P w t cs.toList (.agg l) := by
  obtain ⟨h, r, b0, hv⟩ := h
  simp only [Value.okWide, ht] at hv
  obtain ⟨cs, rfl, _⟩ := hv
  simp only [Value.cells] at h
  generalize hcs : cs.toList = l0 at h
  cases h with
  | ar h1 h2 h3 h4 => exact ⟨cs, _, rfl, rfl, by rw [hcs]; exact .ar h1 h2 h3 h4⟩
  | st h1 h2 h3 h4 => rw [ht] at h1; cases h1
  | b h => rw [ht] at h; cases h
  | i h _ => rw [ht] at h; cases h
  | s h _ _ => rw [ht] at h; cases h
  | sl _ h _ _ _ _ _ _ _ => rw [ht] at h; cases h
end

end Go.Proofs.YtkabkehfckbhcaaDoor

namespace Go.Proofs.YtkabkehfckbhcaaDoor
set_option linter.unusedVariables false
set_option linter.unusedSimpArgs false
set_option linter.unnecessarySimpa false
open Go.ChangeShapes Go.WideShapes Go.ChangeAt Go.RowKit

section
variable {P : Program} {w : World}

theorem Rd.bool_inv {t : TypeId} {cs : List Value} {d : D} (h : Rd P w t cs d) (ht : P.underlying t = some .bool) : ∃ x, cs = [.bool x] ∧ d = .b x := by
  cases h with
  | b _ => exact ⟨_, rfl, rfl⟩
  | i h _ => rw [ht] at h; cases h
  | s h _ _ => rw [ht] at h; cases h
  | st h _ _ _ => rw [ht] at h; cases h
  | ar h _ _ _ => rw [ht] at h; cases h
  | sl _ h _ _ _ _ _ _ _ => rw [ht] at h; cases h
theorem Rd.int_inv {t : TypeId} {cs : List Value} {d : D} {k : IntKind} (h : Rd P w t cs d) (ht : P.underlying t = some (.int k)) : ∃ n, cs = [.int k n] ∧ d = .i n ∧ (Lit.int k n).wf = true := by
  cases h with
  | b h => rw [ht] at h; cases h
  | i h hw => rw [ht] at h; cases h; exact ⟨_, rfl, rfl, hw⟩
  | s h _ _ => rw [ht] at h; cases h
  | st h _ _ _ => rw [ht] at h; cases h
  | ar h _ _ _ => rw [ht] at h; cases h
  | sl _ h _ _ _ _ _ _ _ => rw [ht] at h; cases h
theorem Rd.string_inv {t : TypeId} {cs : List Value} {d : D} (h : Rd P w t cs d) (ht : P.underlying t = some .string) : ∃ x : ByteArray, cs = [.string x] ∧ d = .s x ∧ x.size ≤ reachBytes := by
  cases h with
  | b h => rw [ht] at h; cases h
  | i h _ => rw [ht] at h; cases h
  | s h _ hr => exact ⟨_, rfl, rfl, hr⟩
  | st h _ _ _ => rw [ht] at h; cases h
  | ar h _ _ _ => rw [ht] at h; cases h
  | sl _ h _ _ _ _ _ _ _ => rw [ht] at h; cases h
theorem Rd.struct_inv {t : TypeId} {cs : List Value} {d : D} {fs : Array Field} (h : Rd P w t cs d) (ht : P.underlying t = some (.struct fs)) :
    ∃ l, d = .agg l ∧ cs.length = P.cellsOf t ∧ l.length = fs.size ∧ ∀ (i : Nat) (f : Field) (d : D), fs[i]? = some f → l[i]? = some d → Rd P w f.type ((cs.drop f.offset).take (P.cellsOf f.type)) d := by
  cases h with
  | b h => rw [ht] at h; cases h
  | i h _ => rw [ht] at h; cases h
  | s h _ hr => rw [ht] at h; cases h
  | st h h2 h3 h4 => rw [ht] at h; cases h; exact ⟨_, rfl, h2, h3, h4⟩
  | ar h _ _ _ => rw [ht] at h; cases h
  | sl _ h _ _ _ _ _ _ _ => rw [ht] at h; cases h
theorem Rd.array_inv {t e : TypeId} {n : Nat} {cs : List Value} {d : D} (h : Rd P w t cs d) (ht : P.underlying t = some (.array n e)) :
    ∃ l, d = .agg l ∧ cs.length = P.cellsOf t ∧ l.length = n ∧ ∀ (i : Nat) (d : D), l[i]? = some d → Rd P w e ((cs.drop (i * P.cellsOf e)).take (P.cellsOf e)) d := by
  cases h with
  | b h => rw [ht] at h; cases h
  | i h _ => rw [ht] at h; cases h
  | s h _ hr => rw [ht] at h; cases h
  | st h h2 h3 h4 => rw [ht] at h; cases h
  | ar h h2 h3 h4 => rw [ht] at h; cases h; exact ⟨_, rfl, h2, h3, h4⟩
  | sl _ h _ _ _ _ _ _ _ => rw [ht] at h; cases h
theorem Rd.slice_inv {t e : TypeId} {cs : List Value} {d : D} (h : Rd P w t cs d) (ht : P.underlying t = some (.slice e)) :
    ∃ a len cap l, cs = [.slice a len cap] ∧ d = .sl a len cap l ∧ l.length = len ∧ len ≤ cap ∧ cap ≤ maxLen ∧ cap * P.bytesOf e ≤ reachBytes ∧ (a = none → cap = 0) ∧
      ∃ cells : Nat → List Value, (∀ i, i < len → ∀ ad, a = some ad → (cells i).length = P.cellsOf e ∧ ∀ j, j < P.cellsOf e → w.cell? (ad.add (i * P.cellsOf e + j)) = (cells i)[j]?) ∧
        (∀ (i : Nat) (d : D), l[i]? = some d → Rd P w e (cells i) d) := by
  cases h with
  | b h => rw [ht] at h; cases h
  | i h _ => rw [ht] at h; cases h
  | s h _ hr => rw [ht] at h; cases h
  | st h h2 h3 h4 => rw [ht] at h; cases h
  | ar h h2 h3 h4 => rw [ht] at h; cases h
  | sl cells h1 h2 h3 h4 h5 h6 h7 h8 => rw [ht] at h1; cases h1; exact ⟨_, _, _, _, rfl, rfl, h2, h3, h4, h5, h6, cells, h7, h8⟩

/-- A slice that reads as the integers zs of kind k: it is empty, or its cells lie in one block. -/
def IsInts (k : IntKind) (w : World) (a : Option Addr) (zs : List Int) : Prop :=
  (∀ z ∈ zs, (Lit.int k z).wf = true) ∧ (zs = [] ∨ ∃ b off, a = some ⟨b, off, none⟩ ∧ b < w.heap.size ∧ ∀ i, i < zs.length → w.cell? ⟨b, off + i, none⟩ = some (.int k (zs.getD i 0)))

theorem cell?_some_lt' {w : World} {p : Addr} {v : Value} (h : w.cell? p = some v) : p.block < w.heap.size := by
  unfold World.cell? at h
  by_cases hb : p.block < w.heap.size
  · exact hb
  · rw [Array.getElem?_eq_none (by omega)] at h
    simp at h

theorem Rd.ints {t e : TypeId} {k : IntKind} {cs : List Value} {d : D} (h : Rd P w t cs d) (ht : P.underlying t = some (.slice e)) (he : P.underlying e = some (.int k)) (hce : P.cellsOf e = 1) :
    ∃ a len cap zs, cs = [.slice a len cap] ∧ d = .sl a len cap (zs.map .i) ∧ zs.length = len ∧ len ≤ cap ∧ cap ≤ maxLen ∧ cap * P.bytesOf e ≤ reachBytes ∧ (a = none → cap = 0) ∧ IsInts k w a zs := by
  obtain ⟨a, len, cap, l, rfl, rfl, h1, h2, h3, h4, h5, cells, h6, h7⟩ := h.slice_inv ht
  have key : ∀ i, i < len → ∃ n, l[i]? = some (.i n) ∧ cells i = [.int k n] ∧ (Lit.int k n).wf = true := by
    intro i hi
    obtain ⟨n, hn1, hn2, hn3⟩ := (h7 i l[i] (List.getElem?_eq_getElem (by omega))).int_inv he
    exact ⟨n, by rw [List.getElem?_eq_getElem (by omega), hn2], hn1, hn3⟩
  obtain ⟨zs, hzl, hzr⟩ := choose_list (n := len) (R := fun i z => l[i]? = some (.i z) ∧ cells i = [.int k z] ∧ (Lit.int k z).wf = true) key
  have hlz : l = zs.map .i := by
    apply List.ext_getElem?
    intro i
    by_cases hi : i < len
    · have hzi : zs[i]? = some zs[i] := List.getElem?_eq_getElem (by omega)
      rw [(hzr i _ hzi).1, List.getElem?_map, hzi]; rfl
    · rw [List.getElem?_eq_none (by omega), List.getElem?_eq_none (by simp; omega)]
  refine ⟨a, len, cap, zs, rfl, by rw [hlz], hzl, h2, h3, h4, h5, ?_, ?_⟩
  · intro z hz
    obtain ⟨i, hi, rfl⟩ := List.mem_iff_getElem.1 hz
    exact (hzr i _ (List.getElem?_eq_getElem hi)).2.2
  · by_cases hz : zs = []
    · exact .inl hz
    · right
      have hlen : 0 < len := by
        have : 0 < zs.length := List.length_pos_iff.2 hz
        omega
      cases a with
      | none => have := h5 rfl; omega
      | some ad =>
        have hc : ∀ i, i < zs.length → w.cell? (ad.add i) = some (.int k (zs.getD i 0)) := by
          intro i hi
          have hzi : zs[i]? = some zs[i] := List.getElem?_eq_getElem hi
          have := (h6 i (by omega) ad rfl).2 0 (by omega)
          rw [(hzr i _ hzi).2.1, hce] at this
          simp only [Nat.mul_one, Nat.add_zero] at this
          rw [this]
          simp [List.getD, hzi]
        obtain ⟨b, off, spot⟩ := ad
        have hspot : spot = none := by simpa [Addr.add] using World.cell?_spot (hc 0 (by omega))
        subst hspot
        have hb : b < w.heap.size := by
          have := cell?_some_lt' (hc 0 (by omega))
          simpa [Addr.add] using this
        exact ⟨b, off, rfl, hb, fun i hi => by have := hc i hi; rwa [add_plain] at this⟩

theorem RdV.ints {t e : TypeId} {k : IntKind} {v : Value} {d : D} (h : RdV P w t v d) (ht : P.underlying t = some (.slice e)) (he : P.underlying e = some (.int k)) (hce : P.cellsOf e = 1) :
    ∃ a len cap zs, v = .slice a len cap ∧ d = .sl a len cap (zs.map .i) ∧ zs.length = len ∧ len ≤ cap ∧ cap ≤ maxLen ∧ cap * P.bytesOf e ≤ reachBytes ∧ (a = none → cap = 0) ∧ IsInts k w a zs := by
  obtain ⟨a, len, cap, l, rfl, rfl, hrd⟩ := h.slice ht
  obtain ⟨a', len', cap', zs, h1, h2, h3⟩ := Rd.ints hrd ht he hce
  cases h1
  exact ⟨a, len, cap, zs, rfl, h2, h3⟩

/-- An array of integers that came in by value. -/
theorem RdV.intArray {t e : TypeId} {n : Nat} {k : IntKind} {v : Value} {d : D} (h : RdV P w t v d) (ht : P.underlying t = some (.array n e)) (he : P.underlying e = some (.int k)) (hce : P.cellsOf e = 1) (hct : P.cellsOf t = n) :
    ∃ zs : List Int, v = .agg (zs.map (Value.int k)).toArray ∧ d = .agg (zs.map .i) ∧ zs.length = n ∧ ∀ z ∈ zs, (Lit.int k z).wf = true := by
  obtain ⟨cs, l, rfl, rfl, hrd⟩ := h.array ht
  obtain ⟨l', h1, h2, h3, h4⟩ := Rd.array_inv hrd ht
  cases h1
  rw [hct] at h2
  have key : ∀ i, i < n → ∃ z, l[i]? = some (.i z) ∧ cs.toList[i]? = some (.int k z) ∧ (Lit.int k z).wf = true := by
    intro i hi
    obtain ⟨z, hz1, hz2, hz3⟩ := (h4 i l[i] (List.getElem?_eq_getElem (by omega))).int_inv he
    refine ⟨z, by rw [List.getElem?_eq_getElem (by omega), hz2], ?_, hz3⟩
    have : (((cs.toList.drop (i * P.cellsOf e)).take (P.cellsOf e)))[0]? = some (.int k z) := by rw [hz1]; rfl
    rw [hce] at this
    simpa using this
  obtain ⟨zs, hzl, hzr⟩ := choose_list key
  have hcs : cs.toList = zs.map (Value.int k) := by
    apply List.ext_getElem?
    intro i
    by_cases hi : i < n
    · have hzi : zs[i]? = some zs[i] := List.getElem?_eq_getElem (by omega)
      rw [(hzr i _ hzi).2.1, List.getElem?_map, hzi]; rfl
    · rw [List.getElem?_eq_none (by omega), List.getElem?_eq_none (by simp; omega)]
  have hl : l = zs.map .i := by
    apply List.ext_getElem?
    intro i
    by_cases hi : i < n
    · have hzi : zs[i]? = some zs[i] := List.getElem?_eq_getElem (by omega)
      rw [(hzr i _ hzi).1, List.getElem?_map, hzi]; rfl
    · rw [List.getElem?_eq_none (by omega), List.getElem?_eq_none (by simp; omega)]
  refine ⟨zs, ?_, by rw [hl], hzl, ?_⟩
  · rw [← hcs]
  · intro z hz
    obtain ⟨i, hi, rfl⟩ := List.mem_iff_getElem.1 hz
    exact (hzr i _ (List.getElem?_eq_getElem hi)).2.2
end

end Go.Proofs.YtkabkehfckbhcaaDoor

namespace Go.Proofs.YtkabkehfckbhcaaDoor
set_option linter.unusedVariables false
set_option linter.unusedSimpArgs false
open Go.ChangeShapes Go.WideShapes Go.ChangeAt Go.RowKit

section
variable {P : Program} {w : World}

/-- A field of a struct: its cells read. -/
theorem Rd.field {t : TypeId} {fs : Array Field} {cs : List Value} {d : D} (h : Rd P w t cs d) (ht : P.underlying t = some (.struct fs)) (i : Nat) (f : Field) (hf : fs[i]? = some f) :
    ∃ d', Rd P w f.type ((cs.drop f.offset).take (P.cellsOf f.type)) d' := by
  obtain ⟨l, rfl, hc, hl, hd⟩ := h.struct_inv ht
  have hi : i < fs.size := (Array.getElem?_eq_some_iff.1 hf).1
  exact ⟨_, hd i f l[i] hf (List.getElem?_eq_getElem (by omega))⟩
theorem one_cell {cs : List Value} {o : Nat} {v : Value} (h : (cs.drop o).take 1 = [v]) : cs[o]? = some v := by
  have : ((cs.drop o).take 1)[0]? = some v := by rw [h]; rfl
  simpa using this
theorem Rd.field_int {t : TypeId} {fs : Array Field} {cs : List Value} {d : D} {k : IntKind} (h : Rd P w t cs d) (ht : P.underlying t = some (.struct fs)) (i : Nat) (f : Field) (hf : fs[i]? = some f) (hk : P.underlying f.type = some (.int k)) (hc : P.cellsOf f.type = 1) :
    ∃ n, cs[f.offset]? = some (.int k n) ∧ (Lit.int k n).wf = true := by
  obtain ⟨d', hd⟩ := h.field ht i f hf
  obtain ⟨n, hn, _, hw⟩ := hd.int_inv hk
  rw [hc] at hn
  exact ⟨n, one_cell hn, hw⟩
theorem Rd.field_bool {t : TypeId} {fs : Array Field} {cs : List Value} {d : D} (h : Rd P w t cs d) (ht : P.underlying t = some (.struct fs)) (i : Nat) (f : Field) (hf : fs[i]? = some f) (hk : P.underlying f.type = some .bool) (hc : P.cellsOf f.type = 1) :
    ∃ x, cs[f.offset]? = some (.bool x) := by
  obtain ⟨d', hd⟩ := h.field ht i f hf
  obtain ⟨n, hn, _⟩ := hd.bool_inv hk
  rw [hc] at hn
  exact ⟨n, one_cell hn⟩
theorem Rd.field_ints {t e : TypeId} {fs : Array Field} {cs : List Value} {d : D} {k : IntKind} (h : Rd P w t cs d) (ht : P.underlying t = some (.struct fs)) (i : Nat) (f : Field) (hf : fs[i]? = some f) (hk : P.underlying f.type = some (.slice e)) (he : P.underlying e = some (.int k)) (hce : P.cellsOf e = 1) (hc : P.cellsOf f.type = 1) :
    ∃ a len cap zs, cs[f.offset]? = some (.slice a len cap) ∧ zs.length = len ∧ len ≤ cap ∧ cap ≤ maxLen ∧ cap * P.bytesOf e ≤ reachBytes ∧ (a = none → cap = 0) ∧ IsInts k w a zs := by
  obtain ⟨d', hd⟩ := h.field ht i f hf
  obtain ⟨a, len, cap, zs, hn, _, h1, h2, h3, h4, h5, h6⟩ := Rd.ints hd hk he hce
  rw [hc] at hn
  exact ⟨a, len, cap, zs, one_cell hn, h1, h2, h3, h4, h5, h6⟩

/-- A slice that came in, of elements of 'size' cells: its elements' cells, each read. -/
structure IsRows (P : Program) (w : World) (e : TypeId) (a : Option Addr) (len : Nat) (rows : Nat → List Value) : Prop where
  len_ : ∀ i, i < len → (rows i).length = P.cellsOf e
  rd : ∀ i, i < len → ∃ d, Rd P w e (rows i) d
  at_ : len = 0 ∨ ∃ b off, a = some ⟨b, off, none⟩ ∧ (0 < P.cellsOf e → b < w.heap.size) ∧ ∀ i, i < len → ∀ j, j < P.cellsOf e → w.cell? ⟨b, off + (i * P.cellsOf e + j), none⟩ = (rows i)[j]?

theorem Rd.rows {t e : TypeId} {cs : List Value} {d : D} (h : Rd P w t cs d) (ht : P.underlying t = some (.slice e)) (hce : 0 < P.cellsOf e) :
    ∃ a len cap rows, cs = [.slice a len cap] ∧ len ≤ cap ∧ cap ≤ maxLen ∧ cap * P.bytesOf e ≤ reachBytes ∧ (a = none → cap = 0) ∧ IsRows P w e a len rows := by
  obtain ⟨a, len, cap, l, rfl, rfl, h1, h2, h3, h4, h5, cells, h6, h7⟩ := h.slice_inv ht
  refine ⟨a, len, cap, cells, rfl, h2, h3, h4, h5, ⟨fun i hi => ?_, fun i hi => ⟨_, h7 i l[i] (List.getElem?_eq_getElem (by omega))⟩, ?_⟩⟩
  · cases a with
    | none => have := h5 rfl; omega
    | some ad => exact (h6 i hi ad rfl).1
  · by_cases hlen : len = 0
    · exact .inl hlen
    · right
      cases a with
      | none => have := h5 rfl; omega
      | some ad =>
        have hc0 := (h6 0 (by omega) ad rfl).2 0 hce
        have hl0 := (h6 0 (by omega) ad rfl).1
        have hc0' : w.cell? (ad.add (0 * P.cellsOf e + 0)) = some (cells 0)[0] := by rw [hc0]; exact List.getElem?_eq_getElem (by omega)
        obtain ⟨b, off, spot⟩ := ad
        have hspot : spot = none := by simpa [Addr.add] using World.cell?_spot hc0'
        subst hspot
        refine ⟨b, off, rfl, fun _ => ?_, fun i hi j hj => ?_⟩
        · have := cell?_some_lt' hc0'
          simpa [Addr.add] using this
        · have := (h6 i hi _ rfl).2 j hj
          rwa [add_plain] at this
theorem RdV.rows {t e : TypeId} {v : Value} {d : D} (h : RdV P w t v d) (ht : P.underlying t = some (.slice e)) (hce : 0 < P.cellsOf e) :
    ∃ a len cap rows, v = .slice a len cap ∧ len ≤ cap ∧ cap ≤ maxLen ∧ cap * P.bytesOf e ≤ reachBytes ∧ (a = none → cap = 0) ∧ IsRows P w e a len rows := by
  obtain ⟨a, len, cap, l, rfl, rfl, hrd⟩ := h.slice ht
  obtain ⟨a', len', cap', rows, h1, h2⟩ := Rd.rows hrd ht hce
  cases h1
  exact ⟨a, len, cap, rows, rfl, h2⟩
end

end Go.Proofs.YtkabkehfckbhcaaDoor

namespace Go.Proofs.YtkabkehfckbhcaaDoor
set_option linter.unusedVariables false
set_option linter.unusedSimpArgs false
set_option linter.unnecessarySimpa false
open Go.RowKit

/-- What is appended: m elements, the cells news; a nil slice holds none. -/
def Src (w : World) (size : Nat) (A : Option Addr) (m : Nat) (news : List Value) : Prop :=
  news.length = m * size ∧ (A = none → m = 0) ∧ ∀ ad, A = some ad → ∀ j u, news[j]? = some u → w.cell? (ad.add j) = some u

section
variable {P : Program} (w : World)

theorem run_append_src (base : Nat) (t ty e : TypeId) (i : TypeInfo) (z : Value) (size bytes : Nat) (ht : P.underlying t = some (.slice e)) (hi : P.info? e = some i) (hz : i.zero = some z)
    (hsize : i.size = size) (hby : i.bytes = bytes) (hzs : z.cells.size = size) (hsz : 0 < size)
    (v : Value) (n : Nat) (xs : List Value) (hown : w.ownsRow base e size v n xs)
    (A : Option Addr) (m c : Nat) (news : List Value) (hsrc : Src w size A m news) (hc0 : A = none → c = 0) (h1 : ∀ u ∈ news, u.oneCell' = true)
    (h63 : n + m ≤ maxLen) (hbytes : (n + m) * bytes ≤ 140737488355328) (hbase : base ≤ w.heap.size) :
    ∃ v' w', (Builtin.append_ #[t, t] ty #[v, .slice A m c]).run P w = .ok v' w' ∧ w'.ownsRow base e size v' (n + m) (xs ++ news) ∧ w.grownBy w' v.ownBlock ∧ (v'.ownBlock = v.ownBlock ∨ v'.ownBlock = some w.heap.size) := by
  obtain ⟨hl, hnil, hcells⟩ := hsrc
  cases A with
  | none =>
    obtain rfl := hnil rfl
    obtain rfl := hc0 rfl
    obtain rfl : news = [] := List.eq_nil_of_length_eq_zero (by simpa using hl)
    have hrun := run_append_owned_none (P := P) w base t ty e i size ht hi v n xs hown
    exact ⟨v, w, hrun, by simpa using hown, World.grownBy.refl w _, .inl rfl⟩
  | some ad =>
    obtain ⟨v', w', hrun, h2, h3, _, h5⟩ := run_append_own_at (P := P) w base t ty e i z size bytes ht hi hz hsize hby hzs hsz v n xs hown ad m c news hl (hcells ad rfl) h1 h63 hbytes hbase
    exact ⟨v', w', hrun, h2, h3, h5⟩

theorem wp_append_src {o : Oper} {a : Act} {K : Act → World → Prop} {Q : Exit → Act → World → Prop} (s x : Operand) (t : TypeId)
    (ho : o.op = .call { callee := .builtin .append, args := #[s, x], argTypes := #[t, t] })
    (base : Nat) (e : TypeId) (i : TypeInfo) (z : Value) (size bytes : Nat) (ht : P.underlying t = some (.slice e)) (hi : P.info? e = some i) (hz : i.zero = some z)
    (hsize : i.size = size) (hby : i.bytes = bytes) (hzs : z.cells.size = size) (hsz : 0 < size)
    (v : Value) (n : Nat) (xs : List Value) (hs : a.eval s = v) (hown : w.ownsRow base e size v n xs)
    (A : Option Addr) (m c : Nat) (news : List Value) (hx : a.eval x = .slice A m c) (hsrc : Src w size A m news) (hc0 : A = none → c = 0) (h1 : ∀ u ∈ news, u.oneCell' = true)
    (h63 : n + m ≤ maxLen) (hbytes : (n + m) * bytes ≤ 140737488355328) (hbase : base ≤ w.heap.size)
    (h : ∀ v' w', w'.ownsRow base e size v' (n + m) (xs ++ news) → w.grownBy w' v.ownBlock → (v'.ownBlock = v.ownBlock ∨ v'.ownBlock = some w.heap.size) → K (a.put o.dst v') w') : o.wp P a w K Q := by
  obtain ⟨v', w', hrun, h2, h3, h4⟩ := run_append_src (P := P) w base t o.type e i z size bytes ht hi hz hsize hby hzs hsz v n xs hown A m c news hsrc hc0 h1 h63 hbytes hbase
  unfold Oper.wp
  simp [execOp, ho, resolve, invoke, builtin, hs, hx, hrun, Result.andThen]
  exact h v' w' h2 h3 h4

theorem wpList_append_src {ops : Array Oper} {rest : List Oper} {o : Oper} {a : Act} {Q : Exit → Act → World → Prop} (hgd : o.guard = none) (s x : Operand) (t : TypeId)
    (ho : o.op = .call { callee := .builtin .append, args := #[s, x], argTypes := #[t, t] })
    (base : Nat) (e : TypeId) (i : TypeInfo) (z : Value) (size bytes : Nat) (ht : P.underlying t = some (.slice e)) (hi : P.info? e = some i) (hz : i.zero = some z)
    (hsize : i.size = size) (hby : i.bytes = bytes) (hzs : z.cells.size = size) (hsz : 0 < size)
    (v : Value) (n : Nat) (xs : List Value) (hs : a.eval s = v) (hown : w.ownsRow base e size v n xs)
    (A : Option Addr) (m c : Nat) (news : List Value) (hx : a.eval x = .slice A m c) (hsrc : Src w size A m news) (hc0 : A = none → c = 0) (h1 : ∀ u ∈ news, u.oneCell' = true)
    (h63 : n + m ≤ maxLen) (hbytes : (n + m) * bytes ≤ 140737488355328) (hbase : base ≤ w.heap.size)
    (h : ∀ v' w', w'.ownsRow base e size v' (n + m) (xs ++ news) → w.grownBy w' v.ownBlock → (v'.ownBlock = v.ownBlock ∨ v'.ownBlock = some w.heap.size) → wpList P ops Q rest (a.put o.dst v') w') : wpList P ops Q (o :: rest) a w :=
  wpList_plain hgd fun _ hK => wp_append_src w s x t ho base e i z size bytes ht hi hz hsize hby hzs hsz v n xs hs hown A m c news hx hsrc hc0 h1 h63 hbytes hbase fun v' w' h2 h3 h4 => hK _ _ (h v' w' h2 h3 h4)

theorem step_append_src {ops : Array Oper} {o : Oper} {a : Act} {K : Act → World → Prop} {Q : Exit → Act → World → Prop} {E : Prop} (hgd : o.guard = none) (s x : Operand) (t : TypeId)
    (ho : o.op = .call { callee := .builtin .append, args := #[s, x], argTypes := #[t, t] })
    (base : Nat) (e : TypeId) (i : TypeInfo) (z : Value) (size bytes : Nat) (ht : P.underlying t = some (.slice e)) (hi : P.info? e = some i) (hz : i.zero = some z)
    (hsize : i.size = size) (hby : i.bytes = bytes) (hzs : z.cells.size = size) (hsz : 0 < size)
    (v : Value) (n : Nat) (xs : List Value) (hs : a.eval s = v) (hown : w.ownsRow base e size v n xs)
    (A : Option Addr) (m c : Nat) (news : List Value) (hx : a.eval x = .slice A m c) (hsrc : Src w size A m news) (hc0 : A = none → c = 0) (h1 : ∀ u ∈ news, u.oneCell' = true)
    (h63 : n + m ≤ maxLen) (hbytes : (n + m) * bytes ≤ 140737488355328) (hbase : base ≤ w.heap.size)
    (h : ∀ v' w', w'.ownsRow base e size v' (n + m) (xs ++ news) → w.grownBy w' v.ownBlock → (v'.ownBlock = v.ownBlock ∨ v'.ownBlock = some w.heap.size) → K (a.put o.dst v') w') :
    if Region.wanted o (yielded ops a.tmps) = true then Oper.wp P o a w K Q else E := by
  rw [if_pos (by simp [Region.wanted, hgd])]
  exact wp_append_src w s x t ho base e i z size bytes ht hi hz hsize hby hzs hsz v n xs hs hown A m c news hx hsrc hc0 h1 h63 hbytes hbase h
end

end Go.Proofs.YtkabkehfckbhcaaDoor

namespace Go.Proofs.YtkabkehfckbhcaaDoor
set_option linter.unusedVariables false
set_option linter.unusedSimpArgs false
set_option linter.unnecessarySimpa false
open Go.RowKit

/-- The slice that begins at 'a' reads as the bytes l. -/
def IsBytes (w : World) (a : Option Addr) (l : List Nat) : Prop :=
  (∀ c ∈ l, c < 256) ∧ (l = [] ∨ ∃ b off, a = some ⟨b, off, none⟩ ∧ ∀ i, i < l.length → w.cell? ⟨b, off + i, none⟩ = some (.int .u8 (l.getD i 0 : Nat)))

theorem cell?_some_lt {w : World} {p : Addr} {v : Value} (h : w.cell? p = some v) : p.block < w.heap.size := by
  unfold World.cell? at h
  by_cases hb : p.block < w.heap.size
  · exact hb
  · rw [Array.getElem?_eq_none (by omega)] at h
    simp at h
theorem IsBytes.alloc {w : World} {a : Option Addr} {l : List Nat} (h : IsBytes w a l) (o : Obj) : IsBytes (w.alloc o) a l := by
  refine ⟨h.1, h.2.imp id ?_⟩
  rintro ⟨b, off, rfl, hc⟩
  refine ⟨b, off, rfl, fun i hi => ?_⟩
  have := hc i hi
  rw [World.cell?_alloc_lt w o _ (cell?_some_lt this)]
  exact this
theorem nat_of_u32 {x : Int} (h : (Lit.int .u32 x).wf = true) : ∃ n : Nat, x = (n : Int) ∧ n < 4294967296 := by
  simp only [Lit.wf, IntKind.min, IntKind.max, IntKind.signed, IntKind.bits, Bool.and_eq_true] at h
  exact ⟨x.toNat, by simp at h; omega, by simp at h; omega⟩
theorem nat_of_u8 {x : Int} (h : (Lit.int .u8 x).wf = true) : ∃ n : Nat, x = (n : Int) ∧ n < 256 := by
  simp only [Lit.wf, IntKind.min, IntKind.max, IntKind.signed, IntKind.bits, Bool.and_eq_true] at h
  exact ⟨x.toNat, by simp at h; omega, by simp at h; omega⟩

/-- A row of bytes as it came in, told in natural numbers. -/
theorem IsInts.bytes {w : World} {a : Option Addr} {zs : List Int} (h : IsInts .u8 w a zs) : ∃ l : List Nat, l.length = zs.length ∧ IsBytes w a l ∧ ∀ x, a = some x → l ≠ [] → x.block < w.heap.size := by
  refine ⟨zs.map Int.toNat, by simp, ⟨?_, ?_⟩, ?_⟩
  · intro c hc
    obtain ⟨z, hz, rfl⟩ := List.mem_map.1 hc
    obtain ⟨n, rfl, hn⟩ := nat_of_u8 (h.1 z hz)
    simpa using hn
  · rcases h.2 with rfl | ⟨b, off, rfl, _, hc⟩
    · exact .inl rfl
    · refine .inr ⟨b, off, rfl, fun i hi => ?_⟩
      simp only [List.length_map] at hi
      rw [hc i hi]
      have hz : zs[i] ∈ zs := List.getElem_mem hi
      obtain ⟨n, hn, _⟩ := nat_of_u8 (h.1 _ hz)
      simp [List.getD, hi, hn]
  · rintro x rfl hne
    rcases h.2 with rfl | ⟨b, off, he, hb, _⟩
    · exact absurd rfl hne
    · cases he; exact hb

theorem IsBytes.of_below {w w' : World} {a : Option Addr} {l : List Nat} (h : IsBytes w a l) (hb : Below w.heap.size w w') : IsBytes w' a l := by
  refine ⟨h.1, h.2.imp id ?_⟩
  rintro ⟨b, off, rfl, hc⟩
  exact ⟨b, off, rfl, fun i hi => (hb.cell (p := ⟨b, off + i, none⟩) (cell?_some_lt (hc i hi))).trans (hc i hi)⟩

/-- Bytes as values. -/
def bv (l : List Nat) : List Value := l.map fun (c : Nat) => Value.int .u8 (c : Int)
theorem bv_append (l m : List Nat) : bv (l ++ m) = bv l ++ bv m := by simp [bv]
theorem bv_length (l : List Nat) : (bv l).length = l.length := by simp [bv]
theorem bv_one (l : List Nat) : ∀ u ∈ bv l, u.oneCell' = true := by
  intro u hu
  obtain ⟨_, _, rfl⟩ := List.mem_map.1 hu
  rfl
theorem bv_get (l : List Nat) (i : Nat) (h : i < l.length) : (bv l)[i]? = some (.int .u8 ((l.getD i 0 : Nat) : Int)) := by
  simp [bv, List.getD, h]

theorem Tryd.info8 : (Tryd.prog.info? 5).map (fun i => (i.zero, i.size, i.bytes)) = some (some (.int .u8 0), 1, 1) := by kernel_rfl

/-- A row of bytes that the call owns: from base on; the value v holds l. -/
def Own (w : World) (base : Nat) (v : Value) (l : List Nat) : Prop := w.ownsRow base 5 1 v l.length (bv l) ∧ ∀ c ∈ l, c < 256

theorem Own.nil (w : World) (base : Nat) : Own w base (.slice none 0 0) [] := ⟨World.ownsRow_nil w base _ 1, by simp⟩
theorem Own.form {w : World} {base : Nat} {v : Value} {l : List Nat} (h : Own w base v l) : ∃ a cap, v = .slice a l.length cap ∧ IsBytes w a l ∧ l.length ≤ cap ∧ cap ≤ maxLen ∧ (∀ x, a = some x → base ≤ x.block ∧ x.block < w.heap.size) := by
  obtain ⟨⟨h1, h2⟩, h3⟩ := h
  rcases h2 with ⟨rfl, h0⟩ | ⟨g, cap, cur, rfl, hg, hh, hn, hcap, hsz, htake⟩
  · have : l = [] := List.length_eq_zero_iff.1 h0
    subst this
    exact ⟨none, 0, rfl, ⟨by simp, .inl rfl⟩, by simp, by unfold maxLen; omega, by simp⟩
  · refine ⟨some ⟨g, 0, none⟩, cap, rfl, ⟨h3, ?_⟩, hn, hcap, ?_⟩
    · by_cases hl : l = []
      · exact .inl hl
      · refine .inr ⟨g, 0, rfl, fun i hi => ?_⟩
        have hc : w.cell? ⟨g, 0 + i, none⟩ = cur[0 + i]? := by unfold World.cell?; rw [hh]; simp
        rw [hc, Nat.zero_add]
        have : (cur.toList.take (l.length * 1))[i]? = (bv l)[i]? := by rw [htake]
        rw [bv_get l i hi] at this
        rw [List.getElem?_take] at this
        rw [if_pos (by omega)] at this
        simpa using this
    · intro x hx
      cases hx
      refine ⟨hg, ?_⟩
      by_cases hb : g < w.heap.size
      · exact hb
      · rw [Array.getElem?_eq_none (by omega)] at hh; cases hh
theorem Own.block {w : World} {base : Nat} {v : Value} {l : List Nat} (h : Own w base v l) (hne : l ≠ []) : ∃ g cap, v = .slice (some ⟨g, 0, none⟩) l.length cap ∧ IsBytes w (some ⟨g, 0, none⟩) l ∧ (∀ i, w.frozen? ⟨g, i, none⟩ = false) ∧ base ≤ g ∧ g < w.heap.size ∧ l.length ≤ cap ∧ cap ≤ maxLen := by
  obtain ⟨a, cap, rfl, hb, hc, hm, hx⟩ := h.form
  obtain ⟨b, off, rfl, hcs⟩ := hb.2.resolve_left hne
  obtain ⟨⟨h1, h2⟩, h3⟩ := h
  rcases h2 with ⟨h2, _⟩ | ⟨g, cap', cur, h2, hg, hh, hn, hcap, hsz, htake⟩
  · cases h2
  · cases h2
    exact ⟨b, cap, rfl, hb, fun i => by unfold World.frozen?; rw [hh]; simp, hg, (hx _ rfl).2, hc, hm⟩
theorem Own.grown {w w' : World} {base : Nat} {v : Value} {l : List Nat} {row : Option Nat} (h : Own w base v l) (hg : w.grownBy w' row) (hr : v.ownBlock ≠ row ∨ v.ownBlock = none) : Own w' base v l := by
  obtain ⟨⟨h1, h2⟩, h3⟩ := h
  refine ⟨⟨h1, ?_⟩, h3⟩
  rcases h2 with h2 | ⟨g, cap, cur, rfl, hg', hh, r⟩
  · exact .inl h2
  · refine .inr ⟨g, cap, cur, rfl, hg', ?_, r⟩
    have hlt : g < w.heap.size := by
      by_cases hb : g < w.heap.size
      · exact hb
      · rw [Array.getElem?_eq_none (by omega)] at hh; cases hh
    rw [hg.block g hlt (by rcases hr with hr | hr <;> simp_all [Value.ownBlock])]
    exact hh
theorem Own.below {w w' : World} {base : Nat} {v : Value} {l : List Nat} (h : Own w base v l) (hb : Below w.heap.size w w') : Own w' base v l :=
  h.grown (row := none) ⟨hb.os, hb.tape, hb.output, hb.size, fun k hk _ => hb.block k hk⟩ (by cases hv : v.ownBlock <;> simp)
theorem Own.drew {w : World} {base : Nat} {v : Value} {l : List Nat} (h : Own w base v l) : Own w.drew base v l := h
theorem Own.alloc {w : World} {base : Nat} {v : Value} {l : List Nat} (h : Own w base v l) (o : Obj) : Own (w.alloc o) base v l := h.below ((Below.refl _ _).alloc (Nat.le_refl _) o)

theorem src_of_bytes {w : World} {a : Option Addr} {l : List Nat} (h : IsBytes w a l) : Src w 1 a l.length (bv l) := by
  refine ⟨by simp [bv_length], fun ha => ?_, fun ad had j u hu => ?_⟩
  · rcases h.2 with rfl | ⟨b, off, he, _⟩
    · rfl
    · rw [ha] at he; cases he
  · have hj : j < l.length := by
      have := (List.getElem?_eq_some_iff.1 hu).1
      simpa [bv_length] using this
    rcases h.2 with rfl | ⟨b, off, he, hc⟩
    · simp at hj
    · rw [had] at he
      cases he
      rw [Go.WideShapes.add_plain, hc j hj, ← hu, bv_get l j hj]

theorem grown_below {w w' : World} {B : Nat} {row : Option Nat} (hg : w.grownBy w' row) (hB : B ≤ w.heap.size) (hr : ∀ k, row = some k → B ≤ k) : Below B w w' := (Below.refl B w).grown hg hB hr
theorem Own.base_le {w : World} {base : Nat} {v : Value} {l : List Nat} (h : Own w base v l) : ∀ k, v.ownBlock = some k → base ≤ k := by
  intro k hk
  rcases h.1.2 with ⟨rfl, _⟩ | ⟨g, cap, cur, rfl, hg, _⟩
  · simp [Value.ownBlock] at hk
  · simp [Value.ownBlock] at hk; omega

theorem IsBytes.of_below_drew {w w' : World} {a : Option Addr} {l : List Nat} (h : IsBytes w a l) (hb : Below w.heap.size w.drew w') : IsBytes w' a l :=
  IsBytes.of_below (w := w.drew) h hb

/-- append, at a step of a region that draws its order. -/
theorem step_app {ops : Array Oper} {o : Oper} {a : Act} {w : World} {K : Act → World → Prop} {Q : Exit → Act → World → Prop} {E : Prop} (hgd : o.guard = none) (s x : Operand)
    (ho : o.op = .call { callee := .builtin .append, args := #[s, x], argTypes := #[91, 91] })
    (base : Nat) (v : Value) (l : List Nat) (hs : a.eval s = v) (hown : Own w base v l) (A : Option Addr) (c : Nat) (m : List Nat) (hx : a.eval x = .slice A m.length c) (hsrc : IsBytes w A m) (hc0 : A = none → c = 0)
    (hlen : l.length + m.length ≤ 140737488355328) (hbase : base ≤ w.heap.size)
    (h : ∀ v' w', Own w' base v' (l ++ m) → Below base w w' → w.grownBy w' v.ownBlock → K (a.put o.dst v') w') :
    if Region.wanted o (yielded ops a.tmps) = true then Oper.wp Tryd.prog o a w K Q else E := by
  obtain ⟨i0, hi, hz0, hz1, hz2⟩ := info_parts Tryd.info8
  refine step_append_src w hgd s x 91 ho base 5 i0 (.int .u8 0) 1 1 Tryd.underlying91 hi hz0 hz1 hz2 rfl (by decide) v l.length (bv l) hs hown.1 A m.length c (bv m) hx (src_of_bytes hsrc) hc0 (bv_one m)
    (by unfold maxLen; omega) (by omega) hbase fun v' w' h2 h3 _ => ?_
  refine h v' w' ⟨by rw [bv_append, List.length_append]; exact h2, ?_⟩ ((Below.refl base w).grown h3 hbase hown.base_le) h3
  intro c hc
  rcases List.mem_append.1 hc with hc | hc
  · exact hown.2 c hc
  · exact hsrc.1 c hc

/-- append, at a list of operations. -/
theorem wpList_app {ops : Array Oper} {rest : List Oper} {o : Oper} {a : Act} {w : World} {Q : Exit → Act → World → Prop} (hgd : o.guard = none) (s x : Operand)
    (ho : o.op = .call { callee := .builtin .append, args := #[s, x], argTypes := #[91, 91] })
    (base : Nat) (v : Value) (l : List Nat) (hs : a.eval s = v) (hown : Own w base v l) (A : Option Addr) (c : Nat) (m : List Nat) (hx : a.eval x = .slice A m.length c) (hsrc : IsBytes w A m) (hc0 : A = none → c = 0)
    (hlen : l.length + m.length ≤ 140737488355328) (hbase : base ≤ w.heap.size)
    (h : ∀ v' w', Own w' base v' (l ++ m) → Below base w w' → w.grownBy w' v.ownBlock → (v'.ownBlock = v.ownBlock ∨ v'.ownBlock = some w.heap.size) → wpList Tryd.prog ops Q rest (a.put o.dst v') w') :
    wpList Tryd.prog ops Q (o :: rest) a w := by
  obtain ⟨i0, hi, hz0, hz1, hz2⟩ := info_parts Tryd.info8
  refine wpList_append_src w hgd s x 91 ho base 5 i0 (.int .u8 0) 1 1 Tryd.underlying91 hi hz0 hz1 hz2 rfl (by decide) v l.length (bv l) hs hown.1 A m.length c (bv m) hx (src_of_bytes hsrc) hc0 (bv_one m)
    (by unfold maxLen; omega) (by omega) hbase fun v' w' h2 h3 h4 => ?_
  refine h v' w' ⟨by rw [bv_append, List.length_append]; exact h2, ?_⟩ ((Below.refl base w).grown h3 hbase hown.base_le) h3 h4
  intro c hc
  rcases List.mem_append.1 hc with hc | hc
  · exact hown.2 c hc
  · exact hsrc.1 c hc

/-- The same, the source's length spelled otherwise. -/
theorem wpList_app' {ops : Array Oper} {rest : List Oper} {o : Oper} {a : Act} {w : World} {Q : Exit → Act → World → Prop} (hgd : o.guard = none) (s x : Operand)
    (ho : o.op = .call { callee := .builtin .append, args := #[s, x], argTypes := #[91, 91] })
    (base : Nat) (v : Value) (l : List Nat) (hs : a.eval s = v) (hown : Own w base v l) (A : Option Addr) (k c : Nat) (m : List Nat) (hx : a.eval x = .slice A k c) (hk : k = m.length) (hsrc : IsBytes w A m) (hc0 : A = none → c = 0)
    (hlen : l.length + m.length ≤ 140737488355328) (hbase : base ≤ w.heap.size)
    (h : ∀ v' w', Own w' base v' (l ++ m) → Below base w w' → w.grownBy w' v.ownBlock → (v'.ownBlock = v.ownBlock ∨ v'.ownBlock = some w.heap.size) → wpList Tryd.prog ops Q rest (a.put o.dst v') w') :
    wpList Tryd.prog ops Q (o :: rest) a w := by
  subst hk
  exact wpList_app hgd s x ho base v l hs hown A c m hx hsrc hc0 hlen hbase h

theorem step_app' {ops : Array Oper} {o : Oper} {a : Act} {w : World} {K : Act → World → Prop} {Q : Exit → Act → World → Prop} {E : Prop} (hgd : o.guard = none) (s x : Operand)
    (ho : o.op = .call { callee := .builtin .append, args := #[s, x], argTypes := #[91, 91] })
    (base : Nat) (v : Value) (l : List Nat) (hs : a.eval s = v) (hown : Own w base v l) (A : Option Addr) (k c : Nat) (m : List Nat) (hx : a.eval x = .slice A k c) (hk : k = m.length) (hsrc : IsBytes w A m) (hc0 : A = none → c = 0)
    (hlen : l.length + m.length ≤ 140737488355328) (hbase : base ≤ w.heap.size)
    (h : ∀ v' w', Own w' base v' (l ++ m) → Below base w w' → w.grownBy w' v.ownBlock → K (a.put o.dst v') w') :
    if Region.wanted o (yielded ops a.tmps) = true then Oper.wp Tryd.prog o a w K Q else E := by
  subst hk
  exact step_app hgd s x ho base v l hs hown A c m hx hsrc hc0 hlen hbase h

end Go.Proofs.YtkabkehfckbhcaaDoor

namespace Go.Proofs.YtkabkehfckbhcaaDoor
set_option linter.unusedVariables false
set_option linter.unusedSimpArgs false
set_option linter.unnecessarySimpa false
open Go.RowKit

/-- Block b holds just these cells. -/
def IsBlk (w : World) (b : Nat) (cs : Array Value) (t : TypeId) : Prop := w.heap[b]? = some (.cells cs t)

section
variable {w : World} {b : Nat} {cs : Array Value} {t : TypeId}
theorem IsBlk.cell (h : IsBlk w b cs t) (i : Nat) {v : Value} (hv : cs[i]? = some v) : w.cell? ⟨b, i, none⟩ = some v := by
  have h' : w.heap[b]? = some (.cells cs t) := h
  unfold World.cell?; rw [h']; simpa using hv
theorem IsBlk.fz (h : IsBlk w b cs t) (i : Nat) : w.frozen? ⟨b, i, none⟩ = false := by
  have h' : w.heap[b]? = some (.cells cs t) := h
  unfold World.frozen?; rw [h']; simp
theorem IsBlk.lt (h : IsBlk w b cs t) : b < w.heap.size := by
  have h' : w.heap[b]? = some (.cells cs t) := h
  by_cases hb : b < w.heap.size
  · exact hb
  · rw [Array.getElem?_eq_none (by omega)] at h'; cases h'
theorem IsBlk.of_block {w' : World} (h : IsBlk w b cs t) (h1 : w'.heap[b]? = w.heap[b]?) : IsBlk w' b cs t := h1.trans h
theorem IsBlk.set (h : IsBlk w b cs t) (o : Nat) (v : Value) : IsBlk (w.setCell ⟨b, o, none⟩ v) b (cs.setIfInBounds o v) t := by
  have h' : w.heap[b]? = some (.cells cs t) := h
  show (w.setCell ⟨b, o, none⟩ v).heap[b]? = _
  simp only [World.setCell, Array.getElem?_modify, h']
  simp
theorem IsBlk.setOther (h : IsBlk w b cs t) (p : Addr) (v : Value) (hne : b ≠ p.block) : IsBlk (w.setCell p v) b cs t :=
  h.of_block (Below.heap_setCell w p v b hne)
theorem IsBlk.alloc (h : IsBlk w b cs t) (o : Obj) : IsBlk (w.alloc o) b cs t := h.of_block (Below.heap_alloc w o b h.lt)
theorem IsBlk.new (w : World) (cs : Array Value) (t : TypeId) : IsBlk (w.alloc (.cells cs t)) w.heap.size cs t := by
  show (w.heap.push _)[w.heap.size]? = _
  simp
theorem IsBlk.below {w' : World} {B : Nat} (h : IsBlk w b cs t) (hb : Below B w w') (hB : b < B) : IsBlk w' b cs t := h.of_block (hb.block b hB)
theorem IsBlk.drewN (h : IsBlk w b cs t) (n : Nat) : IsBlk (w.drewN n) b cs t := h
theorem IsBlk.grown {w' : World} {row : Option Nat} (h : IsBlk w b cs t) (hg : w.grownBy w' row) (hr : row ≠ some b) : IsBlk w' b cs t :=
  h.of_block (hg.block b h.lt (fun e => hr e.symm))
end

/-- What was at w is as it was, but for the blocks in S. -/
structure But (S : Nat → Prop) (w w' : World) : Prop where
  os : w'.os = w.os
  tape : w'.tape = w.tape
  output : w'.output = w.output
  size : w.heap.size ≤ w'.heap.size
  block : ∀ k, k < w.heap.size → ¬ S k → w'.heap[k]? = w.heap[k]?

section
variable {S : Nat → Prop} {w w' w'' : World}
theorem But.refl (S : Nat → Prop) (w : World) : But S w w := ⟨rfl, rfl, rfl, Nat.le_refl _, fun _ _ _ => rfl⟩
theorem But.trans (h : But S w w') (k : But S w' w'') : But S w w'' :=
  ⟨k.os.trans h.os, k.tape.trans h.tape, k.output.trans h.output, Nat.le_trans h.size k.size, fun j hj hs => (k.block j (Nat.lt_of_lt_of_le hj h.size) hs).trans (h.block j hj hs)⟩
theorem But.mono {S' : Nat → Prop} (h : But S w w') (hs : ∀ k, S k → S' k) : But S' w w' := ⟨h.os, h.tape, h.output, h.size, fun k hk hn => h.block k hk (fun a => hn (hs k a))⟩
theorem But.setCell (h : But S w w') {p : Addr} (hp : S p.block) (v : Value) : But S w (w'.setCell p v) :=
  h.trans ⟨rfl, rfl, rfl, by simp [World.setCell], fun k _ hn => Below.heap_setCell w' p v k (fun e => hn (e ▸ hp))⟩
theorem But.alloc (h : But S w w') (o : Obj) : But S w (w'.alloc o) :=
  h.trans ⟨rfl, rfl, rfl, by simp, fun k hk _ => Below.heap_alloc _ _ _ hk⟩
theorem But.grown {row : Option Nat} (h : But S w w') (hg : w'.grownBy w'' row) (hr : ∀ k, row = some k → S k) : But S w w'' :=
  h.trans ⟨hg.os, hg.tape, hg.output, hg.size, fun k hk hn => hg.block k hk (fun e => hn (hr k e.symm))⟩
theorem But.drewN (h : But S w w') (n : Nat) : But S w (w'.drewN n) := h.trans ⟨rfl, rfl, rfl, Nat.le_refl _, fun _ _ _ => rfl⟩
theorem But.below {B : Nat} (h : But S w w') (hB : B ≤ w.heap.size) (hs : ∀ k, S k → B ≤ k) : Below B w w' :=
  ⟨h.os, h.tape, h.output, h.size, fun k hk => h.block k (by omega) (fun a => by have := hs k a; omega)⟩
theorem But.of_below {B : Nat} (h : Below B w w') (hB : w.heap.size ≤ B) : But S w w' := ⟨h.os, h.tape, h.output, h.size, fun k hk _ => h.block k (by omega)⟩
theorem But.own {base : Nat} {v : Value} {l : List Nat} (h : But S w w') (ho : Own w base v l) (hv : ∀ k, v.ownBlock = some k → ¬ S k) : Own w' base v l := by
  obtain ⟨⟨h1, h2⟩, h3⟩ := ho
  refine ⟨⟨h1, ?_⟩, h3⟩
  rcases h2 with h2 | ⟨g, cap, cur, rfl, hg', hh, r⟩
  · exact .inl h2
  · refine .inr ⟨g, cap, cur, rfl, hg', ?_, r⟩
    have hlt : g < w.heap.size := by
      by_cases hb : g < w.heap.size
      · exact hb
      · rw [Array.getElem?_eq_none (by omega)] at hh; cases hh
    rw [h.block g hlt (hv g (by simp [Value.ownBlock]))]
    exact hh
theorem But.blk {b : Nat} {cs : Array Value} {t : TypeId} (h : But S w w') (hb : IsBlk w b cs t) (hs : ¬ S b) : IsBlk w' b cs t := hb.of_block (h.block b hb.lt hs)
theorem But.cell (h : But S w w') {p : Addr} (hp : p.block < w.heap.size) (hs : ¬ S p.block) : w'.cell? p = w.cell? p := World.cell?_of_block (w := w) (h.block _ hp hs)
end
theorem Own.lt {w : World} {base : Nat} {v : Value} {l : List Nat} (h : Own w base v l) : ∀ k, v.ownBlock = some k → k < w.heap.size := by
  intro k hk
  rcases h.1.2 with ⟨rfl, _⟩ | ⟨g, cap, cur, rfl, hg, hh, _⟩
  · simp [Value.ownBlock] at hk
  · simp [Value.ownBlock] at hk
    subst hk
    by_cases hb : g < w.heap.size
    · exact hb
    · rw [Array.getElem?_eq_none (by omega)] at hh; cases hh
theorem Own.mono {w : World} {base base' : Nat} {v : Value} {l : List Nat} (h : Own w base v l) (hb : base' ≤ base) : Own w base' v l := by
  obtain ⟨⟨h1, h2⟩, h3⟩ := h
  refine ⟨⟨h1, ?_⟩, h3⟩
  rcases h2 with h2 | ⟨g, cap, cur, rfl, hg', r⟩
  · exact .inl h2
  · exact .inr ⟨g, cap, cur, rfl, by omega, r⟩
/-- Where a value's block went: it stayed, or it is new. -/
def Moved (w : World) (v v' : Value) : Prop := v'.ownBlock = v.ownBlock ∨ v'.ownBlock = some w.heap.size
/-- Bytes that came in, and a block that is none of those that were written. -/
theorem But.bytes {S : Nat → Prop} {w w' : World} {a : Option Addr} {l : List Nat} (h : But S w w') (hl : IsBytes w a l) (hs : ∀ x, a = some x → l ≠ [] → ¬ S x.block) : IsBytes w' a l := by
  by_cases hne : l = []
  · subst hne; exact ⟨hl.1, .inl rfl⟩
  · refine ⟨hl.1, hl.2.imp id ?_⟩
    rintro ⟨b, off, rfl, hc⟩
    exact ⟨b, off, rfl, fun i hi => (h.cell (p := ⟨b, off + i, none⟩) (cell?_some_lt (hc i hi)) (hs ⟨b, off, none⟩ rfl hne : ¬ S b)).trans (hc i hi)⟩

theorem Own.slice {w : World} {base : Nat} {v : Value} {l : List Nat} (h : Own w base v l) : ∃ a len cap, v = .slice a len cap ∧ Hid (len = l.length) := by
  obtain ⟨a, cap, rfl, _⟩ := h.form
  exact ⟨a, _, cap, rfl, Lib.hid rfl⟩

theorem Own.capz {w : World} {base n cap : Nat} {a : Option Addr} {l : List Nat} (h : Own w base (.slice a n cap) l) : a = none → cap = 0 := by
  intro ha
  rcases h.1.2 with ⟨h1, _⟩ | ⟨g, cap', cur, h1, _⟩
  · injection h1
  · injection h1 with h1; rw [ha] at h1; cases h1

theorem IsBlk.drew {w : World} {b : Nat} {cs : Array Value} {t : TypeId} (h : IsBlk w b cs t) : IsBlk w.drew b cs t := h
theorem But.drew {S : Nat → Prop} {w w' : World} (h : But S w w') : But S w w'.drew := h.trans ⟨rfl, rfl, rfl, Nat.le_refl _, fun _ _ _ => rfl⟩
theorem But.setNew {S : Nat → Prop} {w w' : World} (h : But S w w') {p : Addr} (hp : w.heap.size ≤ p.block) (v : Value) : But S w (w'.setCell p v) :=
  ⟨h.os, h.tape, h.output, by have := h.size; simp [World.setCell]; omega, fun k hk hn => (Below.heap_setCell w' p v k (by omega)).trans (h.block k hk hn)⟩

end Go.Proofs.YtkabkehfckbhcaaDoor

namespace Go.Proofs.YtkabkehfckbhcaaDoor
set_option linter.unusedVariables false
set_option linter.unusedSimpArgs false
open Go.RowKit

section
variable {α : Type} {f : α → List Value} {c : Nat}

theorem flat_length {l : List α} (hf : ∀ x ∈ l, (f x).length = c) : (l.flatMap f).length = l.length * c := by
  induction l with
  | nil => simp
  | cons x r ih =>
    have h1 := ih (fun y hy => hf y (by simp [hy]))
    have h2 := hf x (by simp)
    rw [List.flatMap_cons, List.length_append, h1, h2, List.length_cons, Nat.add_mul]
    omega
theorem flat_get {l : List α} (hf : ∀ x ∈ l, (f x).length = c) : ∀ {k j : Nat} {x : α}, l[k]? = some x → j < c → (l.flatMap f)[k * c + j]? = (f x)[j]? := by
  induction l with
  | nil => intro k j x h; simp at h
  | cons y r ih =>
    intro k j x h hj
    have h2 := hf y (by simp)
    rw [List.flatMap_cons]
    cases k with
    | zero =>
      simp at h; subst h
      rw [List.getElem?_append_left (by omega)]
      simp
    | succ k =>
      simp at h
      rw [List.getElem?_append_right (by rw [Nat.add_mul]; omega), h2, show (k + 1) * c + j - c = k * c + j by rw [Nat.add_mul]; omega]
      exact ih (fun y hy => hf y (by simp [hy])) h hj
theorem flat_ext {l : List α} {xs : List Value} (hf : ∀ x ∈ l, (f x).length = c) (hc : 0 < c) (hl : xs.length = l.length * c) (h : ∀ k j x, l[k]? = some x → j < c → xs[k * c + j]? = (f x)[j]?) : xs = l.flatMap f := by
  apply List.ext_getElem?
  intro i
  by_cases hi : i < l.length * c
  · have hk : i / c < l.length := (Nat.div_lt_iff_lt_mul hc).2 hi
    have hj : i % c < c := Nat.mod_lt _ hc
    have he : i = (i / c) * c + i % c := by rw [Nat.mul_comm]; exact (Nat.div_add_mod i c).symm
    have hx : l[i / c]? = some l[i / c] := List.getElem?_eq_getElem hk
    have h1 := h _ _ _ hx hj
    have h2 := flat_get hf hx hj
    rw [← he] at h1 h2
    rw [h1, h2]
  · rw [List.getElem?_eq_none (by omega), List.getElem?_eq_none (by rw [flat_length hf]; omega)]

/-- A row of the call's own (or nil), each element by f. -/
def RowF (w : World) (base : Nat) (t : TypeId) (c : Nat) (f : α → List Value) (v : Value) (l : List α) : Prop := (∀ x ∈ l, (f x).length = c) ∧ w.ownsRow base t c v l.length (l.flatMap f)

section
variable {w w' : World} {base : Nat} {t : TypeId} {v : Value} {l : List α}
theorem RowF.nil (w : World) (base : Nat) (t : TypeId) (c : Nat) (f : α → List Value) : RowF w base t c f (.slice none 0 0) [] := ⟨by simp, World.ownsRow_nil w base t c⟩
theorem RowF.slice (h : RowF w base t c f v l) : ∃ a cap, v = .slice a l.length cap := by
  rcases h.2.2 with ⟨rfl, h0⟩ | ⟨g, cap, cur, rfl, _⟩
  · exact ⟨none, 0, by rw [h0]⟩
  · exact ⟨_, cap, rfl⟩
theorem RowF.block (h : RowF w base t c f v l) (hne : l ≠ []) : ∃ g cap cur, v = .slice (some ⟨g, 0, none⟩) l.length cap ∧ base ≤ g ∧ w.heap[g]? = some (.cells cur t (0, 0)) ∧ l.length ≤ cap ∧ cap ≤ maxLen ∧ cur.size = cap * c ∧ cur.toList.take (l.length * c) = l.flatMap f := by
  rcases h.2.2 with ⟨rfl, h0⟩ | h
  · exact absurd (List.length_eq_zero_iff.1 h0) hne
  · exact h
theorem RowF.base_le (h : RowF w base t c f v l) : ∀ k, v.ownBlock = some k → base ≤ k := by
  intro k hk
  rcases h.2.2 with ⟨rfl, _⟩ | ⟨g, cap, cur, rfl, hg, _⟩
  · simp [Value.ownBlock] at hk
  · simp [Value.ownBlock] at hk; omega
theorem RowF.tag (h : RowF w base t c f v l) : ∀ k, v.ownBlock = some k → ∃ cur, w.heap[k]? = some (.cells cur t (0, 0)) := by
  intro k hk
  rcases h.2.2 with ⟨rfl, _⟩ | ⟨g, cap, cur, rfl, hg, hh, _⟩
  · simp [Value.ownBlock] at hk
  · simp [Value.ownBlock] at hk; subst hk; exact ⟨cur, hh⟩
theorem RowF.lt (h : RowF w base t c f v l) : ∀ k, v.ownBlock = some k → k < w.heap.size := by
  intro k hk
  obtain ⟨cur, hc⟩ := h.tag k hk
  by_cases hb : k < w.heap.size
  · exact hb
  · rw [Array.getElem?_eq_none (by omega)] at hc; cases hc
theorem RowF.of_block (h : RowF w base t c f v l) (hb : ∀ k, v.ownBlock = some k → w'.heap[k]? = w.heap[k]?) : RowF w' base t c f v l := by
  refine ⟨h.1, h.2.1, ?_⟩
  rcases h.2.2 with h0 | ⟨g, cap, cur, rfl, hg, hh, r⟩
  · exact .inl h0
  · exact .inr ⟨g, cap, cur, rfl, hg, by rw [hb g rfl]; exact hh, r⟩
theorem RowF.mono (h : RowF w base t c f v l) {base' : Nat} (hb : base' ≤ base) : RowF w base' t c f v l := by
  refine ⟨h.1, h.2.1, ?_⟩
  rcases h.2.2 with h0 | ⟨g, cap, cur, rfl, hg, hh, r⟩
  · exact .inl h0
  · exact .inr ⟨g, cap, cur, rfl, Nat.le_trans hb hg, hh, r⟩
theorem RowF.below (h : RowF w base t c f v l) (hb : Below w.heap.size w w') : RowF w' base t c f v l := h.of_block fun k hk => hb.block k (h.lt k hk)
theorem RowF.but {S : Nat → Prop} (h : RowF w base t c f v l) (hb : But S w w') (hs : ∀ k, v.ownBlock = some k → ¬ S k) : RowF w' base t c f v l := h.of_block fun k hk => hb.block k (h.lt k hk) (hs k hk)
/-- An element's cells. -/
theorem RowF.range (h : RowF w base t c f v l) (hc : 0 < c) {k : Nat} {x : α} (hk : l[k]? = some x) : ∃ g cap, v = .slice (some ⟨g, 0, none⟩) l.length cap ∧ w.rangeAt g (k * c) (f x) ∧ w.there g (k * c) c := by
  have hkl : k < l.length := (List.getElem?_eq_some_iff.1 hk).1
  obtain ⟨g, cap, cur, rfl, hg, hh, hn, hm, hs, ht⟩ := h.block (by intro h0; rw [h0] at hkl; simp at hkl)
  have hle : (k + 1) * c ≤ l.length * c := Nat.mul_le_mul_right c hkl
  have hle2 : l.length * c ≤ cap * c := Nat.mul_le_mul_right c hn
  have hcur : ∀ j, j < c → cur[k * c + j]? = (f x)[j]? := by
    intro j hj
    rw [← flat_get h.1 hk hj, ← ht, List.getElem?_take, if_pos (by rw [Nat.add_mul] at hle; omega)]
    simp
  have hfx := h.1 x (List.mem_of_getElem? hk)
  refine ⟨g, cap, rfl, fun j u hu => ?_, fun j hj => ?_⟩
  · have hj : j < c := by rw [← hfx]; exact (List.getElem?_eq_some_iff.1 hu).1
    have : w.cell? ⟨g, k * c + j, none⟩ = cur[k * c + j]? := by unfold World.cell?; rw [hh]; simp
    rw [this, hcur j hj, hu]
  · have h1 : w.cell? ⟨g, k * c + j, none⟩ = cur[k * c + j]? := by unfold World.cell?; rw [hh]; simp
    refine ⟨by rw [h1, hcur j hj, List.getElem?_eq_getElem (by omega)]; rfl, ?_⟩
    unfold World.frozen?; rw [hh]; simp
theorem heap_setCells (g : Nat) : ∀ (vs : List Value) (o : Nat) (w : World), (w.setCells g o vs).heap.size = w.heap.size ∧ (∀ k, k ≠ g → (w.setCells g o vs).heap[k]? = w.heap[k]?) ∧ ∀ cur t, w.heap[g]? = some (.cells cur t (0, 0)) → ∃ cur', (w.setCells g o vs).heap[g]? = some (.cells cur' t (0, 0)) ∧ cur'.size = cur.size ∧ ∀ i, cur'[i]? = if i < cur.size ∧ o ≤ i ∧ i < o + vs.length then vs[i - o]? else cur[i]? := by
  intro vs
  induction vs with
  | nil => intro o w; exact ⟨rfl, fun _ _ => rfl, fun cur t h => ⟨cur, h, rfl, fun i => by rw [if_neg (by simp)]⟩⟩
  | cons v vs ih =>
    intro o w
    obtain ⟨h1, h2, h3⟩ := ih (o + 1) (w.setCell ⟨g, o, none⟩ v)
    have e : w.setCells g o (v :: vs) = (w.setCell ⟨g, o, none⟩ v).setCells g (o + 1) vs := rfl
    rw [e]
    refine ⟨h1.trans (by simp [World.setCell]), fun k hk => (h2 k hk).trans (by simp only [World.setCell, Array.getElem?_modify]; rw [if_neg (fun h => hk h.symm)]), fun cur t hc => ?_⟩
    have hset : (w.setCell ⟨g, o, none⟩ v).heap[g]? = some (.cells (cur.setIfInBounds o v) t (0, 0)) := by
      simp [World.setCell, Array.getElem?_modify, hc]
    obtain ⟨cur', h4, h5, h6⟩ := h3 _ _ hset
    refine ⟨cur', h4, h5.trans (by simp), fun i => ?_⟩
    rw [h6 i, Array.size_setIfInBounds, Array.getElem?_setIfInBounds, List.length_cons]
    by_cases hi : i = o
    · subst hi
      by_cases hs : i < cur.size
      · rw [if_neg (by omega), if_pos rfl, if_pos hs, if_pos ⟨hs, by omega, by omega⟩]; simp
      · rw [if_neg (by omega), if_pos rfl, if_neg hs, if_neg (by omega), Array.getElem?_eq_none (by omega)]
    · by_cases hr : i < cur.size ∧ o ≤ i ∧ i < o + (vs.length + 1)
      · rw [if_pos (by omega), if_pos hr, show i - o = (i - (o + 1)) + 1 by omega]; simp
      · rw [if_neg (by omega), if_neg (fun h => hi h.symm), if_neg hr]
theorem setCells_os (g : Nat) : ∀ (vs : List Value) (o : Nat) (w : World), (w.setCells g o vs).os = w.os ∧ (w.setCells g o vs).tape = w.tape ∧ (w.setCells g o vs).output = w.output := by
  intro vs
  induction vs with
  | nil => intro o w; exact ⟨rfl, rfl, rfl⟩
  | cons v vs ih => intro o w; exact ih (o + 1) (w.setCell ⟨g, o, none⟩ v)
theorem But.setCells {S : Nat → Prop} (h : But S w w') {g : Nat} (hg : S g) (o : Nat) (vs : List Value) : But S w (w'.setCells g o vs) := by
  obtain ⟨h1, h2, _⟩ := heap_setCells g vs o w'
  obtain ⟨h3, h4, h5⟩ := setCells_os g vs o w'
  exact ⟨h3.trans h.os, h4.trans h.tape, h5.trans h.output, by rw [h1]; exact h.size, fun k hk hn => (h2 k (fun e => hn (e ▸ hg))).trans (h.block k hk hn)⟩
/-- An element stored. -/
theorem RowF.set (h : RowF w base t c f v l) (hc : 0 < c) {k : Nat} (hk : k < l.length) (x : α) (hx : (f x).length = c) {g : Nat} (hg : v.ownBlock = some g) : RowF (w.setCells g (k * c) (f x)) base t c f v (l.set k x) := by
  obtain ⟨g', cap, cur, rfl, hb, hh, hn, hm, hs, ht⟩ := h.block (by intro h0; rw [h0] at hk; simp at hk)
  obtain rfl : g' = g := by simpa [Value.ownBlock] using hg
  obtain ⟨_, _, h3⟩ := heap_setCells g' (f x) (k * c) w
  obtain ⟨cur', h4, h5, h6⟩ := h3 _ _ hh
  have hfs : ∀ y ∈ l.set k x, (f y).length = c := fun y hy => by
    rcases List.mem_or_eq_of_mem_set hy with h0 | rfl
    · exact h.1 y h0
    · exact hx
  have hle : (k + 1) * c ≤ l.length * c := Nat.mul_le_mul_right c hk
  have hle2 : l.length * c ≤ cap * c := Nat.mul_le_mul_right c hn
  rw [Nat.add_mul] at hle
  refine ⟨hfs, by rw [flat_length hfs], .inr ⟨g', cap, cur', by rw [List.length_set], hb, h4, by rw [List.length_set]; exact hn, hm, by omega, ?_⟩⟩
  apply flat_ext hfs hc (by simp only [List.length_take, Array.length_toList, List.length_set]; omega)
  intro i j y hy hj
  have hil : i < l.length := by
    have := (List.getElem?_eq_some_iff.1 hy).1
    rwa [List.length_set] at this
  have hli : (i + 1) * c ≤ l.length * c := Nat.mul_le_mul_right c hil
  rw [Nat.add_mul] at hli
  rw [List.getElem?_take, List.length_set, if_pos (by omega), Array.getElem?_toList, h6, hx]
  rw [List.getElem?_set] at hy
  by_cases hik : k = i
  · subst hik
    rw [if_pos rfl, if_pos hk] at hy
    obtain rfl := Option.some.inj hy
    rw [if_pos (by omega), show k * c + j - k * c = j by omega]
  · rw [if_neg hik] at hy
    have hne : ¬ (k * c ≤ i * c + j ∧ i * c + j < k * c + c) := by
      intro hh
      rcases Nat.lt_or_gt_of_ne hik with h0 | h0
      · have : (k + 1) * c ≤ i * c := Nat.mul_le_mul_right c h0
        rw [Nat.add_mul] at this; omega
      · have : (i + 1) * c ≤ k * c := Nat.mul_le_mul_right c h0
        rw [Nat.add_mul] at this; omega
    rw [if_neg (fun hh => hne hh.2), ← flat_get h.1 hy hj, ← ht, List.getElem?_take, if_pos (by omega), Array.getElem?_toList]
theorem RowF.below_ {w0 : World} (h : RowF w base t c f v l) (hb : Below w0.heap.size w0 w') (hw : w = w0 := by rfl) : RowF w' base t c f v l := by subst hw; exact h.below hb
/-- A row as what is appended. -/
theorem RowF.src {g cap n : Nat} (h : RowF w base t c f (.slice (some ⟨g, 0, none⟩) n cap) l) (hc : 0 < c) : Src w c (some ⟨g, 0, none⟩) l.length (l.flatMap f) := by
  refine ⟨flat_length h.1, (fun e => by cases e), ?_⟩
  rintro ad ⟨rfl⟩ j u hu
  rcases h.2.2 with ⟨e, _⟩ | ⟨g', cap', cur, e, hg, hh, hn, hm, hs, ht⟩
  · cases e
  · injection e with e _ _
    injection e with e
    injection e with e
    subst e
    have hj : j < l.length * c := by
      have := (List.getElem?_eq_some_iff.1 hu).1
      rwa [flat_length h.1] at this
    rw [← ht, List.getElem?_take, if_pos hj, Array.getElem?_toList] at hu
    rw [Addr.add_mid, Nat.zero_add]
    unfold World.cell?
    rw [hh]
    simpa using hu
/-- A row made of zeros. -/
theorem RowF.made {x0 : α} {z : Array Value} {n : Nat} (hx : (f x0).length = c) (hc : 0 < c) (hz : z = (f x0).toArray) (h : w.ownsRow base t c v n (madeCells z (n * c)).toList) : RowF w base t c f v (List.replicate n x0) := by
  have hf : ∀ x ∈ List.replicate n x0, (f x).length = c := fun x hm => by rw [List.eq_of_mem_replicate hm]; exact hx
  refine ⟨hf, ?_⟩
  have e : (madeCells z (n * c)).toList = (List.replicate n x0).flatMap f := by
    apply flat_ext hf hc (by rw [Array.length_toList, size_madeCells, List.length_replicate])
    intro k j x hk hj
    have hkn : k < n := by
      have := (List.getElem?_eq_some_iff.1 hk).1
      rwa [List.length_replicate] at this
    have hxe : x = x0 := List.eq_of_mem_replicate (List.mem_of_getElem? hk)
    subst hxe
    have hle : (k + 1) * c ≤ n * c := Nat.mul_le_mul_right c hkn
    rw [Nat.add_mul] at hle
    have hzs : z.size = c := by rw [hz, List.size_toArray, hx]
    rw [Array.getElem?_toList]
    unfold madeCells
    rw [Array.getElem?_map, Array.getElem?_range, if_pos (by omega)]
    simp only [Option.map_some]
    rw [hzs, Nat.mul_comm, Nat.mul_add_mod, Nat.mod_eq_of_lt hj]
    have hjx : j < (f x).length := by omega
    rw [List.getElem?_eq_getElem hjx, hz, getElem!_pos _ _ (by rw [List.size_toArray]; exact hjx)]
    simp
  rw [List.length_replicate, ← e]
  exact h
end
end
end Go.Proofs.YtkabkehfckbhcaaDoor

namespace Go.Proofs.YtkabkehfckbhcaaDoor
set_option linter.unusedVariables false
set_option linter.unusedSimpArgs false
open Go.RowKit

/-- The entries l hold, at each key n of kind k, what f says. -/
def Holds (k : IntKind) (l : List MapEntry) (f : Int → Option Value) : Prop :=
  (∀ e ∈ l, ∃ n, e.key = .int k n) ∧ (l.map (·.key)).Nodup ∧ ∀ n v, f n = some v ↔ ∃ e ∈ l, e.key = .int k n ∧ e.val = v
def IntMap (w : World) (b : Nat) (k : IntKind) (f : Int → Option Value) : Prop := ∃ es clock, w.heap[b]? = some (.map es clock) ∧ Holds k es.toList f

theorem findNow_spec (k0 k : IntKind) (n : Int) : ∀ (l : List MapEntry) (i : Nat), (∀ e ∈ l, ∃ m, e.key = .int k m) →
    (Instr.findNow (.int k0) (.int k n) l i = some none ∧ ∀ e ∈ l, e.key ≠ .int k n) ∨ (∃ q e, Instr.findNow (.int k0) (.int k n) l i = some (some (i + q, e.val)) ∧ l[q]? = some e ∧ e.key = .int k n)
  | [], i, _ => .inl ⟨rfl, by simp⟩
  | e :: l, i, h => by
    obtain ⟨m, hm⟩ := h e (by simp)
    have hs : Instr.sameNow (.int k0) (.int k n) e.key = some (n == m) := by rw [hm]; simp [Instr.sameNow]
    by_cases hnm : n = m
    · subst hnm
      refine .inr ⟨0, e, ?_, rfl, hm⟩
      unfold Instr.findNow
      rw [hs]
      simp
    · have hf : (n == m) = false := by simpa using hnm
      rw [hf] at hs
      rcases findNow_spec k0 k n l (i + 1) (fun x hx => h x (by simp [hx])) with ⟨h1, h2⟩ | ⟨q, x, h1, h2, h3⟩
      · refine .inl ⟨?_, ?_⟩
        · unfold Instr.findNow
          rw [hs]
          exact h1
        · intro x hx
          rcases List.mem_cons.1 hx with rfl | hx
          · rw [hm]; intro hh; injection hh with _ hh; exact hnm hh.symm
          · exact h2 x hx
      · refine .inr ⟨q + 1, x, ?_, by simpa using h2, h3⟩
        unfold Instr.findNow
        rw [hs]
        simp only
        rw [h1, show i + 1 + q = i + (q + 1) by omega]

theorem Holds.empty (k : IntKind) : Holds k [] (fun _ => none) := ⟨by simp, by simp, by simp⟩
theorem IntMap.new (w : World) (k : IntKind) : IntMap (w.alloc (.map #[] 0)) w.heap.size k (fun _ => none) := ⟨#[], 0, by show (w.heap.push _)[w.heap.size]? = _; simp, Holds.empty k⟩

theorem IntMap.lt {w : World} {b : Nat} {k : IntKind} {f : Int → Option Value} (h : IntMap w b k f) : b < w.heap.size := by
  obtain ⟨es, clock, hb, _⟩ := h
  by_cases hlt : b < w.heap.size
  · exact hlt
  · rw [Array.getElem?_eq_none (by omega)] at hb; cases hb
theorem IntMap.of_block {w w' : World} {b : Nat} {k : IntKind} {f : Int → Option Value} (h : IntMap w b k f) (hb : w'.heap[b]? = w.heap[b]?) : IntMap w' b k f := by
  obtain ⟨es, clock, h1, h2⟩ := h
  exact ⟨es, clock, hb.trans h1, h2⟩
theorem IntMap.of_below {w w' : World} {b : Nat} {k : IntKind} {f : Int → Option Value} (h : IntMap w b k f) (hb : Below w.heap.size w w') : IntMap w' b k f := h.of_block (hb.block b h.lt)

section
variable {P : Program} {w : World} {t kt e : TypeId} {b : Nat} {k : IntKind} {f : Int → Option Value}

theorem run_checkKey_int (hk : P.underlying kt = some (.int k)) (em : Bool) (d : Nat) (n : Int) (W : World) : (Instr.checkKey em (d + 1) kt (.int k n)).run P W = .ok () W := by
  simp [Instr.checkKey, run_underlying hk]

theorem run_lookup_intMap (ht : P.underlying t = some (.map kt e)) (hk : P.underlying kt = some (.int k)) (h : IntMap w b k f) {z : Value} (hz : (zeroValue e).run P w = .ok z w) (n : Int) :
    (Instr.lookup t (.map (some b)) (.int k n) false).run P w = .ok ((f n).getD z) w := by
  obtain ⟨es, clock, hb, h1, h2, h3⟩ := h
  have hgo : (getObj b).run P w = .ok (.map es clock) w := Go.MapKept.run_getObj_map hb
  rcases findNow_spec k k n es.toList 0 h1 with ⟨hf, hno⟩ | ⟨q, x, hf, hq, hx⟩
  · have hn : f n = none := by
      cases hfn : f n with
      | none => rfl
      | some v => obtain ⟨x, hx, hk1, _⟩ := (h3 n v).1 hfn; exact absurd hk1 (hno x hx)
    simp [Instr.lookup, run_underlying ht, hgo, run_checkKey_int hk, Instr.findKey, run_underlying hk, hf, hz, hn]
  · have hn : f n = some x.val := (h3 n x.val).2 ⟨x, List.mem_of_getElem? hq, hx, rfl⟩
    simp [Instr.lookup, run_underlying ht, hgo, run_checkKey_int hk, Instr.findKey, run_underlying hk, hf, hn]

/-- What a store or a delete leaves: only the map's block has turned. -/
def MapTurned (w w' : World) (b : Nat) : Prop := w'.os = w.os ∧ w'.tape = w.tape ∧ w'.output = w.output ∧ w'.heap.size = w.heap.size ∧ ∀ j, j ≠ b → w'.heap[j]? = w.heap[j]?

theorem MapTurned.set (w : World) (b : Nat) (o : Obj) : MapTurned w { w with heap := w.heap.setIfInBounds b o } b :=
  ⟨rfl, rfl, rfl, by simp, fun j hj => by simp only [Array.getElem?_setIfInBounds]; rw [if_neg (fun h => hj h.symm)]⟩
theorem MapTurned.cell {w w' : World} {b : Nat} (h : MapTurned w w' b) {p : Addr} (hp : p.block ≠ b) : w'.cell? p = w.cell? p := World.cell?_of_block (w := w) (h.2.2.2.2 p.block hp)
theorem MapTurned.frozen {w w' : World} {b : Nat} (h : MapTurned w w' b) {p : Addr} (hp : p.block ≠ b) : w'.frozen? p = w.frozen? p := World.frozen?_of_block (w := w) (h.2.2.2.2 p.block hp)
theorem MapTurned.below {w w' w0 : World} {b B : Nat} (h : MapTurned w w' b) (h0 : Below B w0 w) (hb : B ≤ b) : Below B w0 w' :=
  h0.trans ⟨h.1, h.2.1, h.2.2.1, Nat.le_of_eq h.2.2.2.1.symm, fun k hk => h.2.2.2.2 k (by omega)⟩
theorem IntMap.turned {w w' : World} {b c : Nat} {k : IntKind} {f : Int → Option Value} (h : IntMap w c k f) (ht : MapTurned w w' b) (hc : c ≠ b) : IntMap w' c k f := h.of_block (ht.2.2.2.2 c hc)

theorem heap_set_at (w : World) (b : Nat) (o : Obj) (h : b < w.heap.size) : ({ w with heap := w.heap.setIfInBounds b o } : World).heap[b]? = some o := by simp [h]
theorem mem_modify {es : Array MapEntry} {i : Nat} {g : MapEntry → MapEntry} {x : MapEntry} : x ∈ (es.modify i g).toList ↔ ∃ j y, es[j]? = some y ∧ x = if i = j then g y else y := by
  rw [List.mem_iff_getElem?]
  constructor
  · rintro ⟨j, hj⟩
    rw [Array.getElem?_toList, Array.getElem?_modify] at hj
    by_cases hij : i = j
    · rw [if_pos hij] at hj
      obtain ⟨y, hy, rfl⟩ := Option.map_eq_some_iff.1 hj
      exact ⟨j, y, hy, by rw [if_pos hij]⟩
    · rw [if_neg hij] at hj
      exact ⟨j, x, hj, by rw [if_neg hij]⟩
  · rintro ⟨j, y, hy, rfl⟩
    refine ⟨j, ?_⟩
    rw [Array.getElem?_toList, Array.getElem?_modify, hy]
    by_cases hij : i = j <;> simp [hij]

theorem nodup_index {l : List MapEntry} (h : (l.map (·.key)).Nodup) {i j : Nat} {x y : MapEntry} (hi : l[i]? = some x) (hj : l[j]? = some y) (hk : x.key = y.key) : i = j := by
  have hi' : (l.map (·.key))[i]? = some x.key := by simp [hi]
  have hj' : (l.map (·.key))[j]? = some x.key := by simp [hj, hk]
  have hil : i < (l.map (·.key)).length := (List.getElem?_eq_some_iff.1 hi').1
  exact (List.getElem?_inj hil h).1 (hi'.trans hj'.symm)

theorem run_update_intMap (ht : P.underlying t = some (.map kt e)) (hk : P.underlying kt = some (.int k)) (h : IntMap w b k f) (n : Int) (v : Value) :
    ∃ w', (Instr.mapUpdate t (.map (some b)) (.int k n) v).run P w = .ok () w' ∧ IntMap w' b k (fun m => if m = n then some v else f m) ∧ MapTurned w w' b := by
  have hlt := h.lt
  obtain ⟨es, clock, hb, h1, h2, h3⟩ := h
  have hgo : (getObj b).run P w = .ok (.map es clock) w := Go.MapKept.run_getObj_map hb
  rcases findNow_spec k k n es.toList 0 h1 with ⟨hf, hno⟩ | ⟨q, x, hf, hq, hx⟩
  · refine ⟨{ w with heap := w.heap.setIfInBounds b (.map (es.push { key := .int k n, val := v, born := clock }) (clock + 1)) }, ?_, ?_, MapTurned.set w b _⟩
    · simp [Instr.mapUpdate, run_underlying ht, hgo, run_checkKey_int hk, Instr.findKey, run_underlying hk, hf, Go.MapKept.run_setObj_map _ hb]
    · refine ⟨_, _, heap_set_at w b _ hlt, ?_, ?_, ?_⟩
      · intro x hx
        simp only [Array.toList_push, List.mem_append, List.mem_singleton] at hx
        rcases hx with hx | rfl
        · exact h1 x hx
        · exact ⟨n, rfl⟩
      · simp only [Array.toList_push, List.map_append, List.map_cons, List.map_nil]
        rw [List.nodup_append]
        refine ⟨h2, by simp, ?_⟩
        intro a ha b' hb' hab
        simp only [List.mem_singleton] at hb'
        subst hb' hab
        obtain ⟨x, hx, hxk⟩ := List.mem_map.1 ha
        exact hno x hx hxk
      · intro m u
        simp only [Array.toList_push, List.mem_append, List.mem_singleton]
        by_cases hmn : m = n
        · subst hmn
          rw [if_pos rfl]
          constructor
          · intro hu
            injection hu with hu
            exact ⟨_, .inr rfl, rfl, hu⟩
          · rintro ⟨x, hx | rfl, hxk, hxv⟩
            · exact absurd hxk (hno x hx)
            · rw [← hxv]
        · rw [if_neg hmn, h3 m u]
          constructor
          · rintro ⟨x, hx, hr⟩; exact ⟨x, .inl hx, hr⟩
          · rintro ⟨x, hx | rfl, hxk, hxv⟩
            · exact ⟨x, hx, hxk, hxv⟩
            · injection hxk with _ hxk; exact absurd hxk.symm hmn
  · have hq' : es[q]? = some x := by simpa using hq
    refine ⟨{ w with heap := w.heap.setIfInBounds b (.map (es.modify q fun e => { e with key := .int k n, val := v }) clock) }, ?_, ?_, MapTurned.set w b _⟩
    · have hst : (Instr.keyThatStays (.int k n) (.int k n)).run P w = .ok (.int k n) w := by simp [Instr.keyThatStays, Instr.sameBits]
      simp [Instr.mapUpdate, run_underlying ht, hgo, run_checkKey_int hk, Instr.findKey, run_underlying hk, hf, hq', hx, hst, Go.MapKept.run_setObj_map _ hb]
    · have hmod : ∀ y, y ∈ (es.modify q fun e => { e with key := .int k n, val := v }).toList ↔ ∃ j z, es[j]? = some z ∧ y = if q = j then { z with key := .int k n, val := v } else z := fun y => mem_modify
      refine ⟨_, _, heap_set_at w b _ hlt, ?_, ?_, ?_⟩
      · intro y hy
        obtain ⟨j, z, hz, rfl⟩ := (hmod y).1 hy
        by_cases hqj : q = j
        · rw [if_pos hqj]; exact ⟨n, rfl⟩
        · rw [if_neg hqj]; exact h1 z (List.mem_of_getElem? (by simpa using hz : es.toList[j]? = some z))
      · have hkeys : (es.modify q fun e => { e with key := .int k n, val := v }).toList.map (·.key) = es.toList.map (·.key) := by
          apply List.ext_getElem?
          intro j
          rw [List.getElem?_map, List.getElem?_map, Array.getElem?_toList, Array.getElem?_modify, Array.getElem?_toList]
          by_cases hqj : q = j
          · subst hqj
            rw [if_pos rfl, hq']
            simp [hx]
          · rw [if_neg hqj]
        rw [hkeys]
        exact h2
      · intro m u
        dsimp only
        by_cases hmn : m = n
        · subst hmn
          rw [if_pos rfl]
          constructor
          · intro hu
            injection hu with hu
            exact ⟨{ x with key := .int k m, val := v }, (hmod _).2 ⟨q, x, hq', by rw [if_pos rfl]⟩, rfl, hu⟩
          · rintro ⟨y, hy, hyk, hyv⟩
            obtain ⟨j, z, hz, rfl⟩ := (hmod y).1 hy
            by_cases hqj : q = j
            · rw [if_pos hqj] at hyv; rw [← hyv]
            · rw [if_neg hqj] at hyk
              exact absurd (nodup_index h2 hq (by simpa using hz : es.toList[j]? = some z) (hx.trans hyk.symm)) hqj
        · rw [if_neg hmn, h3 m u]
          constructor
          · rintro ⟨y, hy, hyk, hyv⟩
            obtain ⟨j, hj⟩ := List.mem_iff_getElem?.1 hy
            have hqj : q ≠ j := by
              rintro rfl
              rw [hq] at hj
              cases hj
              rw [hx] at hyk
              injection hyk with _ hyk
              exact hmn hyk.symm
            exact ⟨y, (hmod y).2 ⟨j, y, by simpa using hj, by rw [if_neg hqj]⟩, hyk, hyv⟩
          · rintro ⟨y, hy, hyk, hyv⟩
            obtain ⟨j, z, hz, rfl⟩ := (hmod y).1 hy
            by_cases hqj : q = j
            · rw [if_pos hqj] at hyk
              injection hyk with _ hyk
              exact absurd hyk.symm hmn
            · rw [if_neg hqj] at hyk hyv
              exact ⟨z, List.mem_of_getElem? (by simpa using hz : es.toList[j]? = some z), hyk, hyv⟩

theorem run_delete_intMap (ht : P.underlying t = some (.map kt e)) (hk : P.underlying kt = some (.int k)) (h : IntMap w b k f) (n : Int) (ty : TypeId) :
    ∃ w', (Builtin.delete_ #[t, kt] ty #[.map (some b), .int k n]).run P w = .ok (.tuple #[]) w' ∧ IntMap w' b k (fun m => if m = n then none else f m) ∧ MapTurned w w' b := by
  have hlt := h.lt
  obtain ⟨es, clock, hb, h1, h2, h3⟩ := h
  have hgo : (getObj b).run P w = .ok (.map es clock) w := Go.MapKept.run_getObj_map hb
  rcases findNow_spec k k n es.toList 0 h1 with ⟨hf, hno⟩ | ⟨q, x, hf, hq, hx⟩
  · refine ⟨{ w with heap := w.heap.setIfInBounds b (.map es clock) }, ?_, ?_, MapTurned.set w b _⟩
    · simp [Builtin.delete_, run_underlying ht, hgo, run_checkKey_int hk, Instr.findKey, run_underlying hk, hf, Go.MapKept.run_setObj_map _ hb]
    · refine ⟨es, clock, heap_set_at w b _ hlt, h1, h2, ?_⟩
      intro m u
      dsimp only
      by_cases hmn : m = n
      · subst hmn
        rw [if_pos rfl]
        constructor
        · intro hu; cases hu
        · rintro ⟨y, hy, hyk, _⟩; exact absurd hyk (hno y hy)
      · rw [if_neg hmn]; exact h3 m u
  · have hql : q < es.toList.length := (List.getElem?_eq_some_iff.1 hq).1
    have hl : (es.eraseIdxIfInBounds q).toList = es.toList.eraseIdx q := by
      unfold Array.eraseIdxIfInBounds
      rw [dif_pos (by simpa using hql)]
      simp
    have hmem : ∀ y, y ∈ es.toList.eraseIdx q ↔ ∃ j, j ≠ q ∧ es.toList[j]? = some y := by
      intro y
      rw [List.mem_eraseIdx_iff_getElem?]
    refine ⟨{ w with heap := w.heap.setIfInBounds b (.map (es.eraseIdxIfInBounds q) clock) }, ?_, ?_, MapTurned.set w b _⟩
    · simp [Builtin.delete_, run_underlying ht, hgo, run_checkKey_int hk, Instr.findKey, run_underlying hk, hf, Go.MapKept.run_setObj_map _ hb]
    · refine ⟨_, _, heap_set_at w b _ hlt, ?_, ?_, ?_⟩
      · rw [hl]
        intro y hy
        exact h1 y (List.mem_of_mem_eraseIdx hy)
      · rw [hl]
        exact h2.sublist (List.Sublist.map _ (List.eraseIdx_sublist _ _))
      · rw [hl]
        intro m u
        dsimp only
        by_cases hmn : m = n
        · subst hmn
          rw [if_pos rfl]
          constructor
          · intro hu; cases hu
          · rintro ⟨y, hy, hyk, _⟩
            obtain ⟨j, hjq, hj⟩ := (hmem y).1 hy
            exact absurd (nodup_index h2 hj hq (hyk.trans hx.symm)) hjq
        · rw [if_neg hmn, h3 m u]
          constructor
          · rintro ⟨y, hy, hyk, hyv⟩
            obtain ⟨j, hj⟩ := List.mem_iff_getElem?.1 hy
            refine ⟨y, (hmem y).2 ⟨j, ?_, hj⟩, hyk, hyv⟩
            rintro rfl
            rw [hq] at hj
            cases hj
            rw [hx] at hyk
            injection hyk with _ hyk
            exact hmn hyk.symm
          · rintro ⟨y, hy, hr⟩
            exact ⟨y, List.mem_of_mem_eraseIdx hy, hr⟩
end

end Go.Proofs.YtkabkehfckbhcaaDoor

namespace Go.Proofs.YtkabkehfckbhcaaDoor
set_option linter.unusedVariables false
set_option linter.unusedSimpArgs false
open Go.RowKit

section
variable {P : Program} {w : World} {t kt e : TypeId} {b : Nat} {k : IntKind} {f : Int → Option Value}

theorem run_lookup2_intMap (ht : P.underlying t = some (.map kt e)) (hk : P.underlying kt = some (.int k)) (h : IntMap w b k f) {z : Value} (hz : (zeroValue e).run P w = .ok z w) (n : Int) :
    (Instr.lookup t (.map (some b)) (.int k n) true).run P w = .ok (.tuple #[(f n).getD z, .bool (f n).isSome]) w := by
  obtain ⟨es, clock, hb, h1, h2, h3⟩ := h
  have hgo : (getObj b).run P w = .ok (.map es clock) w := Go.MapKept.run_getObj_map hb
  rcases findNow_spec k k n es.toList 0 h1 with ⟨hf, hno⟩ | ⟨q, x, hf, hq, hx⟩
  · have hn : f n = none := by
      cases hfn : f n with
      | none => rfl
      | some v => obtain ⟨x, hx, hk1, _⟩ := (h3 n v).1 hfn; exact absurd hk1 (hno x hx)
    simp [Instr.lookup, run_underlying ht, hgo, run_checkKey_int hk, Instr.findKey, run_underlying hk, hf, hz, hn]
  · have hn : f n = some x.val := (h3 n x.val).2 ⟨x, List.mem_of_getElem? hq, hx, rfl⟩
    simp [Instr.lookup, run_underlying ht, hgo, run_checkKey_int hk, Instr.findKey, run_underlying hk, hf, hn]

theorem run_clear_intMap (ht : P.underlying t = some (.map kt e)) (h : IntMap w b k f) (ty : TypeId) :
    ∃ w', (Builtin.clear_ #[t] ty #[.map (some b)]).run P w = .ok (.tuple #[]) w' ∧ IntMap w' b k (fun _ => none) ∧ MapTurned w w' b := by
  have hlt := h.lt
  obtain ⟨es, clock, hb, h1, h2, h3⟩ := h
  have hgo : (getObj b).run P w = .ok (.map es clock) w := Go.MapKept.run_getObj_map hb
  refine ⟨{ w with heap := w.heap.setIfInBounds b (.map #[] clock) }, ?_, ⟨#[], clock, heap_set_at w b _ hlt, Holds.empty k⟩, MapTurned.set w b _⟩
  simp [Builtin.clear_, run_underlying ht, hgo, MapKept.run_setObj_map _ hb, Result.andThen]
/-- A lookup at the list of a plain region's operations; a map's store; a clear. -/
theorem wpList_lookup2 {ops : Array Oper} {rest : List Oper} {o : Oper} {a : Act} {w : World} {Q : Exit → Act → World → Prop} (hgd : o.guard = none) (t : TypeId) (x i : Operand) (c : Bool) (ho : o.op = .lookup t x i c)
    (b : Nat) (k : IntKind) (n : Int) (v : Value) (hx : a.eval x = .map (some b)) (hi : a.eval i = .int k n) (hrun : (Instr.lookup t (.map (some b)) (.int k n) c).run P w = .ok v w)
    (h : wpList P ops Q rest (a.put o.dst v) w) : wpList P ops Q (o :: rest) a w :=
  wpList_plain hgd fun K hK => by
    unfold Oper.wp execOp
    simp only [ho, hx, hi, Sem.run_bind, hrun, Result.andThen_ok]
    exact hK _ _ h
theorem wpList_clear {ops : Array Oper} {rest : List Oper} {o : Oper} {a : Act} {w w' : World} {Q : Exit → Act → World → Prop} (hgd : o.guard = none) (t : TypeId) (x : Operand) (ho : o.op = .call { callee := .builtin .clear, args := #[x], argTypes := #[t] })
    (b : Nat) (hx : a.eval x = .map (some b)) (hrun : (Builtin.clear_ #[t] o.type #[.map (some b)]).run P w = .ok (.tuple #[]) w')
    (h : wpList P ops Q rest (a.put o.dst (.tuple #[])) w') : wpList P ops Q (o :: rest) a w :=
  wpList_plain hgd fun K hK => by
    unfold Oper.wp
    simp [execOp, ho, resolve, invoke, builtin, hx, hrun, Result.andThen]
    exact hK _ _ h
theorem wp_makeMap {o : Oper} {a : Act} {w : World} {K : Act → World → Prop} {Q : Exit → Act → World → Prop} (t : TypeId) (ho : o.op = .makeMap t none) (h : K (a.put o.dst (.map (some w.heap.size))) (w.alloc (.map #[] 0))) : o.wp P a w K Q := by
  unfold Oper.wp execOp
  simp [ho, Instr.makeMap, newObj]
  exact h
theorem wpList_makeMap {ops : Array Oper} {rest : List Oper} {o : Oper} {a : Act} {w : World} {Q : Exit → Act → World → Prop} (hgd : o.guard = none) (t : TypeId) (ho : o.op = .makeMap t none)
    (h : wpList P ops Q rest (a.put o.dst (.map (some w.heap.size))) (w.alloc (.map #[] 0))) : wpList P ops Q (o :: rest) a w :=
  wpList_plain hgd fun K hK => wp_makeMap t ho (hK _ _ h)
/-- A map's store, as one operation. -/
theorem wp_mapUpdate {o : Oper} {a : Act} {w w' : World} {K : Act → World → Prop} {Q : Exit → Act → World → Prop} (t : TypeId) (x i y : Operand) (ho : o.op = .mapUpdate t x i y)
    (b : Nat) (k : IntKind) (n : Int) (v : Value) (hx : a.eval x = .map (some b)) (hi : a.eval i = .int k n) (hy : a.eval y = v) (hrun : (Instr.mapUpdate t (.map (some b)) (.int k n) v).run P w = .ok () w')
    (h : K (a.put o.dst undef) w') : o.wp P a w K Q := by
  unfold Oper.wp execOp
  simp only [ho, hx, hi, hy, Sem.run_bind, Sem.run_pure, hrun, Result.andThen_ok]
  exact h
end
end Go.Proofs.YtkabkehfckbhcaaDoor

namespace Go.Proofs.YtkabkehfckbhcaaDoor
set_option linter.unusedVariables false
set_option linter.unusedSimpArgs false
open Go.RowKit

/-- Numbers as values. -/
def nv (k : IntKind) (l : List Nat) : Array Value := (l.map fun (c : Nat) => Value.int k (c : Int)).toArray
theorem nv_size (k : IntKind) (l : List Nat) : (nv k l).size = l.length := by simp [nv]
theorem nv_get (k : IntKind) (l : List Nat) (i : Nat) (h : i < l.length) : (nv k l)[i]? = some (.int k ((l.getD i 0 : Nat) : Int)) := by
  simp [nv, List.getD, h]
theorem nv_one (k : IntKind) (l : List Nat) : (nv k l).all (·.oneCell') = true := by
  simp [nv, Value.oneCell']
theorem nv_set (k : IntKind) (l : List Nat) (i v : Nat) : (nv k l).setIfInBounds i (.int k (v : Int)) = nv k (l.set i v) := by
  simp [nv, List.map_set]
theorem below_setRow {B : Nat} {w w' : World} (h : Below B w w') (g : Nat) (hg : B ≤ g) (cs : Array Value) : Below B w (w'.setRow g cs) := by
  refine h.trans ⟨rfl, rfl, rfl, ?_, ?_⟩
  · simp [World.setRow]
  · intro k hk
    simp only [World.setRow, Array.getElem?_modify]
    rw [if_neg (by omega)]
theorem isBlk_setRow {w : World} {g : Nat} {old : Array Value} {t : TypeId} (h : IsBlk w g old t) (cs : Array Value) : IsBlk (w.setRow g cs) g cs t := by
  have h' : w.heap[g]? = some (.cells old t) := h
  show (w.setRow g cs).heap[g]? = _
  simp [World.setRow, Array.getElem?_modify, h']
theorem isBlk_setRowOther {w : World} {b g : Nat} {cs : Array Value} {t : TypeId} (h : IsBlk w b cs t) (hne : g ≠ b) (ds : Array Value) : IsBlk (w.setRow g ds) b cs t := by
  have h' : w.heap[b]? = some (.cells cs t) := h
  show (w.setRow g ds).heap[b]? = _
  simp [World.setRow, Array.getElem?_modify, h', hne]
theorem drawn_below {B : Nat} {a w : World} (h : Below B a w) (n : Nat) : Below B a (w.drewN n) := ⟨h.os, h.tape, h.output, h.size, h.block⟩
theorem isBytes_row {w : World} {b : Nat} {l : List Nat} {t : TypeId} (hk : IsBlk w b (nv .u8 l) t) (hl : ∀ c ∈ l, c < 256) : IsBytes w (some ⟨b, 0, none⟩) l :=
  ⟨hl, .inr ⟨b, 0, rfl, fun i hi => by rw [Nat.zero_add]; exact hk.cell i (nv_get .u8 l i hi)⟩⟩
end Go.Proofs.YtkabkehfckbhcaaDoor

namespace Go.Proofs.YtkabkehfckbhcaaDoor
set_option linter.unusedVariables false
set_option linter.unusedSimpArgs false
open Go.RowKit

theorem fold_set (off : Nat) : ∀ (vs : List Value) (k : Nat) (cells : Array Value), ((vs.zipIdx k).foldl (fun (cs : Array Value) (x : Value × Nat) => cs.setIfInBounds (off + x.2) x.1) cells).size = cells.size ∧
    ∀ i, ((vs.zipIdx k).foldl (fun (cs : Array Value) (x : Value × Nat) => cs.setIfInBounds (off + x.2) x.1) cells)[i]? = if i < cells.size ∧ off + k ≤ i ∧ i < off + k + vs.length then vs[i - (off + k)]? else cells[i]? := by
  intro vs
  induction vs with
  | nil => intro k cells; exact ⟨rfl, fun i => by rw [if_neg (by simp)]; rfl⟩
  | cons v vs ih =>
    intro k cells
    obtain ⟨h1, h2⟩ := ih (k + 1) (cells.setIfInBounds (off + k) v)
    rw [List.zipIdx_cons, List.foldl_cons]
    refine ⟨h1.trans (by simp), fun i => ?_⟩
    rw [h2 i, Array.size_setIfInBounds, Array.getElem?_setIfInBounds, List.length_cons]
    by_cases hi : i = off + k
    · subst hi
      by_cases hs : off + k < cells.size
      · rw [if_neg (by omega), if_pos rfl, if_pos hs, if_pos (by omega)]; simp
      · rw [if_neg (by omega), if_pos rfl, if_neg hs, if_neg (by omega), Array.getElem?_eq_none (by omega)]
    · by_cases hr : i < cells.size ∧ off + k ≤ i ∧ i < off + k + (vs.length + 1)
      · rw [if_pos (by omega), if_pos hr, show i - (off + k) = (i - (off + (k + 1))) + 1 by omega]; simp
      · rw [if_neg (by omega), if_neg (fun h => hi h.symm), if_neg hr]
theorem fold_array (off : Nat) (vs cells : Array Value) : (vs.zipIdx.foldl (fun (cs : Array Value) (x : Value × Nat) => cs.setIfInBounds (off + x.2) x.1) cells) = (vs.toList.zipIdx.foldl (fun (cs : Array Value) (x : Value × Nat) => cs.setIfInBounds (off + x.2) x.1) cells) := by
  rw [← Array.foldl_toList, Array.toList_zipIdx]
theorem fill_step {place : Nat → Option (Nat × Nat)} {cells : Array Value} {i off size : Nat} {v : Value} {rest : List (Nat × Value)} (h : place i = some (off, size)) (hs : v.cells.size = size) (hc : off + size ≤ cells.size) :
    Instr.fill place cells ((i, v) :: rest) = Instr.fill place (v.cells.zipIdx.foldl (fun (cs : Array Value) (x : Value × Nat) => cs.setIfInBounds (off + x.2) x.1) cells) rest := by
  rw [Instr.fill]
  simp only [h]
  have hn : ¬ ((decide (v.cells.size ≠ size) || decide (off + v.cells.size > cells.size)) = true) := by
    simp only [Bool.or_eq_true, decide_eq_true_eq]
    omega
  rw [if_neg hn]
/-- One cell ahead of an array's. -/
theorem fill_two (place : Nat → Option (Nat × Nat)) (cells : Array Value) (v : Value) (hv : v.cells = #[v]) (cs : Array Value) (h0 : place 0 = some (0, 1)) (h1 : place 1 = some (1, cs.size)) (hs : cells.size = cs.size + 1) :
    Instr.fill place cells [(0, v), (1, .agg cs)] = some ((v :: cs.toList).toArray) := by
  have hc : (Value.agg cs).cells = cs := rfl
  have hz : (v.cells.zipIdx.foldl (fun (cs : Array Value) (x : Value × Nat) => cs.setIfInBounds (0 + x.2) x.1) cells) = cells.setIfInBounds 0 v := by
    rw [hv, fold_array]; rfl
  rw [fill_step h0 (by rw [hv]; rfl) (by omega), hz, fill_step h1 (by rw [hc]) (by simp; omega), hc, Instr.fill]
  congr 1
  rw [fold_array]
  obtain ⟨h2, h3⟩ := fold_set 1 cs.toList 0 (cells.setIfInBounds 0 v)
  apply Array.ext_getElem?
  intro i
  have hr : (v :: cs.toList).toArray[i]? = (v :: cs.toList)[i]? := by simp
  rw [h3 i, hr, Array.size_setIfInBounds, Array.getElem?_setIfInBounds, Array.length_toList]
  cases i with
  | zero => rw [if_neg (by omega), if_pos rfl, if_pos (by omega)]; simp
  | succ i =>
    rw [if_neg (show ¬ (0 = i + 1) by omega), List.getElem?_cons_succ]
    by_cases hi : i < cs.size
    · rw [if_pos (by omega), show i + 1 - (1 + 0) = i by omega]
    · rw [if_neg (by omega), List.getElem?_eq_none (by simp; omega), Array.getElem?_eq_none (by omega)]
/-- One part that is the whole. -/
theorem fill_one (place : Nat → Option (Nat × Nat)) (cells cs : Array Value) (h0 : place 0 = some (0, cs.size)) (hs : cells.size = cs.size) : Instr.fill place cells [(0, .agg cs)] = some cs := by
  have hc : (Value.agg cs).cells = cs := rfl
  rw [fill_step h0 (by rw [hc]) (by omega), hc, Instr.fill]
  congr 1
  rw [fold_array]
  obtain ⟨h2, h3⟩ := fold_set 0 cs.toList 0 cells
  apply Array.ext_getElem?
  intro i
  rw [h3 i, Array.length_toList]
  by_cases hi : i < cs.size
  · rw [if_pos (by omega), show i - (0 + 0) = i by omega, Array.getElem?_toList]
  · rw [if_neg (by omega), Array.getElem?_eq_none (by omega), Array.getElem?_eq_none (by omega)]
/-- An operation by its run. -/
theorem wp_of_run {P : Program} {o : Oper} {a : Act} {w w' : World} {K : Act → World → Prop} {Q : Exit → Act → World → Prop} {v : Value} (hrun : (execOp a.eval o).run P w = .ok (.value v) w') (h : K (a.put o.dst v) w') : o.wp P a w K Q := by
  unfold Oper.wp
  rw [hrun]
  exact h
theorem yields_build {P : Program} {ops : Array Oper} {op : Oper} {a : Act} (hw : Region.wanted op (yielded ops a.tmps) = true) (t : TypeId) (parts : Array (Nat × Operand)) (ho : op.op = .build t parts) (cells : Array Value)
    (hb : P.built t (parts.toList.map fun (i, x) => (i, a.eval x)) = some cells) : Yields P ops op (.agg cells) a :=
  .inl ⟨hw, fun w => by
    rw [← Array.toList_map] at hb
    unfold execOp
    simp only [ho, Sem.run_bind, run_build w t _ cells hb, Result.andThen_ok]
    rfl⟩
/-- A variable's making, its zero by the program's table of types. -/
theorem wpList_alloc_info {P : Program} {ops : Array Oper} {rest : List Oper} {o : Oper} {a : Act} {w : World} {Q : Exit → Act → World → Prop} (hgd : o.guard = none) (t : TypeId) (ho : o.op = .alloc t) (z : Value) (cs : Array Value) (hz : (P.info? t).bind (·.zero) = some z) (hc : z.cells = cs)
    (h : wpList P ops Q rest (a.put o.dst (.pointer (some ⟨w.heap.size, 0, none⟩))) (w.alloc (.cells cs t))) : wpList P ops Q (o :: rest) a w :=
  wpList_plain hgd fun K hK => by
    obtain ⟨it, h1, h2⟩ := Option.bind_eq_some_iff.1 hz
    unfold Oper.wp execOp
    simp [ho, Instr.alloc, zeroValue, typeInfo, h1, h2, newVar, newRow, hc]
    exact hK _ _ h
/-- A slice of one element, made. -/
theorem wp_slice_one {P : Program} {o : Oper} {a : Act} {w w' : World} {K : Act → World → Prop} {Q : Exit → Act → World → Prop} (t : TypeId) (x : Operand) (ho : o.op = .buildSlice t 1 #[(0, x)]) (v s : Value) (hx : a.eval x = v)
    (hrun : (Instr.buildSlice t 1 #[(0, v)]).run P w = .ok s w') (h : K (a.put o.dst s) w') : o.wp P a w K Q := by
  have hm : (#[(0, x)] : Array (Nat × Operand)).map (fun (i, y) => (i, a.eval y)) = #[(0, v)] := by simp [hx]
  unfold Oper.wp execOp
  simp only [ho, hm, Sem.run_bind, hrun, Result.andThen_ok]
  exact h
theorem yieldsIf_build {P : Program} {ops : Array Oper} {S : World → Prop} {op : Oper} {a : Act} (hw : Region.wanted op (yielded ops a.tmps) = true) (t : TypeId) (parts : Array (Nat × Operand)) (ho : op.op = .build t parts) (cells : Array Value)
    (hb : P.built t (parts.toList.map fun (i, x) => (i, a.eval x)) = some cells) : YieldsIf P ops S op (.agg cells) a :=
  .inl ⟨hw, fun w _ => by
    rw [← Array.toList_map] at hb
    unfold execOp
    simp only [ho, Sem.run_bind, run_build w t _ cells hb, Result.andThen_ok]
    rfl⟩
end Go.Proofs.YtkabkehfckbhcaaDoor

namespace Go.Proofs.YtkabkehfckbhcaaDoor
set_option linter.unusedVariables false
set_option linter.unusedSimpArgs false
open Go.RowKit

/-- The number of the region that a code begins with. -/
def regNo : Code → Nat
  | .region n _ _ => n
  | .seq a _ => regNo a
  | _ => 1000000
/-- The code from region n on, in the main row. -/
def codeFrom (n : Nat) : Code → Code
  | .seq a b => if regNo a = n then .seq a b else codeFrom n b
  | c => c
/-- A function's code from region n on. -/
def restOf (F : Func) (n : Nat) : Code := match F.body with
  | some c => codeFrom n c
  | none => .skip
/-- Of 'a region, a test; the rest' the test's other way. -/
def elseOf : Code → Code
  | .seq (.seq _ (.cond _ _ c)) _ => c
  | c => c
def thenOf : Code → Code
  | .seq (.seq _ (.cond _ c _)) _ => c
  | c => c
/-- A slice turned to an array's pointer. -/
theorem run_arrayAt {P : Program} {t e : TypeId} {n len cap : Nat} (a : Option Addr) (ht : P.underlying t = some (.array n e)) (hle : n ≤ len) (w : World) : (Instr.arrayAt t (.slice a len cap)).run P w = .ok (.pointer a) w := by
  have h1 : ¬ len < n := by omega
  unfold Instr.arrayAt
  simp only [Sem.run_bind, run_underlying ht, Result.andThen_ok]
  rw [if_neg h1]
  rfl
/-- An operation behind a guard that holds. -/
theorem wpList_wanted {P : Program} {ops : Array Oper} {Q : Exit → Act → World → Prop} {a : Act} {w : World} {rest : List Oper} {o : Oper} (hw : Region.wanted o (yielded ops a.tmps) = true)
    (h : ∀ K : Act → World → Prop, (∀ a w, wpList P ops Q rest a w → K a w) → o.wp P a w K Q) : wpList P ops Q (o :: rest) a w :=
  wpList_step fun K hK => by simp only [hw, if_true]; exact h K hK
/-- A row loaded, behind a guard that holds. -/
theorem wpList_load_row_g {P : Program} {ops : Array Oper} {rest : List Oper} {o : Oper} {a : Act} {w : World} {Q : Exit → Act → World → Prop} (hw : Region.wanted o (yielded ops a.tmps) = true) (ty : TypeId) (x : Operand) (ho : o.op = .load ty x)
    (g : Nat) (hx : a.eval x = .pointer (some ⟨g, 0, none⟩)) (t : TypeId) (cs : Array Value) (fr : Nat × Nat) (d : TypeDesc) (hg : w.heap[g]? = some (.cells cs t fr))
    (hu : P.underlying ty = some d) (hd : (match d with | .struct _ | .array _ _ => true | _ => false) = true) (hi : (P.info? ty).map (·.size) = some cs.size)
    (h : wpList P ops Q rest (a.put o.dst (.agg cs)) w) : wpList P ops Q (o :: rest) a w :=
  wpList_wanted hw fun _ hK => wp_load_row ty x ho g hx t cs fr d hg hu hd hi (hK _ _ h)
end Go.Proofs.YtkabkehfckbhcaaDoor

namespace Go.Proofs.YtkabkehfckbhcaaDoor
set_option linter.unusedVariables false
set_option linter.unusedSimpArgs false
set_option linter.unnecessarySimpa false
open Go.RowKit

theorem run_part_int {P : Program} {e : TypeId} {k : IntKind} (he : P.underlying e = some (.int k)) (cs : Array Value) (i : Nat) (v : Value) (h : cs[i]? = some v) (w : World) : (part e cs i).run P w = .ok v w := by
  simp [part, isAgg, run_underlying he, h]

theorem run_equalIn_array {P : Program} {t e : TypeId} {n : Nat} {k : IntKind} (d : Nat) (ht : P.underlying t = some (.array n e)) (he : P.underlying e = some (.int k)) (hs : ∀ w, (sizeOf e).run P w = .ok 1 w)
    (xs ys : List Int) (hx : xs.length = n) (hy : ys.length = n) (w : World) :
    (Op.equalIn (d + 2) t (.agg (xs.map (Value.int k)).toArray) (.agg (ys.map (Value.int k)).toArray)).run P w = .ok (xs == ys) w := by
  rw [Op.equalIn]
  simp only [Sem.run_bind, run_underlying ht, Result.andThen_ok, hs]
  rw [Std.Legacy.Range.forIn_eq_forIn_range']
  simp only [Std.Legacy.Range.size, Nat.sub_zero, Nat.add_sub_cancel, Nat.div_one, Nat.mul_one]
  have key : ∀ m i, i + m = n → (Sem.run P
          (forIn (List.range' i m) ((none : Option Bool), ()) fun i __s => do
            let __do_lift ← part e (List.map (Value.int k) xs).toArray i
            let __do_lift_1 ← part e (List.map (Value.int k) ys).toArray i
            let __do_lift ← Op.equalIn (d + 1) e __do_lift __do_lift_1
            if (!__do_lift) = true then pure (ForInStep.done (some false, ())) else pure (ForInStep.yield (none, ())))
          w) = .ok (if xs.drop i = ys.drop i then none else some false, ()) w := by
    intro m
    induction m with
    | zero =>
      intro i hi
      rw [List.drop_eq_nil_of_le (by omega), List.drop_eq_nil_of_le (by omega)]
      simp
    | succ m ih =>
      intro i hi
      have hxi : (List.map (Value.int k) xs).toArray[i]? = some (.int k xs[i]) := by simp [show i < xs.length by omega]
      have hyi : (List.map (Value.int k) ys).toArray[i]? = some (.int k ys[i]) := by simp [show i < ys.length by omega]
      rw [List.range'_succ, List.forIn_cons]
      simp only [Sem.run_bind, run_part_int he _ _ _ hxi, run_part_int he _ _ _ hyi, Result.andThen_ok, run_equalIn_int w d e k k _ _ he]
      have hxd : xs.drop i = xs[i] :: xs.drop (i + 1) := List.drop_eq_getElem_cons (by omega)
      have hyd : ys.drop i = ys[i] :: ys.drop (i + 1) := List.drop_eq_getElem_cons (by omega)
      have hiff : xs.drop i = ys.drop i ↔ xs[i] = ys[i] ∧ xs.drop (i + 1) = ys.drop (i + 1) := by rw [hxd, hyd, List.cons.injEq]
      clear hxd hyd
      by_cases he1 : xs[i] = ys[i]
      · have hb : (xs[i] == ys[i]) = true := by simpa using he1
        simp only [hb, Bool.not_true, Bool.false_eq_true, if_false, Sem.run_pure, Result.andThen_ok]
        have h2 : (xs.drop i = ys.drop i) = (xs.drop (i + 1) = ys.drop (i + 1)) := propext (hiff.trans (and_iff_right he1))
        rw [ih (i + 1) (by omega)]
        simp only [h2]
      · have hb : (xs[i] == ys[i]) = false := by simpa using he1
        simp only [hb, Bool.not_false, if_true, Sem.run_pure, Result.andThen_ok]
        rw [if_neg (fun h => he1 (hiff.1 h).1)]
  rw [key n 0 (by omega)]
  simp only [Result.andThen_ok, List.drop_zero]
  by_cases hxy : xs = ys
  · simp [hxy]
  · simp [hxy]

end Go.Proofs.YtkabkehfckbhcaaDoor

namespace Go.Proofs.YtkabkehfckbhcaaDoor
set_option linter.unusedVariables false

section
variable {P : Program} {ops : Array Oper} {Q : Exit → Act → World → Prop} {md : Region.Mode} {S : World → Prop} {n : Nat}

def wpTill (P : Program) (md : Region.Mode) (ops : Array Oper) (Q : Exit → Act → World → Prop) (S : World → Prop) (n : Nat) : Nat → Array Bool → Act → World → Prop
  | 0, l, a, w => Region.ready md ops l = [] ∧ Q .normal a w
  | f + 1, l, a, w => (Region.ready md ops l = [] → Q .normal a w) ∧ ∀ i ∈ Region.ready md ops l, wpOp P ops Q i (fun a' w' => (i < n → S w') ∧ wpTill P md ops Q S n f (l.setIfInBounds i true) a' w') a w
theorem wpAny_of_till : ∀ (f : Nat) (l : Array Bool) (a : Act) (w : World), wpTill P md ops Q S n f l a w → wpAny P md ops Q f l a w := by
  intro f
  induction f with
  | zero => exact fun _ _ _ h => h
  | succ f ih => exact fun l a w h => ⟨h.1, fun i hi => wpOp_mono (fun a' w' h' => ih _ a' w' h'.2) (h.2 i hi)⟩
theorem till_of_any : ∀ (f : Nat) (l : Array Bool) (a : Act) (w : World), (∀ j, j < n → l.getD j true = true) → wpAny P md ops Q f l a w → wpTill P md ops Q S n f l a w := by
  intro f
  induction f with
  | zero => exact fun _ _ _ _ h => h
  | succ f ih =>
    intro l a w hl h
    refine ⟨h.1, fun i hi => wpOp_mono (fun a' w' h' => ⟨fun hin => ?_, ih _ a' w' (fun j hj => ?_) h'⟩) (h.2 i hi)⟩
    · have h1 := (mem_ready.1 hi).1
      rw [hl i hin] at h1
      cases h1
    · by_cases e : i = j
      · subst e
        have h1 := (mem_ready.1 hi).1
        rw [hl i hj] at h1
        cases h1
      · rw [getD_set_ne true e]; exact hl j hj
/-- Everyone from n on waits for i. -/
def waitAll (md : Region.Mode) (ops : Array Oper) (n i : Nat) : Bool := decide (i < n) && (List.range ops.size).all fun j => decide (j < n) || match ops[j]? with
  | some o => o.after.any (fun e => Region.binds md e && e.on == i)
  | none => true
theorem waitAll_spec {i : Nat} (h : waitAll md ops n i = true) {j : Nat} {o : Oper} (hj : ops[j]? = some o) (hn : ¬ j < n) : ∃ e ∈ o.after, Region.binds md e = true ∧ e.on = i := by
  simp only [waitAll, Bool.and_eq_true, List.all_eq_true, List.mem_range] at h
  have h1 := h.2 j (Array.getElem?_eq_some_iff.1 hj).1
  simp only [hj, Bool.or_eq_true, decide_eq_true_eq, hn, false_or] at h1
  obtain ⟨e, he, h2⟩ := Array.any_eq_true'.1 h1
  simp only [Bool.and_eq_true, beq_iff_eq] at h2
  exact ⟨e, he, h2.1, h2.2⟩
theorem ready_not {i : Nat} {l : Array Bool} (hi : i ∈ Region.ready md ops l) {j : Nat} {o : Oper} (hj : j ∈ Region.ready md ops l) (ho : ops[j]? = some o) : ¬ ∃ e ∈ o.after, Region.binds md e = true ∧ e.on = i := by
  rintro ⟨e, he, hb, heq⟩
  obtain ⟨_, o', ho', hall⟩ := mem_ready.1 hj
  obtain rfl : o' = o := Option.some.inj (ho'.symm.trans ho)
  have h1 := hall e he hb
  have h0 := (mem_ready.1 hi).1
  rw [heq] at h1
  rcases Nat.lt_or_ge i l.size with h' | h'
  · simp [h'] at h0 h1; rw [h0] at h1; cases h1
  · simp [Array.getElem?_eq_none h'] at h1
theorem wpTill_first {i : Nat} {oi : Oper} {v : Value} (hi : ops[i]? = some oi) (hs : Region.noSelect ops = true) (hw : waitAll md ops n i = true)
    (hQ : ∀ c a w, Q (.panic c) (a.put oi.dst v) w → Q (.panic c) a w) : ∀ (f : Nat) (l : Array Bool) (a : Act) (w : World),
      (∀ j oj, ops[j]? = some oj → j ≠ i → l.getD j true = false → (∀ e ∈ oj.after, Region.binds md e = true → e.on ≠ i) → oi.apart ops oj = true) →
      i ∈ Region.ready md ops l → YieldsIf P ops S oi v a → S w → wpTill P md ops Q S n f (l.setIfInBounds i true) (a.put oi.dst v) w → wpTill P md ops Q S n (f + 1) l a w := by
  intro f
  induction f with
  | zero =>
    intro l a w _ hr hy hS H
    refine ⟨fun h => (by rw [h] at hr; cases hr), fun j hj => ?_⟩
    by_cases hji : j = i
    · subst hji; exact hy.wpOp hi hS ⟨fun _ => hS, H⟩
    · have h1 := ready_mono hj hji
      rw [H.1] at h1
      cases h1
  | succ f ih =>
    intro l a w hfree hr hy hS H
    refine ⟨fun h => (by rw [h] at hr; cases hr), fun j hj => ?_⟩
    by_cases hji : j = i
    · subst hji; exact hy.wpOp hi hS ⟨fun _ => hS, H⟩
    · have h1 := H.2 j (ready_mono hj hji)
      obtain ⟨hun, oj, hoj, -⟩ := mem_ready.1 hj
      have hno := ready_not hr hj hoj
      have hjn : j < n := Classical.byContradiction fun h => hno (waitAll_spec hw hoj h)
      have h2 := wpOp_putIf hoj (hfree j oj hoj hji hun (fun e he hb heq => hno ⟨e, he, hb, heq⟩)) (fun cs b => Region.noSelect_spec hs i oi cs b hi) (fun cs b => Region.noSelect_spec hs j oj cs b hoj) hQ hy h1
      refine wpOp_mono (fun a' w' h3 => ⟨h3.2.1, ih (l.setIfInBounds j true) a' w' (fun k ok hk hki hu hn => hfree k ok hk hki ?_ hn) (ready_mono hr (Ne.symm hji)) h3.1 (h3.2.1 hjn) ?_⟩) h2
      · by_cases hjk : j = k
        · subst hjk; exact hun
        · rw [getD_set_ne true hjk] at hu; exact hu
      · rw [Array.setIfInBounds_comm _ _ hji]
        exact h3.2.2
theorem wpTill_take {i : Nat} {oi : Oper} {v : Value} {f : Nat} {l : Array Bool} {a : Act} {w : World} (hi : ops[i]? = some oi) (hs : Region.noSelect ops = true) (hw : waitAll md ops n i = true)
    (hf : Region.free md ops l i = true) (hr : (Region.ready md ops l).contains i = true) (hQ : ∀ c a w, Q (.panic c) (a.put oi.dst v) w → Q (.panic c) a w) (hy : YieldsIf P ops S oi v a) (hS : S w)
    (h : wpTill P md ops Q S n f (l.setIfInBounds i true) (a.put oi.dst v) w) : wpTill P md ops Q S n (f + 1) l a w :=
  wpTill_first hi hs hw hQ f l a w (Region.free_spec hi hf) (by simpa using hr) hy hS h
def TillAll (P : Program) (md : Region.Mode) (ops : Array Oper) (Q : Exit → Act → World → Prop) (S : World → Prop) (n f : Nat) (l : Array Bool) (a : Act) (w : World) (rs : List Nat) : Prop :=
  ∀ i ∈ rs, wpOp P ops Q i (fun a' w' => (i < n → S w') ∧ wpTill P md ops Q S n f (l.setIfInBounds i true) a' w') a w
theorem TillAll.nil {f : Nat} {l : Array Bool} {a : Act} {w : World} : TillAll P md ops Q S n f l a w [] := fun _ h => by cases h
theorem TillAll.cons {f : Nat} {l : Array Bool} {a : Act} {w : World} {i : Nat} {o : Oper} {rs : List Nat} (ho : ops[i]? = some o)
    (h : ∀ K' : Act → World → Prop, Shut (∀ a w, S w → (S w → wpTill P md ops Q S n f (l.setIfInBounds i true) a w) → K' a w) → if Region.wanted o (yielded ops a.tmps) = true then Oper.wp P o a w K' Q else K' (a.put o.dst undef) w)
    (hs : TillAll P md ops Q S n f l a w rs) : TillAll P md ops Q S n f l a w (i :: rs) := fun j hj => by
  rcases List.mem_cons.1 hj with rfl | hj
  · exact wpOp_step ho (fun K' hK => h K' (fun a w hS hW => hK a w ⟨fun _ => hS, hW hS⟩))
  · exact hs j hj
theorem wpTill_ready {rs : List Nat} {f : Nat} {l : Array Bool} {a : Act} {w : World} (hr : Region.ready md ops l = rs) (hne : rs ≠ []) (h : TillAll P md ops Q S n f l a w rs) : wpTill P md ops Q S n (f + 1) l a w :=
  ⟨fun h0 => absurd (hr ▸ h0) hne, hr ▸ h⟩
/-- None but the last ones are left: no condition any more. -/
theorem wpTill_last {f : Nat} {l : Array Bool} {a : Act} {w : World} (hl : ((List.range n).all fun j => l.getD j true) = true) (h : wpAny P md ops Q f l a w) : wpTill P md ops Q S n f l a w :=
  till_of_any f l a w (fun j hj => List.all_eq_true.1 hl j (List.mem_range.2 hj)) h
theorem wp_region_till (n : Nat) {id : Nat} {a : Act} {w : World} (hm : P.follows .mixedOrders = true) (hS : S w.drew)
    (h : S w.drew → wpTill P .any ops Q S n ops.size (Array.replicate ops.size false) a w.drew) : (Code.region id ops true).wp P Q a w :=
  wp_region_any hm (wpAny_of_till _ _ _ _ (h hS))
end
end Go.Proofs.YtkabkehfckbhcaaDoor
