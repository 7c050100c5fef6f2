/-
  The readings, more: a struct's fields, a slice of structs.
-/
import Derived.Test.YtjmjfgbpjecgfaaDoorRead2
namespace Go.Proofs.YtjmjfgbpjecgfaaDoor
set_option linter.unusedVariables false
set_option linter.unusedSimpArgs false
open Go.ChangeShapes Go.WideShapes Go.ChangeAt Go.RowKit

section
variable {P : Program} {w : World}

/-- A field of a struct: its cells read. -/
theorem Rd.field {t : TypeId} {fs : Array Field} {cs : List Value} {d : D} (h : Rd P w t cs d) (ht : P.underlying t = some (.struct fs)) (i : Nat) (f : Field) (hf : fs[i]? = some f) :
    ∃ d', Rd P w f.type ((cs.drop f.offset).take (P.cellsOf f.type)) d' := by
  obtain ⟨l, rfl, hc, hl, hd⟩ := h.struct_inv ht
  have hi : i < fs.size := (Array.getElem?_eq_some_iff.1 hf).1
  exact ⟨_, hd i f l[i] hf (List.getElem?_eq_getElem (by omega))⟩
theorem one_cell {cs : List Value} {o : Nat} {v : Value} (h : (cs.drop o).take 1 = [v]) : cs[o]? = some v := by
  have : ((cs.drop o).take 1)[0]? = some v := by rw [h]; rfl
  simpa using this
theorem Rd.field_int {t : TypeId} {fs : Array Field} {cs : List Value} {d : D} {k : IntKind} (h : Rd P w t cs d) (ht : P.underlying t = some (.struct fs)) (i : Nat) (f : Field) (hf : fs[i]? = some f) (hk : P.underlying f.type = some (.int k)) (hc : P.cellsOf f.type = 1) :
    ∃ n, cs[f.offset]? = some (.int k n) ∧ (Lit.int k n).wf = true := by
  obtain ⟨d', hd⟩ := h.field ht i f hf
  obtain ⟨n, hn, _, hw⟩ := hd.int_inv hk
  rw [hc] at hn
  exact ⟨n, one_cell hn, hw⟩
theorem Rd.field_bool {t : TypeId} {fs : Array Field} {cs : List Value} {d : D} (h : Rd P w t cs d) (ht : P.underlying t = some (.struct fs)) (i : Nat) (f : Field) (hf : fs[i]? = some f) (hk : P.underlying f.type = some .bool) (hc : P.cellsOf f.type = 1) :
    ∃ x, cs[f.offset]? = some (.bool x) := by
  obtain ⟨d', hd⟩ := h.field ht i f hf
  obtain ⟨n, hn, _⟩ := hd.bool_inv hk
  rw [hc] at hn
  exact ⟨n, one_cell hn⟩
theorem Rd.field_ints {t e : TypeId} {fs : Array Field} {cs : List Value} {d : D} {k : IntKind} (h : Rd P w t cs d) (ht : P.underlying t = some (.struct fs)) (i : Nat) (f : Field) (hf : fs[i]? = some f) (hk : P.underlying f.type = some (.slice e)) (he : P.underlying e = some (.int k)) (hce : P.cellsOf e = 1) (hc : P.cellsOf f.type = 1) :
    ∃ a len cap zs, cs[f.offset]? = some (.slice a len cap) ∧ zs.length = len ∧ len ≤ cap ∧ cap ≤ maxLen ∧ cap * P.bytesOf e ≤ reachBytes ∧ (a = none → cap = 0) ∧ IsInts k w a zs := by
  obtain ⟨d', hd⟩ := h.field ht i f hf
  obtain ⟨a, len, cap, zs, hn, _, h1, h2, h3, h4, h5, h6⟩ := Rd.ints hd hk he hce
  rw [hc] at hn
  exact ⟨a, len, cap, zs, one_cell hn, h1, h2, h3, h4, h5, h6⟩

/-- A slice that came in, of elements of 'size' cells: its elements' cells, each read. -/
structure IsRows (P : Program) (w : World) (e : TypeId) (a : Option Addr) (len : Nat) (rows : Nat → List Value) : Prop where
  len_ : ∀ i, i < len → (rows i).length = P.cellsOf e
  rd : ∀ i, i < len → ∃ d, Rd P w e (rows i) d
  at_ : len = 0 ∨ ∃ b off, a = some ⟨b, off, none⟩ ∧ (0 < P.cellsOf e → b < w.heap.size) ∧ ∀ i, i < len → ∀ j, j < P.cellsOf e → w.cell? ⟨b, off + (i * P.cellsOf e + j), none⟩ = (rows i)[j]?

theorem Rd.rows {t e : TypeId} {cs : List Value} {d : D} (h : Rd P w t cs d) (ht : P.underlying t = some (.slice e)) (hce : 0 < P.cellsOf e) :
    ∃ a len cap rows, cs = [.slice a len cap] ∧ len ≤ cap ∧ cap ≤ maxLen ∧ cap * P.bytesOf e ≤ reachBytes ∧ (a = none → cap = 0) ∧ IsRows P w e a len rows := by
  obtain ⟨a, len, cap, l, rfl, rfl, h1, h2, h3, h4, h5, cells, h6, h7⟩ := h.slice_inv ht
  refine ⟨a, len, cap, cells, rfl, h2, h3, h4, h5, ⟨fun i hi => ?_, fun i hi => ⟨_, h7 i l[i] (List.getElem?_eq_getElem (by omega))⟩, ?_⟩⟩
  · cases a with
    | none => have := h5 rfl; omega
    | some ad => exact (h6 i hi ad rfl).1
  · by_cases hlen : len = 0
    · exact .inl hlen
    · right
      cases a with
      | none => have := h5 rfl; omega
      | some ad =>
        have hc0 := (h6 0 (by omega) ad rfl).2 0 hce
        have hl0 := (h6 0 (by omega) ad rfl).1
        have hc0' : w.cell? (ad.add (0 * P.cellsOf e + 0)) = some (cells 0)[0] := by rw [hc0]; exact List.getElem?_eq_getElem (by omega)
        obtain ⟨b, off, spot⟩ := ad
        have hspot : spot = none := by simpa [Addr.add] using World.cell?_spot hc0'
        subst hspot
        refine ⟨b, off, rfl, fun _ => ?_, fun i hi j hj => ?_⟩
        · have := cell?_some_lt' hc0'
          simpa [Addr.add] using this
        · have := (h6 i hi _ rfl).2 j hj
          rwa [add_plain] at this
theorem RdV.rows {t e : TypeId} {v : Value} {d : D} (h : RdV P w t v d) (ht : P.underlying t = some (.slice e)) (hce : 0 < P.cellsOf e) :
    ∃ a len cap rows, v = .slice a len cap ∧ len ≤ cap ∧ cap ≤ maxLen ∧ cap * P.bytesOf e ≤ reachBytes ∧ (a = none → cap = 0) ∧ IsRows P w e a len rows := by
  obtain ⟨a, len, cap, l, rfl, rfl, hrd⟩ := h.slice ht
  obtain ⟨a', len', cap', rows, h1, h2⟩ := Rd.rows hrd ht hce
  cases h1
  exact ⟨a, len, cap, rows, rfl, h2⟩
end

end Go.Proofs.YtjmjfgbpjecgfaaDoor
