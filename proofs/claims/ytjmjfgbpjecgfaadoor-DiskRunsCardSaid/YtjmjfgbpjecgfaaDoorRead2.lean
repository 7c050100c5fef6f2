/-
  The readings' inversions; rows of integers.
-/
import Derived.Test.YtjmjfgbpjecgfaaDoorRead
namespace Go.Proofs.YtjmjfgbpjecgfaaDoor
set_option linter.unusedVariables false
set_option linter.unusedSimpArgs false
set_option linter.unnecessarySimpa false
open Go.ChangeShapes Go.WideShapes Go.ChangeAt Go.RowKit

section
variable {P : Program} {w : World}

theorem Rd.bool_inv {t : TypeId} {cs : List Value} {d : D} (h : Rd P w t cs d) (ht : P.underlying t = some .bool) : ∃ x, cs = [.bool x] ∧ d = .b x := by
  cases h with
  | b _ => exact ⟨_, rfl, rfl⟩
  | i h _ => rw [ht] at h; cases h
  | s h _ _ => rw [ht] at h; cases h
  | st h _ _ _ => rw [ht] at h; cases h
  | ar h _ _ _ => rw [ht] at h; cases h
  | sl _ h _ _ _ _ _ _ _ => rw [ht] at h; cases h
theorem Rd.int_inv {t : TypeId} {cs : List Value} {d : D} {k : IntKind} (h : Rd P w t cs d) (ht : P.underlying t = some (.int k)) : ∃ n, cs = [.int k n] ∧ d = .i n ∧ (Lit.int k n).wf = true := by
  cases h with
  | b h => rw [ht] at h; cases h
  | i h hw => rw [ht] at h; cases h; exact ⟨_, rfl, rfl, hw⟩
  | s h _ _ => rw [ht] at h; cases h
  | st h _ _ _ => rw [ht] at h; cases h
  | ar h _ _ _ => rw [ht] at h; cases h
  | sl _ h _ _ _ _ _ _ _ => rw [ht] at h; cases h
theorem Rd.string_inv {t : TypeId} {cs : List Value} {d : D} (h : Rd P w t cs d) (ht : P.underlying t = some .string) : ∃ x : ByteArray, cs = [.string x] ∧ d = .s x ∧ x.size ≤ reachBytes := by
  cases h with
  | b h => rw [ht] at h; cases h
  | i h _ => rw [ht] at h; cases h
  | s h _ hr => exact ⟨_, rfl, rfl, hr⟩
  | st h _ _ _ => rw [ht] at h; cases h
  | ar h _ _ _ => rw [ht] at h; cases h
  | sl _ h _ _ _ _ _ _ _ => rw [ht] at h; cases h
theorem Rd.struct_inv {t : TypeId} {cs : List Value} {d : D} {fs : Array Field} (h : Rd P w t cs d) (ht : P.underlying t = some (.struct fs)) :
    ∃ l, d = .agg l ∧ cs.length = P.cellsOf t ∧ l.length = fs.size ∧ ∀ (i : Nat) (f : Field) (d : D), fs[i]? = some f → l[i]? = some d → Rd P w f.type ((cs.drop f.offset).take (P.cellsOf f.type)) d := by
  cases h with
  | b h => rw [ht] at h; cases h
  | i h _ => rw [ht] at h; cases h
  | s h _ hr => rw [ht] at h; cases h
  | st h h2 h3 h4 => rw [ht] at h; cases h; exact ⟨_, rfl, h2, h3, h4⟩
  | ar h _ _ _ => rw [ht] at h; cases h
  | sl _ h _ _ _ _ _ _ _ => rw [ht] at h; cases h
theorem Rd.array_inv {t e : TypeId} {n : Nat} {cs : List Value} {d : D} (h : Rd P w t cs d) (ht : P.underlying t = some (.array n e)) :
    ∃ l, d = .agg l ∧ cs.length = P.cellsOf t ∧ l.length = n ∧ ∀ (i : Nat) (d : D), l[i]? = some d → Rd P w e ((cs.drop (i * P.cellsOf e)).take (P.cellsOf e)) d := by
  cases h with
  | b h => rw [ht] at h; cases h
  | i h _ => rw [ht] at h; cases h
  | s h _ hr => rw [ht] at h; cases h
  | st h h2 h3 h4 => rw [ht] at h; cases h
  | ar h h2 h3 h4 => rw [ht] at h; cases h; exact ⟨_, rfl, h2, h3, h4⟩
  | sl _ h _ _ _ _ _ _ _ => rw [ht] at h; cases h
theorem Rd.slice_inv {t e : TypeId} {cs : List Value} {d : D} (h : Rd P w t cs d) (ht : P.underlying t = some (.slice e)) :
    ∃ a len cap l, cs = [.slice a len cap] ∧ d = .sl a len cap l ∧ l.length = len ∧ len ≤ cap ∧ cap ≤ maxLen ∧ cap * P.bytesOf e ≤ reachBytes ∧ (a = none → cap = 0) ∧
      ∃ cells : Nat → List Value, (∀ i, i < len → ∀ ad, a = some ad → (cells i).length = P.cellsOf e ∧ ∀ j, j < P.cellsOf e → w.cell? (ad.add (i * P.cellsOf e + j)) = (cells i)[j]?) ∧
        (∀ (i : Nat) (d : D), l[i]? = some d → Rd P w e (cells i) d) := by
  cases h with
  | b h => rw [ht] at h; cases h
  | i h _ => rw [ht] at h; cases h
  | s h _ hr => rw [ht] at h; cases h
  | st h h2 h3 h4 => rw [ht] at h; cases h
  | ar h h2 h3 h4 => rw [ht] at h; cases h
  | sl cells h1 h2 h3 h4 h5 h6 h7 h8 => rw [ht] at h1; cases h1; exact ⟨_, _, _, _, rfl, rfl, h2, h3, h4, h5, h6, cells, h7, h8⟩

/-- A slice that reads as the integers zs of kind k: it is empty, or its cells lie in one block. -/
def IsInts (k : IntKind) (w : World) (a : Option Addr) (zs : List Int) : Prop :=
  (∀ z ∈ zs, (Lit.int k z).wf = true) ∧ (zs = [] ∨ ∃ b off, a = some ⟨b, off, none⟩ ∧ b < w.heap.size ∧ ∀ i, i < zs.length → w.cell? ⟨b, off + i, none⟩ = some (.int k (zs.getD i 0)))

theorem cell?_some_lt' {w : World} {p : Addr} {v : Value} (h : w.cell? p = some v) : p.block < w.heap.size := by
  unfold World.cell? at h
  by_cases hb : p.block < w.heap.size
  · exact hb
  · rw [Array.getElem?_eq_none (by omega)] at h
    simp at h

theorem Rd.ints {t e : TypeId} {k : IntKind} {cs : List Value} {d : D} (h : Rd P w t cs d) (ht : P.underlying t = some (.slice e)) (he : P.underlying e = some (.int k)) (hce : P.cellsOf e = 1) :
    ∃ a len cap zs, cs = [.slice a len cap] ∧ d = .sl a len cap (zs.map .i) ∧ zs.length = len ∧ len ≤ cap ∧ cap ≤ maxLen ∧ cap * P.bytesOf e ≤ reachBytes ∧ (a = none → cap = 0) ∧ IsInts k w a zs := by
  obtain ⟨a, len, cap, l, rfl, rfl, h1, h2, h3, h4, h5, cells, h6, h7⟩ := h.slice_inv ht
  have key : ∀ i, i < len → ∃ n, l[i]? = some (.i n) ∧ cells i = [.int k n] ∧ (Lit.int k n).wf = true := by
    intro i hi
    obtain ⟨n, hn1, hn2, hn3⟩ := (h7 i l[i] (List.getElem?_eq_getElem (by omega))).int_inv he
    exact ⟨n, by rw [List.getElem?_eq_getElem (by omega), hn2], hn1, hn3⟩
  obtain ⟨zs, hzl, hzr⟩ := choose_list (n := len) (R := fun i z => l[i]? = some (.i z) ∧ cells i = [.int k z] ∧ (Lit.int k z).wf = true) key
  have hlz : l = zs.map .i := by
    apply List.ext_getElem?
    intro i
    by_cases hi : i < len
    · have hzi : zs[i]? = some zs[i] := List.getElem?_eq_getElem (by omega)
      rw [(hzr i _ hzi).1, List.getElem?_map, hzi]; rfl
    · rw [List.getElem?_eq_none (by omega), List.getElem?_eq_none (by simp; omega)]
  refine ⟨a, len, cap, zs, rfl, by rw [hlz], hzl, h2, h3, h4, h5, ?_, ?_⟩
  · intro z hz
    obtain ⟨i, hi, rfl⟩ := List.mem_iff_getElem.1 hz
    exact (hzr i _ (List.getElem?_eq_getElem hi)).2.2
  · by_cases hz : zs = []
    · exact .inl hz
    · right
      have hlen : 0 < len := by
        have : 0 < zs.length := List.length_pos_iff.2 hz
        omega
      cases a with
      | none => have := h5 rfl; omega
      | some ad =>
        have hc : ∀ i, i < zs.length → w.cell? (ad.add i) = some (.int k (zs.getD i 0)) := by
          intro i hi
          have hzi : zs[i]? = some zs[i] := List.getElem?_eq_getElem hi
          have := (h6 i (by omega) ad rfl).2 0 (by omega)
          rw [(hzr i _ hzi).2.1, hce] at this
          simp only [Nat.mul_one, Nat.add_zero] at this
          rw [this]
          simp [List.getD, hzi]
        obtain ⟨b, off, spot⟩ := ad
        have hspot : spot = none := by simpa [Addr.add] using World.cell?_spot (hc 0 (by omega))
        subst hspot
        have hb : b < w.heap.size := by
          have := cell?_some_lt' (hc 0 (by omega))
          simpa [Addr.add] using this
        exact ⟨b, off, rfl, hb, fun i hi => by have := hc i hi; rwa [add_plain] at this⟩

theorem RdV.ints {t e : TypeId} {k : IntKind} {v : Value} {d : D} (h : RdV P w t v d) (ht : P.underlying t = some (.slice e)) (he : P.underlying e = some (.int k)) (hce : P.cellsOf e = 1) :
    ∃ a len cap zs, v = .slice a len cap ∧ d = .sl a len cap (zs.map .i) ∧ zs.length = len ∧ len ≤ cap ∧ cap ≤ maxLen ∧ cap * P.bytesOf e ≤ reachBytes ∧ (a = none → cap = 0) ∧ IsInts k w a zs := by
  obtain ⟨a, len, cap, l, rfl, rfl, hrd⟩ := h.slice ht
  obtain ⟨a', len', cap', zs, h1, h2, h3⟩ := Rd.ints hrd ht he hce
  cases h1
  exact ⟨a, len, cap, zs, rfl, h2, h3⟩

/-- An array of integers that came in by value. -/
theorem RdV.intArray {t e : TypeId} {n : Nat} {k : IntKind} {v : Value} {d : D} (h : RdV P w t v d) (ht : P.underlying t = some (.array n e)) (he : P.underlying e = some (.int k)) (hce : P.cellsOf e = 1) (hct : P.cellsOf t = n) :
    ∃ zs : List Int, v = .agg (zs.map (Value.int k)).toArray ∧ d = .agg (zs.map .i) ∧ zs.length = n ∧ ∀ z ∈ zs, (Lit.int k z).wf = true := by
  obtain ⟨cs, l, rfl, rfl, hrd⟩ := h.array ht
  obtain ⟨l', h1, h2, h3, h4⟩ := Rd.array_inv hrd ht
  cases h1
  rw [hct] at h2
  have key : ∀ i, i < n → ∃ z, l[i]? = some (.i z) ∧ cs.toList[i]? = some (.int k z) ∧ (Lit.int k z).wf = true := by
    intro i hi
    obtain ⟨z, hz1, hz2, hz3⟩ := (h4 i l[i] (List.getElem?_eq_getElem (by omega))).int_inv he
    refine ⟨z, by rw [List.getElem?_eq_getElem (by omega), hz2], ?_, hz3⟩
    have : (((cs.toList.drop (i * P.cellsOf e)).take (P.cellsOf e)))[0]? = some (.int k z) := by rw [hz1]; rfl
    rw [hce] at this
    simpa using this
  obtain ⟨zs, hzl, hzr⟩ := choose_list key
  have hcs : cs.toList = zs.map (Value.int k) := by
    apply List.ext_getElem?
    intro i
    by_cases hi : i < n
    · have hzi : zs[i]? = some zs[i] := List.getElem?_eq_getElem (by omega)
      rw [(hzr i _ hzi).2.1, List.getElem?_map, hzi]; rfl
    · rw [List.getElem?_eq_none (by omega), List.getElem?_eq_none (by simp; omega)]
  have hl : l = zs.map .i := by
    apply List.ext_getElem?
    intro i
    by_cases hi : i < n
    · have hzi : zs[i]? = some zs[i] := List.getElem?_eq_getElem (by omega)
      rw [(hzr i _ hzi).1, List.getElem?_map, hzi]; rfl
    · rw [List.getElem?_eq_none (by omega), List.getElem?_eq_none (by simp; omega)]
  refine ⟨zs, ?_, by rw [hl], hzl, ?_⟩
  · rw [← hcs]
  · intro z hz
    obtain ⟨i, hi, rfl⟩ := List.mem_iff_getElem.1 hz
    exact (hzr i _ (List.getElem?_eq_getElem hi)).2.2
end

end Go.Proofs.YtjmjfgbpjecgfaaDoor
