/-
  woe: what a []string reads as.
-/
import Derived.Test.YtgoddepgdgdacaaDoorRead2
import Derived.Test.YtgoddepgdgdacaaDoorWoeFn2
namespace Go.Proofs.YtgoddepgdgdacaaDoor
set_option linter.unusedVariables false
set_option linter.unusedSimpArgs false
set_option linter.unnecessarySimpa false
open Go.ChangeShapes Go.WideShapes Go.ChangeAt Go.RowKit

section
variable {P : Program} {w : World}

/-- A slice that reads as the strings zs. -/
def IsStrs (w : World) (a : Option Addr) (zs : List ByteArray) : Prop :=
  (∀ z ∈ zs, z.size ≤ reachBytes) ∧ (zs = [] ∨ ∃ b off, a = some ⟨b, off, none⟩ ∧ b < w.heap.size ∧ ∀ i, i < zs.length → w.cell? ⟨b, off + i, none⟩ = some (.string (zs.getD i ByteArray.empty)))

theorem Rd.strs {t e : TypeId} {cs : List Value} {d : D} (h : Rd P w t cs d) (ht : P.underlying t = some (.slice e)) (he : P.underlying e = some .string) (hce : P.cellsOf e = 1) :
    ∃ a len cap zs, cs = [.slice a len cap] ∧ d = .sl a len cap (zs.map .s) ∧ zs.length = len ∧ len ≤ cap ∧ cap ≤ maxLen ∧ cap * P.bytesOf e ≤ reachBytes ∧ (a = none → cap = 0) ∧ IsStrs w a zs := by
  obtain ⟨a, len, cap, l, rfl, rfl, h1, h2, h3, h4, h5, cells, h6, h7⟩ := h.slice_inv ht
  have key : ∀ i, i < len → ∃ n : ByteArray, l[i]? = some (.s n) ∧ cells i = [.string n] ∧ n.size ≤ reachBytes := by
    intro i hi
    obtain ⟨n, hn1, hn2, hn3⟩ := (h7 i l[i] (List.getElem?_eq_getElem (by omega))).string_inv he
    exact ⟨n, by rw [List.getElem?_eq_getElem (by omega), hn2], hn1, hn3⟩
  obtain ⟨zs, hzl, hzr⟩ := choose_list (n := len) (R := fun i z => l[i]? = some (.s z) ∧ cells i = [.string z] ∧ z.size ≤ reachBytes) key
  have hlz : l = zs.map .s := by
    apply List.ext_getElem?
    intro i
    by_cases hi : i < len
    · have hzi : zs[i]? = some zs[i] := List.getElem?_eq_getElem (by omega)
      rw [(hzr i _ hzi).1, List.getElem?_map, hzi]; rfl
    · rw [List.getElem?_eq_none (by omega), List.getElem?_eq_none (by simp; omega)]
  refine ⟨a, len, cap, zs, rfl, by rw [hlz], hzl, h2, h3, h4, h5, ?_, ?_⟩
  · intro z hz
    obtain ⟨i, hi, rfl⟩ := List.mem_iff_getElem.1 hz
    exact (hzr i _ (List.getElem?_eq_getElem hi)).2.2
  · by_cases hz : zs = []
    · exact .inl hz
    · right
      have hlen : 0 < len := by
        have : 0 < zs.length := List.length_pos_iff.2 hz
        omega
      cases a with
      | none => have := h5 rfl; omega
      | some ad =>
        have hc : ∀ i, i < zs.length → w.cell? (ad.add i) = some (.string (zs.getD i ByteArray.empty)) := by
          intro i hi
          have hzi : zs[i]? = some zs[i] := List.getElem?_eq_getElem hi
          have := (h6 i (by omega) ad rfl).2 0 (by omega)
          rw [(hzr i _ hzi).2.1, hce] at this
          simp only [Nat.mul_one, Nat.add_zero] at this
          rw [this]
          simp [List.getD, hzi]
        obtain ⟨b, off, spot⟩ := ad
        have hspot : spot = none := by simpa [Addr.add] using World.cell?_spot (hc 0 (by omega))
        subst hspot
        have hb : b < w.heap.size := by
          have := cell?_some_lt' (hc 0 (by omega))
          simpa [Addr.add] using this
        exact ⟨b, off, rfl, hb, fun i hi => by have := hc i hi; rwa [add_plain] at this⟩

theorem RdV.strs {t e : TypeId} {v : Value} {d : D} (h : RdV P w t v d) (ht : P.underlying t = some (.slice e)) (he : P.underlying e = some .string) (hce : P.cellsOf e = 1) :
    ∃ a len cap zs, v = .slice a len cap ∧ d = .sl a len cap (zs.map .s) ∧ zs.length = len ∧ len ≤ cap ∧ cap ≤ maxLen ∧ cap * P.bytesOf e ≤ reachBytes ∧ (a = none → cap = 0) ∧ IsStrs w a zs := by
  obtain ⟨a, len, cap, l, rfl, rfl, hrd⟩ := h.slice ht
  obtain ⟨a', len', cap', zs, h1, h2, h3⟩ := Rd.strs hrd ht he hce
  cases h1
  exact ⟨a, len, cap, zs, rfl, h2, h3⟩


theorem IsStrs.below {W w : World} {a : Option Addr} {zs : List ByteArray} (h : IsStrs W a zs) (hb : Below W.heap.size W w) : IsStrs w a zs := by
  refine ⟨h.1, ?_⟩
  rcases h.2 with h2 | ⟨b, off, h2, h3, h4⟩
  · exact .inl h2
  · exact .inr ⟨b, off, h2, Nat.lt_of_lt_of_le h3 hb.size, fun i hi => by rw [hb.cell (by exact h3)]; exact h4 i hi⟩
end
end Go.Proofs.YtgoddepgdgdacaaDoor
