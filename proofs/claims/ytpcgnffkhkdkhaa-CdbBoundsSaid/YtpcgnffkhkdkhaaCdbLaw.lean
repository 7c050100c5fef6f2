/-
  cdb: the plain laws: forms, bounds, spares.
-/
import Derived.Test.YtpcgnffkhkdkhaaCdbPlain
namespace Go.Proofs.Ytpcgnffkhkdkhaa
set_option linter.unusedVariables false
set_option linter.unusedSimpArgs false

/-- What comes out of a row of kinds. -/
def Bnd (r : TK × Nat) : Prop := (r.2 ≠ 0 → r.1 = {} ∧ (r.2 = 8192 ∨ r.2 = 9216 ∨ r.2 = 6656)) ∧ (r.2 = 0 → 1 ≤ r.1.act ∧ r.1.act ≤ 13 ∧ r.1.length ≤ 1024 ∧ (r.1.act = 11 ∨ r.1.n ≤ 8) ∧ r.1.type < 16 ∧ r.1.scope = 0)
theorem blkP_bounds (op f l n : Nat) : Bnd (blkP op f l n) := by
  obtain ⟨r, hr⟩ : ∃ r, r = blkP op f l n := ⟨_, rfl⟩
  rw [← hr]
  unfold Bnd
  unfold blkP at hr
  (repeat' split at hr) <;> subst hr <;> simp [no] <;> omega
theorem decP_bounds (b : List Nat) (hb : ∀ c ∈ b, c < 256) : Bnd (decP b) := by
  obtain ⟨r, hr⟩ : ∃ r, r = decP b := ⟨_, rfl⟩
  rw [← hr]
  have hbb : Bnd (blocksP b) := blkP_bounds (b.getD 0 0) (b.getD 1 0) (lbaP b) (nP b)
  unfold decP at hr
  generalize b.getD 0 0 = x0 at *
  generalize b.getD 1 0 = x1 at *
  generalize b.getD 2 0 = x2 at *
  (repeat' split at hr) <;> first | (rw [hr]; exact hbb) | (subst hr; simp [no, Bnd] <;> omega)

/-- Bytes that are alike where a row reads. -/
def alike (b c : List Nat) (l : List Nat) : Prop := ∀ i ∈ l, b.getD i 0 = c.getD i 0
theorem at_two (b : List Nat) (o : Nat) (h : o + 2 ≤ b.length) : at_ b o 2 = b.getD o 0 * 256 + b.getD (o + 1) 0 := by
  have e : (b.drop o).take 2 = [b.getD o 0, b.getD (o + 1) 0] := by
    apply List.ext_getElem?
    intro i
    rcases i with _ | _ | i
    · simp [List.getElem?_take, List.getElem?_drop, List.getD, List.getElem?_eq_getElem (show o < b.length by omega)]
    · simp [List.getElem?_take, List.getElem?_drop, List.getD, List.getElem?_eq_getElem (show o + 1 < b.length by omega)]
    · rw [List.getElem?_take, if_neg (by omega)]; simp
  unfold at_
  rw [e]
  simp [numOf]
theorem at_four (b : List Nat) (o : Nat) (h : o + 4 ≤ b.length) : at_ b o 4 = ((b.getD o 0 * 256 + b.getD (o + 1) 0) * 256 + b.getD (o + 2) 0) * 256 + b.getD (o + 3) 0 := by
  have e : (b.drop o).take 4 = [b.getD o 0, b.getD (o + 1) 0, b.getD (o + 2) 0, b.getD (o + 3) 0] := by
    apply List.ext_getElem?
    intro i
    rcases i with _ | _ | _ | _ | i
    · simp [List.getElem?_take, List.getElem?_drop, List.getD, List.getElem?_eq_getElem (show o < b.length by omega)]
    · simp [List.getElem?_take, List.getElem?_drop, List.getD, List.getElem?_eq_getElem (show o + 1 < b.length by omega)]
    · simp [List.getElem?_take, List.getElem?_drop, List.getD, List.getElem?_eq_getElem (show o + 2 < b.length by omega)]
    · simp [List.getElem?_take, List.getElem?_drop, List.getD, List.getElem?_eq_getElem (show o + 3 < b.length by omega)]
    · rw [List.getElem?_take, if_neg (by omega)]; simp
  unfold at_
  rw [e]
  simp [numOf]
/-- The places that are named. -/
def namedP (op : Nat) : Option (List Nat) :=
  if op = 0 then some [0] else if op = 18 then some [0, 1, 2, 3, 4] else if op = 37 then some [0] else if op = 158 then some [0, 1, 10, 11, 12, 13]
  else if op = 160 then some [0, 2, 6, 7, 8, 9] else if op = 94 then some [0, 1, 7, 8] else if op = 95 then some [0, 1, 2, 5, 6, 7, 8] else if op = 66 then some [0, 7, 8] else none
theorem decP_spares (b c : List Nat) (hb : b.length = 16) (hc : c.length = 16) (l : List Nat) (hl : namedP (b.getD 0 0) = some l) (h : alike b c l) : decP b = decP c := by
  unfold namedP at hl
  unfold decP
  rw [at_two b 3 (by omega), at_two c 3 (by omega), at_four b 10 (by omega), at_four c 10 (by omega), at_four b 6 (by omega), at_four c 6 (by omega), at_two b 7 (by omega), at_two c 7 (by omega), at_four b 5 (by omega), at_four c 5 (by omega)]
  clear hb hc
  unfold alike at h
  generalize hb0 : b.getD 0 0 = x0 at *
  generalize hc0 : c.getD 0 0 = y0 at *
  generalize hb1 : b.getD 1 0 = x1 at *
  generalize hc1 : c.getD 1 0 = y1 at *
  generalize hb2 : b.getD 2 0 = x2 at *
  generalize hc2 : c.getD 2 0 = y2 at *
  generalize hb3 : b.getD 3 0 = x3 at *
  generalize hc3 : c.getD 3 0 = y3 at *
  generalize hb4 : b.getD 4 0 = x4 at *
  generalize hc4 : c.getD 4 0 = y4 at *
  generalize hb5 : b.getD 5 0 = x5 at *
  generalize hc5 : c.getD 5 0 = y5 at *
  generalize hb6 : b.getD 6 0 = x6 at *
  generalize hc6 : c.getD 6 0 = y6 at *
  generalize hb7 : b.getD 7 0 = x7 at *
  generalize hc7 : c.getD 7 0 = y7 at *
  generalize hb8 : b.getD 8 0 = x8 at *
  generalize hc8 : c.getD 8 0 = y8 at *
  generalize hb9 : b.getD 9 0 = x9 at *
  generalize hc9 : c.getD 9 0 = y9 at *
  generalize hb10 : b.getD 10 0 = x10 at *
  generalize hc10 : c.getD 10 0 = y10 at *
  generalize hb11 : b.getD 11 0 = x11 at *
  generalize hc11 : c.getD 11 0 = y11 at *
  generalize hb12 : b.getD 12 0 = x12 at *
  generalize hc12 : c.getD 12 0 = y12 at *
  generalize hb13 : b.getD 13 0 = x13 at *
  generalize hc13 : c.getD 13 0 = y13 at *
  (repeat' split at hl) <;> first
    | (cases hl; done)
    | (injection hl with hl; subst hl; simp only [List.mem_cons, List.not_mem_nil, or_false, forall_eq_or_imp, forall_eq, hb0, hb1, hb2, hb3, hb4, hb5, hb6, hb7, hb8, hb9, hb10, hb11, hb12, hb13, hc0, hc1, hc2, hc3, hc4, hc5, hc6, hc7, hc8, hc9, hc10, hc11, hc12, hc13] at h; simp_all)
end Go.Proofs.Ytpcgnffkhkdkhaa
