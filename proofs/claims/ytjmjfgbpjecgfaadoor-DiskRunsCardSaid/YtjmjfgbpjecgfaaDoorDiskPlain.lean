/-
  disk: the document's answer in lists of numbers; the laws in plain numbers.
-/
import Derived.Test.YtjmjfgbpjecgfaaDoorRows
namespace Go.Proofs.YtjmjfgbpjecgfaaDoor
set_option linter.unusedVariables false
set_option linter.unusedSimpArgs false

def zeroPg : List Nat := List.replicate 64 0
/-- A disk: what is firm; what may be lost: where, and what. -/
structure DK where
  firm : List (List Nat)
  pend : List (Nat × List Nat) := []
  fuel : Int := -1
  off : Bool := false
def applyP (firm : List (List Nat)) (l : List (Nat × List Nat)) : List (List Nat) := l.foldl (fun f x => f.set x.1 x.2) firm
def DK.new (n : Nat) : DK := { firm := List.replicate n zeroPg }
def DK.cur (d : DK) : List (List Nat) := applyP d.firm d.pend
/-- One step: whether there is fuel, and the disk. -/
def DK.may (d : DK) : Bool := !d.off && decide (d.fuel ≠ 0)
def DK.step (d : DK) : DK := if d.off then d else if d.fuel = 0 then { d with off := true } else if 0 < d.fuel then { d with fuel := d.fuel - 1 } else d
/-- The number of the error that Read, Write, Flush answer; 0: none. -/
def DK.bad (d : DK) (i : Int) : Bool := decide (i < 0) || decide ((d.firm.length : Int) ≤ i)
def DK.readE (d : DK) (i : Int) : Nat := if d.off then 10 else if d.bad i then 1 else 0
def DK.read (d : DK) (i : Int) : List Nat := if d.readE i = 0 then d.cur.getD i.toNat zeroPg else zeroPg
def DK.writeE (d : DK) (i : Int) : Nat := if d.off then 10 else if d.bad i then 1 else if d.may then 0 else 10
def DK.write (d : DK) (i : Int) (p : List Nat) : DK := if d.off then d else if d.bad i then d else if d.may then { d.step with pend := d.pend ++ [(i.toNat, p)] } else d.step
def DK.flushE (d : DK) : Nat := if d.may then 0 else 10
def DK.flush (d : DK) : DK := if d.may then { d.step with firm := d.cur, pend := [] } else d.step
def DK.setFuel (d : DK) (n : Int) : DK := { d with fuel := max n (-1) }
def pickP (l : List (Nat × List Nat)) (pick : List Int) (k : Nat) : List (Nat × List Nat) :=
  match l with
  | [] => []
  | x :: r => (if pick.contains (k : Int) then [x] else []) ++ pickP r pick (k + 1)
def DK.crash (d : DK) (pick : List Int) : DK := { firm := applyP d.firm (pickP d.pend pick 0) }

theorem applyP_length (firm : List (List Nat)) (l : List (Nat × List Nat)) : (applyP firm l).length = firm.length := by
  unfold applyP
  induction l generalizing firm with
  | nil => rfl
  | cons x r ih => rw [List.foldl_cons, ih, List.length_set]
theorem applyP_cons (firm : List (List Nat)) (x : Nat × List Nat) (r : List (Nat × List Nat)) : applyP firm (x :: r) = applyP (firm.set x.1 x.2) r := rfl
theorem applyP_append (firm : List (List Nat)) (l m : List (Nat × List Nat)) : applyP firm (l ++ m) = applyP (applyP firm l) m := by
  unfold applyP; rw [List.foldl_append]
theorem applyP_snoc (firm : List (List Nat)) (l : List (Nat × List Nat)) (x : Nat × List Nat) : applyP firm (l ++ [x]) = (applyP firm l).set x.1 x.2 := by
  rw [applyP_append]; rfl
theorem getD_set (l : List (List Nat)) (i j : Nat) (v : List Nat) (h : i < l.length) : (l.set i v).getD j zeroPg = if i = j then v else l.getD j zeroPg := by
  simp only [List.getD, List.getElem?_set]
  by_cases e : i = j
  · subst e; simp [h]
  · simp [e]
/-- Of each sector there is what was firm, or something that was pending. -/
theorem applyP_from (l : List (Nat × List Nat)) : ∀ (firm : List (List Nat)) (j : Nat), (∀ x ∈ l, x.1 < firm.length) → (applyP firm l).getD j zeroPg = firm.getD j zeroPg ∨ ∃ x ∈ l, x.1 = j ∧ (applyP firm l).getD j zeroPg = x.2 := by
  induction l with
  | nil => intro firm j h; exact .inl rfl
  | cons x r ih =>
    intro firm j h
    rw [applyP_cons]
    rcases ih (firm.set x.1 x.2) j (fun y hy => by rw [List.length_set]; exact h y (List.mem_cons_of_mem _ hy)) with h1 | ⟨y, hy, h1, h2⟩
    · rw [h1, getD_set _ _ _ _ (h x (by simp))]
      by_cases e : x.1 = j
      · right; exact ⟨x, by simp, e, by simp [e]⟩
      · left; simp [e]
    · right; exact ⟨y, List.mem_cons_of_mem _ hy, h1, h2⟩
theorem pickP_mem {l : List (Nat × List Nat)} {pick : List Int} : ∀ {k : Nat} {x : Nat × List Nat}, x ∈ pickP l pick k → x ∈ l := by
  induction l with
  | nil => intro k x h; simp [pickP] at h
  | cons y r ih =>
    intro k x h
    simp only [pickP, List.mem_append] at h
    rcases h with h | h
    · by_cases hc : (pick.contains (k : Int)) = true
      · rw [if_pos hc] at h; simp at h; simp [h]
      · rw [if_neg hc] at h; simp at h
    · exact List.mem_cons_of_mem _ (ih h)
theorem pickP_all (l : List (Nat × List Nat)) (pick : List Int) : ∀ k, (∀ i, k ≤ i → i < k + l.length → (pick.contains (i : Int)) = true) → pickP l pick k = l := by
  induction l with
  | nil => intro k _; rfl
  | cons x r ih =>
    intro k h
    rw [pickP, if_pos (h k (by omega) (by simp)), ih (k + 1) (fun i h1 h2 => h i (by omega) (by simp at h2 ⊢; omega))]
    rfl
theorem pickP_none (l : List (Nat × List Nat)) : ∀ k, pickP l [] k = [] := by
  induction l with
  | nil => intro k; rfl
  | cons x r ih => intro k; rw [pickP, ih]; rfl
theorem cur_length (d : DK) : d.cur.length = d.firm.length := applyP_length _ _
end Go.Proofs.YtjmjfgbpjecgfaaDoor
