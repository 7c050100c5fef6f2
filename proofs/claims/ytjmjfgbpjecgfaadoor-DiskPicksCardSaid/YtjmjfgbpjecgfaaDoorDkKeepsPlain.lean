/-
  disk: DiskKeeps in plain lists.
-/
import Derived.Test.YtjmjfgbpjecgfaaDoorDiskPlain
namespace Go.Proofs.YtjmjfgbpjecgfaaDoor
set_option linter.unusedVariables false
set_option linter.unusedSimpArgs false

/-- What is pending for a sector, in order. -/
def pendOf (l : List (Nat × List Nat)) (i : Nat) : List (List Nat) := (l.filter (fun x => x.1 == i)).map (·.2)
theorem pendOf_nil (i : Nat) : pendOf [] i = [] := rfl
theorem pendOf_snoc (l : List (Nat × List Nat)) (i j : Nat) (p : List Nat) : pendOf (l ++ [(i, p)]) j = if i = j then pendOf l j ++ [p] else pendOf l j := by
  unfold pendOf
  by_cases e : i = j
  · subst e; simp
  · have : (i == j) = false := by simp; exact e
    simp [e, this]
/-- A sector behind all that is pending: the last that was written, or what was firm. -/
theorem applyP_last (l : List (Nat × List Nat)) : ∀ (f : List (List Nat)) (i : Nat), i < f.length → (applyP f l).getD i zeroPg = (pendOf l i).getLastD (f.getD i zeroPg) := by
  induction l with
  | nil => intro f i h; rfl
  | cons x r ih =>
    intro f i h
    rw [applyP_cons, ih _ i (by rw [List.length_set]; exact h)]
    by_cases e : x.1 = i
    · have e2 : (x.1 == i) = true := by simp [e]
      have h1 : pendOf (x :: r) i = x.2 :: pendOf r i := by simp [pendOf, e2]
      rw [h1, List.getLastD_cons, getD_set _ _ _ _ (by rw [e]; exact h), if_pos e]
    · have e2 : (x.1 == i) = false := by simp [e]
      have h1 : pendOf (x :: r) i = pendOf r i := by simp [pendOf, e2]
      rw [h1]
      congr 1
      simp only [List.getD, List.getElem?_set, if_neg e]
/-- Behind a crash a sector is what was firm or one of what was pending for it. -/
theorem crash_from (f : List (List Nat)) (l : List (Nat × List Nat)) (pick : List Int) (i : Nat) (hl : ∀ x ∈ l, x.1 < f.length) : (applyP f (pickP l pick 0)).getD i zeroPg = f.getD i zeroPg ∨ (applyP f (pickP l pick 0)).getD i zeroPg ∈ pendOf l i := by
  rcases applyP_from (pickP l pick 0) f i (fun x hx => hl x (pickP_mem hx)) with h | ⟨x, hx, h1, h2⟩
  · exact .inl h
  · right
    rw [h2]
    exact List.mem_map.2 ⟨x, List.mem_filter.2 ⟨pickP_mem hx, by simp [h1]⟩, rfl⟩
end Go.Proofs.YtjmjfgbpjecgfaaDoor
