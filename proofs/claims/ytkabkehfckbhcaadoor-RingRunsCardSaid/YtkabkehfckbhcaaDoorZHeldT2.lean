/-
  As HeldT, but that the last operations may wait for the first ones through others.
-/
import Derived.Test.YtkabkehfckbhcaaDoorMgA
namespace Go.Proofs.YtkabkehfckbhcaaDoor
set_option linter.unusedVariables false

section
variable {P : Program} {ops : Array Oper} {Q : Exit → Act → World → Prop} {md : Region.Mode} {S : World → Prop} {n : Nat}

/-- Whatever is listed, what it waits for is listed, too. -/
def Closed (md : Region.Mode) (ops : Array Oper) (l : Array Bool) : Prop := ∀ k o, ops[k]? = some o → l.getD k false = true → ∀ e ∈ o.after, Region.binds md e = true → l.getD e.on false = true
def closedL (md : Region.Mode) (ops : Array Oper) (l : Array Bool) : Bool := (List.range ops.size).all fun k => !(l.getD k false) || match ops[k]? with
  | some o => o.after.all fun e => !(Region.binds md e) || l.getD e.on false
  | none => true
theorem closedL_spec {l : Array Bool} (h : closedL md ops l = true) : Closed md ops l := by
  intro k o ho hk e he hb
  have h1 := List.all_eq_true.1 h k (List.mem_range.2 (Array.getElem?_eq_some_iff.1 ho).1)
  simp only [hk, ho, Bool.not_true, Bool.false_or] at h1
  have h2 := Array.all_eq_true'.1 h1 e he
  simp only [hb, Bool.not_true, Bool.false_or] at h2
  exact h2
theorem Closed.step {l : Array Bool} (h : Closed md ops l) {j : Nat} (hj : j ∈ Region.ready md ops l) : Closed md ops (l.setIfInBounds j true) := by
  have up : ∀ x, l.getD x false = true → (l.setIfInBounds j true).getD x false = true := fun x hx => by
    by_cases e : j = x
    · subst e
      have hlt : j < l.size := by
        rcases Nat.lt_or_ge j l.size with h' | h'
        · exact h'
        · simp [h'] at hx
      simp [hlt]
    · rw [getD_set_ne false e]; exact hx
  intro k o ho hk e he hb
  obtain ⟨_, o', ho', hall⟩ := mem_ready.1 hj
  by_cases hjk : j = k
  · subst hjk
    obtain rfl : o' = o := Option.some.inj (ho'.symm.trans ho)
    exact up _ (hall e he hb)
  · rw [getD_set_ne false hjk] at hk
    exact up _ (h k o ho hk e he hb)
/-- The operations that wait for i, through others or not. -/
def waitsOf (md : Region.Mode) (ops : Array Oper) (i : Nat) : List Nat := (List.range ops.size).foldl (fun ws k => match ops[k]? with
  | some o => if o.after.any (fun e => Region.binds md e && (e.on == i || (decide (e.on < k) && ws.contains e.on))) then k :: ws else ws
  | none => ws) []
def certOk (md : Region.Mode) (ops : Array Oper) (n i : Nat) (ws : List Nat) : Bool := ((List.range ops.size).all fun j => decide (j < n) || ws.contains j) && ws.all fun k => match ops[k]? with
  | some o => o.after.any (fun e => Region.binds md e && (e.on == i || (decide (e.on < k) && ws.contains e.on)))
  | none => false
theorem waits_spec {i : Nat} {ws : List Nat} (h : certOk md ops n i ws = true) {l : Array Bool} (hc : Closed md ops l) : ∀ (f k : Nat), k < f → k ∈ ws → (l.getD k false = true ∨ k ∈ Region.ready md ops l) → l.getD i false = true := by
  intro f
  induction f with
  | zero => intro k hk; omega
  | succ f ih =>
    intro k hk hw hor
    simp only [certOk, Bool.and_eq_true] at h
    have h1 := List.all_eq_true.1 h.2 k hw
    cases ho : ops[k]? with
    | none => rw [ho] at h1; cases h1
    | some o =>
      rw [ho] at h1
      obtain ⟨e, he, h2⟩ := Array.any_eq_true'.1 h1
      simp only [Bool.and_eq_true, Bool.or_eq_true, beq_iff_eq, decide_eq_true_eq, List.contains_iff_mem] at h2
      have h3 : l.getD e.on false = true := by
        rcases hor with hl | hr
        · exact hc k o ho hl e he h2.1
        · obtain ⟨_, o', ho', hall⟩ := mem_ready.1 hr
          obtain rfl : o' = o := Option.some.inj (ho'.symm.trans ho)
          exact hall e he h2.1
      rcases h2.2 with hi | ⟨hlt, hin⟩
      · rw [← hi]; exact h3
      · exact ih e.on (by omega) hin (.inl h3)
theorem wait_last {i j : Nat} {ws : List Nat} (h : certOk md ops n i ws = true) {l : Array Bool} (hc : Closed md ops l) (hi : i ∈ Region.ready md ops l) (hj : j ∈ Region.ready md ops l) : j < n := by
  refine Classical.byContradiction fun hn => ?_
  have h0 := h
  simp only [certOk, Bool.and_eq_true] at h0
  obtain ⟨_, o, ho, _⟩ := mem_ready.1 hj
  have h1 := List.all_eq_true.1 h0.1 j (List.mem_range.2 (Array.getElem?_eq_some_iff.1 ho).1)
  simp only [hn, decide_false, Bool.false_or, List.contains_iff_mem] at h1
  have h2 := waits_spec h hc (j + 1) j (by omega) h1 (.inr hj)
  have h3 := (mem_ready.1 hi).1
  rcases Nat.lt_or_ge i l.size with h' | h'
  · simp [h'] at h2 h3; rw [h2] at h3; cases h3
  · simp [h'] at h2
theorem wpTill_firstW {i : Nat} {oi : Oper} {v : Value} {ws : List Nat} (hi : ops[i]? = some oi) (hs : Region.noSelect ops = true) (hw : certOk md ops n i ws = true)
    (hQ : ∀ c a w, Q (.panic c) (a.put oi.dst v) w → Q (.panic c) a w) : ∀ (f : Nat) (l : Array Bool) (a : Act) (w : World), Closed md ops l →
      (∀ j oj, ops[j]? = some oj → j ≠ i → l.getD j true = false → (∀ e ∈ oj.after, Region.binds md e = true → e.on ≠ i) → oi.apart ops oj = true) →
      i ∈ Region.ready md ops l → YieldsIf P ops S oi v a → S w → wpTill P md ops Q S n f (l.setIfInBounds i true) (a.put oi.dst v) w → wpTill P md ops Q S n (f + 1) l a w := by
  intro f
  induction f with
  | zero =>
    intro l a w _ _ hr hy hS H
    refine ⟨fun h => (by rw [h] at hr; cases hr), fun j hj => ?_⟩
    by_cases hji : j = i
    · subst hji; exact hy.wpOp hi hS ⟨fun _ => hS, H⟩
    · have h1 := ready_mono hj hji
      rw [H.1] at h1
      cases h1
  | succ f ih =>
    intro l a w hc hfree hr hy hS H
    refine ⟨fun h => (by rw [h] at hr; cases hr), fun j hj => ?_⟩
    by_cases hji : j = i
    · subst hji; exact hy.wpOp hi hS ⟨fun _ => hS, H⟩
    · have h1 := H.2 j (ready_mono hj hji)
      obtain ⟨hun, oj, hoj, -⟩ := mem_ready.1 hj
      have hno := ready_not hr hj hoj
      have hjn : j < n := wait_last hw hc hr hj
      have h2 := wpOp_putIf hoj (hfree j oj hoj hji hun (fun e he hb heq => hno ⟨e, he, hb, heq⟩)) (fun cs b => Region.noSelect_spec hs i oi cs b hi) (fun cs b => Region.noSelect_spec hs j oj cs b hoj) hQ hy h1
      refine wpOp_mono (fun a' w' h3 => ⟨h3.2.1, ih (l.setIfInBounds j true) a' w' (hc.step hj) (fun k ok hk hki hu hn => hfree k ok hk hki ?_ hn) (ready_mono hr (Ne.symm hji)) h3.1 (h3.2.1 hjn) ?_⟩) h2
      · by_cases hjk : j = k
        · subst hjk; exact hun
        · rw [getD_set_ne true hjk] at hu; exact hu
      · rw [Array.setIfInBounds_comm _ _ hji]
        exact h3.2.2
theorem wpTill_takeW {i : Nat} {oi : Oper} {v : Value} {f : Nat} {l : Array Bool} {a : Act} {w : World} (hi : ops[i]? = some oi) (hs : Region.noSelect ops = true) (hw : certOk md ops n i (waitsOf md ops i) = true) (hc : closedL md ops l = true)
    (hf : Region.free md ops l i = true) (hr : (Region.ready md ops l).contains i = true) (hQ : ∀ c a w, Q (.panic c) (a.put oi.dst v) w → Q (.panic c) a w) (hy : YieldsIf P ops S oi v a) (hS : S w)
    (h : wpTill P md ops Q S n f (l.setIfInBounds i true) (a.put oi.dst v) w) : wpTill P md ops Q S n (f + 1) l a w :=
  wpTill_firstW hi hs hw hQ f l a w (closedL_spec hc) (Region.free_spec hi hf) (by simpa using hr) hy hS h
end
end Go.Proofs.YtkabkehfckbhcaaDoor
