/-
  A drawn region whose last operations write what the first ones read: a condition S on the world that holds as long as none of these last ones (number n and those behind it) has come up. Each of them waits for whatever is taken first.
-/
import Derived.Test.YtjmjfgbpjecgfaaDoorRows
import Derived.OrdersHeld
import Derived.Deep.RegionHeld
namespace Go.Proofs.YtjmjfgbpjecgfaaDoor
set_option linter.unusedVariables false

section
variable {P : Program} {ops : Array Oper} {Q : Exit → Act → World → Prop} {md : Region.Mode} {S : World → Prop} {n : Nat}

def wpTill (P : Program) (md : Region.Mode) (ops : Array Oper) (Q : Exit → Act → World → Prop) (S : World → Prop) (n : Nat) : Nat → Array Bool → Act → World → Prop
  | 0, l, a, w => Region.ready md ops l = [] ∧ Q .normal a w
  | f + 1, l, a, w => (Region.ready md ops l = [] → Q .normal a w) ∧ ∀ i ∈ Region.ready md ops l, wpOp P ops Q i (fun a' w' => (i < n → S w') ∧ wpTill P md ops Q S n f (l.setIfInBounds i true) a' w') a w
theorem wpAny_of_till : ∀ (f : Nat) (l : Array Bool) (a : Act) (w : World), wpTill P md ops Q S n f l a w → wpAny P md ops Q f l a w := by
  intro f
  induction f with
  | zero => exact fun _ _ _ h => h
  | succ f ih => exact fun l a w h => ⟨h.1, fun i hi => wpOp_mono (fun a' w' h' => ih _ a' w' h'.2) (h.2 i hi)⟩
theorem till_of_any : ∀ (f : Nat) (l : Array Bool) (a : Act) (w : World), (∀ j, j < n → l.getD j true = true) → wpAny P md ops Q f l a w → wpTill P md ops Q S n f l a w := by
  intro f
  induction f with
  | zero => exact fun _ _ _ _ h => h
  | succ f ih =>
    intro l a w hl h
    refine ⟨h.1, fun i hi => wpOp_mono (fun a' w' h' => ⟨fun hin => ?_, ih _ a' w' (fun j hj => ?_) h'⟩) (h.2 i hi)⟩
    · have h1 := (mem_ready.1 hi).1
      rw [hl i hin] at h1
      cases h1
    · by_cases e : i = j
      · subst e
        have h1 := (mem_ready.1 hi).1
        rw [hl i hj] at h1
        cases h1
      · rw [getD_set_ne true e]; exact hl j hj
/-- Everyone from n on waits for i. -/
def waitAll (md : Region.Mode) (ops : Array Oper) (n i : Nat) : Bool := decide (i < n) && (List.range ops.size).all fun j => decide (j < n) || match ops[j]? with
  | some o => o.after.any (fun e => Region.binds md e && e.on == i)
  | none => true
theorem waitAll_spec {i : Nat} (h : waitAll md ops n i = true) {j : Nat} {o : Oper} (hj : ops[j]? = some o) (hn : ¬ j < n) : ∃ e ∈ o.after, Region.binds md e = true ∧ e.on = i := by
  simp only [waitAll, Bool.and_eq_true, List.all_eq_true, List.mem_range] at h
  have h1 := h.2 j (Array.getElem?_eq_some_iff.1 hj).1
  simp only [hj, Bool.or_eq_true, decide_eq_true_eq, hn, false_or] at h1
  obtain ⟨e, he, h2⟩ := Array.any_eq_true'.1 h1
  simp only [Bool.and_eq_true, beq_iff_eq] at h2
  exact ⟨e, he, h2.1, h2.2⟩
theorem ready_not {i : Nat} {l : Array Bool} (hi : i ∈ Region.ready md ops l) {j : Nat} {o : Oper} (hj : j ∈ Region.ready md ops l) (ho : ops[j]? = some o) : ¬ ∃ e ∈ o.after, Region.binds md e = true ∧ e.on = i := by
  rintro ⟨e, he, hb, heq⟩
  obtain ⟨_, o', ho', hall⟩ := mem_ready.1 hj
  obtain rfl : o' = o := Option.some.inj (ho'.symm.trans ho)
  have h1 := hall e he hb
  have h0 := (mem_ready.1 hi).1
  rw [heq] at h1
  rcases Nat.lt_or_ge i l.size with h' | h'
  · simp [h'] at h0 h1; rw [h0] at h1; cases h1
  · simp [Array.getElem?_eq_none h'] at h1
theorem wpTill_first {i : Nat} {oi : Oper} {v : Value} (hi : ops[i]? = some oi) (hs : Region.noSelect ops = true) (hw : waitAll md ops n i = true)
    (hQ : ∀ c a w, Q (.panic c) (a.put oi.dst v) w → Q (.panic c) a w) : ∀ (f : Nat) (l : Array Bool) (a : Act) (w : World),
      (∀ j oj, ops[j]? = some oj → j ≠ i → l.getD j true = false → (∀ e ∈ oj.after, Region.binds md e = true → e.on ≠ i) → oi.apart ops oj = true) →
      i ∈ Region.ready md ops l → YieldsIf P ops S oi v a → S w → wpTill P md ops Q S n f (l.setIfInBounds i true) (a.put oi.dst v) w → wpTill P md ops Q S n (f + 1) l a w := by
  intro f
  induction f with
  | zero =>
    intro l a w _ hr hy hS H
    refine ⟨fun h => (by rw [h] at hr; cases hr), fun j hj => ?_⟩
    by_cases hji : j = i
    · subst hji; exact hy.wpOp hi hS ⟨fun _ => hS, H⟩
    · have h1 := ready_mono hj hji
      rw [H.1] at h1
      cases h1
  | succ f ih =>
    intro l a w hfree hr hy hS H
    refine ⟨fun h => (by rw [h] at hr; cases hr), fun j hj => ?_⟩
    by_cases hji : j = i
    · subst hji; exact hy.wpOp hi hS ⟨fun _ => hS, H⟩
    · have h1 := H.2 j (ready_mono hj hji)
      obtain ⟨hun, oj, hoj, -⟩ := mem_ready.1 hj
      have hno := ready_not hr hj hoj
      have hjn : j < n := Classical.byContradiction fun h => hno (waitAll_spec hw hoj h)
      have h2 := wpOp_putIf hoj (hfree j oj hoj hji hun (fun e he hb heq => hno ⟨e, he, hb, heq⟩)) (fun cs b => Region.noSelect_spec hs i oi cs b hi) (fun cs b => Region.noSelect_spec hs j oj cs b hoj) hQ hy h1
      refine wpOp_mono (fun a' w' h3 => ⟨h3.2.1, ih (l.setIfInBounds j true) a' w' (fun k ok hk hki hu hn => hfree k ok hk hki ?_ hn) (ready_mono hr (Ne.symm hji)) h3.1 (h3.2.1 hjn) ?_⟩) h2
      · by_cases hjk : j = k
        · subst hjk; exact hun
        · rw [getD_set_ne true hjk] at hu; exact hu
      · rw [Array.setIfInBounds_comm _ _ hji]
        exact h3.2.2
theorem wpTill_take {i : Nat} {oi : Oper} {v : Value} {f : Nat} {l : Array Bool} {a : Act} {w : World} (hi : ops[i]? = some oi) (hs : Region.noSelect ops = true) (hw : waitAll md ops n i = true)
    (hf : Region.free md ops l i = true) (hr : (Region.ready md ops l).contains i = true) (hQ : ∀ c a w, Q (.panic c) (a.put oi.dst v) w → Q (.panic c) a w) (hy : YieldsIf P ops S oi v a) (hS : S w)
    (h : wpTill P md ops Q S n f (l.setIfInBounds i true) (a.put oi.dst v) w) : wpTill P md ops Q S n (f + 1) l a w :=
  wpTill_first hi hs hw hQ f l a w (Region.free_spec hi hf) (by simpa using hr) hy hS h
def TillAll (P : Program) (md : Region.Mode) (ops : Array Oper) (Q : Exit → Act → World → Prop) (S : World → Prop) (n f : Nat) (l : Array Bool) (a : Act) (w : World) (rs : List Nat) : Prop :=
  ∀ i ∈ rs, wpOp P ops Q i (fun a' w' => (i < n → S w') ∧ wpTill P md ops Q S n f (l.setIfInBounds i true) a' w') a w
theorem TillAll.nil {f : Nat} {l : Array Bool} {a : Act} {w : World} : TillAll P md ops Q S n f l a w [] := fun _ h => by cases h
theorem TillAll.cons {f : Nat} {l : Array Bool} {a : Act} {w : World} {i : Nat} {o : Oper} {rs : List Nat} (ho : ops[i]? = some o)
    (h : ∀ K' : Act → World → Prop, Shut (∀ a w, S w → (S w → wpTill P md ops Q S n f (l.setIfInBounds i true) a w) → K' a w) → if Region.wanted o (yielded ops a.tmps) = true then Oper.wp P o a w K' Q else K' (a.put o.dst undef) w)
    (hs : TillAll P md ops Q S n f l a w rs) : TillAll P md ops Q S n f l a w (i :: rs) := fun j hj => by
  rcases List.mem_cons.1 hj with rfl | hj
  · exact wpOp_step ho (fun K' hK => h K' (fun a w hS hW => hK a w ⟨fun _ => hS, hW hS⟩))
  · exact hs j hj
theorem wpTill_ready {rs : List Nat} {f : Nat} {l : Array Bool} {a : Act} {w : World} (hr : Region.ready md ops l = rs) (hne : rs ≠ []) (h : TillAll P md ops Q S n f l a w rs) : wpTill P md ops Q S n (f + 1) l a w :=
  ⟨fun h0 => absurd (hr ▸ h0) hne, hr ▸ h⟩
/-- None but the last ones are left: no condition any more. -/
theorem wpTill_last {f : Nat} {l : Array Bool} {a : Act} {w : World} (hl : ((List.range n).all fun j => l.getD j true) = true) (h : wpAny P md ops Q f l a w) : wpTill P md ops Q S n f l a w :=
  till_of_any f l a w (fun j hj => List.all_eq_true.1 hl j (List.mem_range.2 hj)) h
theorem wp_region_till (n : Nat) {id : Nat} {a : Act} {w : World} (hm : P.follows .mixedOrders = true) (hS : S w.drew)
    (h : S w.drew → wpTill P .any ops Q S n ops.size (Array.replicate ops.size false) a w.drew) : (Code.region id ops true).wp P Q a w :=
  wp_region_any hm (wpAny_of_till _ _ _ _ (h hS))
end
end Go.Proofs.YtjmjfgbpjecgfaaDoor
