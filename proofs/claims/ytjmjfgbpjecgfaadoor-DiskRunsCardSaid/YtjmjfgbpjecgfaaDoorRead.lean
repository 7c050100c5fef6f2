/-
  What a law's arguments read as, told without the form's tokens: one inductive reading over plain types (bools, integers, strings, structs, arrays, slices).
-/
import Derived.WalkKit
import Derived.ProofKit
import Derived.OpenShut
import Derived.SizedLaws
namespace Go.Proofs.YtjmjfgbpjecgfaaDoor
set_option linter.unusedVariables false
set_option linter.unusedSimpArgs false
set_option linter.unnecessarySimpa false
open Go.ChangeShapes Go.WideShapes Go.ChangeAt Go.RowKit

/-- A datum. -/
inductive D where
  | b (x : Bool) | i (n : Int) | s (x : ByteArray) | agg (l : List D) | sl (a : Option Addr) (len cap : Nat) (l : List D)

/-- The cells cs of type t read as d in the world w. -/
inductive Rd (P : Program) (w : World) : TypeId → List Value → D → Prop where
  | b {t : TypeId} {x : Bool} (h : P.underlying t = some .bool) : Rd P w t [.bool x] (.b x)
  | i {t : TypeId} {k : IntKind} {n : Int} (h : P.underlying t = some (.int k)) (hw : (Lit.int k n).wf = true) : Rd P w t [.int k n] (.i n)
  | s {t : TypeId} {x : ByteArray} (h : P.underlying t = some .string) (hw : x.size ≤ maxLen) (hr : x.size ≤ reachBytes) : Rd P w t [.string x] (.s x)
  | st {t : TypeId} {fs : Array Field} {cs : List Value} {l : List D} (h : P.underlying t = some (.struct fs)) (hc : cs.length = P.cellsOf t) (hl : l.length = fs.size)
      (hd : ∀ (i : Nat) (f : Field) (d : D), fs[i]? = some f → l[i]? = some d → Rd P w f.type ((cs.drop f.offset).take (P.cellsOf f.type)) d) : Rd P w t cs (.agg l)
  | ar {t e : TypeId} {n : Nat} {cs : List Value} {l : List D} (h : P.underlying t = some (.array n e)) (hc : cs.length = P.cellsOf t) (hl : l.length = n)
      (hd : ∀ (i : Nat) (d : D), l[i]? = some d → Rd P w e ((cs.drop (i * P.cellsOf e)).take (P.cellsOf e)) d) : Rd P w t cs (.agg l)
  | sl {t e : TypeId} {a : Option Addr} {len cap : Nat} {l : List D} (cells : Nat → List Value) (h : P.underlying t = some (.slice e)) (hl : l.length = len) (hc : len ≤ cap) (hm : cap ≤ maxLen)
      (hr : cap * P.bytesOf e ≤ reachBytes) (hn : a = none → cap = 0)
      (hcell : ∀ i, i < len → ∀ ad, a = some ad → (cells i).length = P.cellsOf e ∧ ∀ j, j < P.cellsOf e → w.cell? (ad.add (i * P.cellsOf e + j)) = (cells i)[j]?)
      (hd : ∀ (i : Nat) (d : D), l[i]? = some d → Rd P w e (cells i) d) : Rd P w t [.slice a len cap] (.sl a len cap l)

/-- The type is built of bools, integers, strings, structs, arrays, slices alone, to the depth n. -/
def plainT (P : Program) : Nat → TypeId → Bool
  | 0, _ => false
  | n + 1, t => match P.underlying t with
    | some .bool | some (.int _) | some .string => true
    | some (.slice e) | some (.array _ e) => plainT P n e
    | some (.struct fs) => fs.toList.all fun f => plainT P n f.type
    | _ => false

theorem add_of_add (a : Addr) (i j : Nat) : (a.add i).add j = a.add (i + j) := by
  unfold Addr.add
  by_cases hi : i = 0 <;> by_cases hj : j = 0 <;> simp [hi, hj, Nat.add_assoc]

theorem choose_list {α : Type} {n : Nat} {R : Nat → α → Prop} (h : ∀ i, i < n → ∃ d, R i d) : ∃ l : List α, l.length = n ∧ ∀ i d, l[i]? = some d → R i d := by
  induction n with
  | zero => exact ⟨[], rfl, fun i d h => by simp at h⟩
  | succ n ih =>
    obtain ⟨l, hl, hr⟩ := ih (fun i hi => h i (by omega))
    obtain ⟨d, hd⟩ := h n (by omega)
    refine ⟨l ++ [d], by simp [hl], fun i d' hi => ?_⟩
    by_cases hin : i < n
    · rw [List.getElem?_append_left (by omega)] at hi
      exact hr i d' hi
    · have hi2 : i < (l ++ [d]).length := (List.getElem?_eq_some_iff.1 hi).1
      simp at hi2
      obtain rfl : i = n := by omega
      rw [List.getElem?_append_right (by omega)] at hi
      simp [hl] at hi
      subst hi
      exact hd

section
variable {H : Type} {enc : TypeId × Value → H} {P : Program} {w : World}

theorem weights_all_mem {e : TypeId} : ∀ {ds : List (DataW H)} {i : Nat} {d : DataW H}, ds[i]? = some d → ∀ n ∈ d.weights P e, n ∈ DataW.weightsAll P e ds := by
  intro ds
  induction ds with
  | nil => intro i d h; simp at h
  | cons x r ih =>
    intro i d h n hn
    simp only [DataW.weightsAll, List.mem_append]
    cases i with
    | zero => simp at h; subst h; exact .inl hn
    | succ i => simp at h; exact .inr (ih h n hn)

theorem rd_of_trod {base : Nat} : ∀ (fuel m : Nat) (t : TypeId) (cs : List Value) (d : DataW H) (ps : List MemPlace), plainT P m t = true →
    DataW.trod enc P w base (fun _ => true) true fuel t cs = some (d, ps) → (∀ x ∈ d.weights P t, x ≤ reachBytes) → ∃ D, Rd P w t cs D := by
  intro fuel
  induction fuel with
  | zero => intro m t cs d ps _ h _; simp [DataW.trod] at h
  | succ fuel ih =>
    intro m t cs d ps hp h hw
    cases m with
    | zero => simp [plainT] at hp
    | succ m =>
      unfold plainT at hp
      split at hp
      · rename_i ht
        obtain ⟨x, rfl, _⟩ := DataW.trod_bool ht h
        exact ⟨_, .b ht⟩
      · rename_i k ht
        obtain ⟨n, rfl, _, hwf⟩ := DataW.trod_int ht h
        exact ⟨_, .i ht hwf⟩
      · rename_i ht
        obtain ⟨s, rfl, hx, hs⟩ := DataW.trod_string ht h
        simp only [Prod.mk.injEq] at hx
        obtain ⟨rfl, _⟩ := hx
        exact ⟨_, .s ht hs (by have := hw s.data.toList.length (by simp [DataW.weights]); simpa using this)⟩
      · rename_i e ht
        rcases DataW.trod_slice ht h with ⟨rfl, hx⟩ | ⟨a, len, cap, elems, rest, n, hn, rfl, hx, hb, hl, hm, hlen, hel, hsp, _⟩
        · exact ⟨.sl none 0 0 [], .sl (fun _ => []) ht rfl (Nat.le_refl _) (by unfold maxLen; omega) (by simp) (fun _ => rfl) (fun i hi => by omega) (fun i d hi => by simp at hi)⟩
        · obtain rfl : fuel = n := by omega
          simp only [Prod.mk.injEq] at hx
          obtain ⟨rfl, rfl⟩ := hx
          have hrl := (hsp rfl).1
          have hreach : (elems.length + rest.length) * P.bytesOf e ≤ reachBytes := hw _ (by simp [DataW.weights, ht])
          have hev : ∀ i, i < len → ∃ x : List Value × D, (x.1.length = P.cellsOf e ∧ ∀ j, j < P.cellsOf e → w.cell? (a.add (i * P.cellsOf e + j)) = x.1[j]?) ∧ Rd P w e x.1 x.2 := by
            intro i hi
            have h1 := hel i hi
            have hei : elems[i]? = some elems[i] := List.getElem?_eq_getElem (by omega)
            rw [hei] at h1
            obtain ⟨cs', hcs, ht'⟩ := Option.bind_eq_some_iff.1 h1
            have hsome := World.cells?_some hcs
            obtain ⟨D, hD⟩ := ih m e cs' elems[i].1 elems[i].2 hp ht' (fun x hx => hw x (by
              simp only [DataW.weights, ht, List.mem_cons, List.mem_append]
              exact .inr (.inl (weights_all_mem (i := i) (by simp [hei]) x hx))))
            refine ⟨(cs', D), ⟨hsome.2.1, fun j hj => ?_⟩, hD⟩
            have := hsome.2.2 j hj
            rw [add_of_add] at this
            exact this
          obtain ⟨l, hll, hlr⟩ := choose_list hev
          refine ⟨.sl (some a) len cap (l.map (·.2)), .sl (fun i => (l.map (·.1)).getD i []) ht (by simp [hll]) hl hm ?_ (fun h => by cases h) ?_ ?_⟩
          · have : elems.length + rest.length = cap := by omega
            rw [this] at hreach
            exact hreach
          · rintro i hi ad ⟨rfl⟩
            have hli : l[i]? = some l[i] := List.getElem?_eq_getElem (by omega)
            have := (hlr i _ hli).1
            simpa [List.getD, hli] using this
          · intro i d hi
            rw [List.getElem?_map] at hi
            obtain ⟨x, hx, rfl⟩ := Option.map_eq_some_iff.1 hi
            have := (hlr i _ hx).2
            simpa [List.getD, hx] using this
      · rename_i n e ht
        obtain ⟨xs, m', hm', hx, hl, hxl, hxs⟩ := DataW.trod_array ht h
        obtain rfl : fuel = m' := by omega
        simp only [Prod.mk.injEq] at hx
        obtain ⟨rfl, rfl⟩ := hx
        have hev : ∀ i, i < n → ∃ D, Rd P w e ((cs.drop (i * P.cellsOf e)).take (P.cellsOf e)) D := by
          intro i hi
          have hei : xs[i]? = some xs[i] := List.getElem?_eq_getElem (by omega)
          have h1 := hxs i hi
          rw [hei] at h1
          exact ih m e _ xs[i].1 xs[i].2 hp h1 (fun x hx => hw x (by
            simp only [DataW.weights, ht]
            exact weights_all_mem (i := i) (by simp [hei]) x hx))
        obtain ⟨l, hll, hlr⟩ := choose_list hev
        exact ⟨.agg l, .ar ht hl hll hlr⟩
      · rename_i fs ht
        obtain ⟨xs, m', hm', hx, hl, hxl, hxs⟩ := DataW.trod_struct ht h
        obtain rfl : fuel = m' := by omega
        simp only [Prod.mk.injEq] at hx
        obtain ⟨rfl, rfl⟩ := hx
        have hev : ∀ i, i < fs.size → ∃ D, ∀ f, fs[i]? = some f → Rd P w f.type ((cs.drop f.offset).take (P.cellsOf f.type)) D := by
          intro i hi
          have hei : xs[i]? = some xs[i] := List.getElem?_eq_getElem (by omega)
          have hfi : fs[i]? = some fs[i] := Array.getElem?_eq_getElem hi
          have h1 := hxs i _ hfi
          rw [hei] at h1
          have hpf : plainT P m fs[i].type = true := by
            have := List.all_eq_true.1 hp fs[i] (by simp)
            exact this
          obtain ⟨D, hD⟩ := ih m _ _ xs[i].1 xs[i].2 hpf h1 (fun x hx => hw x (by
            simp only [DataW.weights, ht]
            exact DataW.weights_mem_each (j := i) (by simp [hfi]) (by simp [hei]) x hx))
          exact ⟨D, fun f hf => by rw [hfi] at hf; cases hf; exact hD⟩
        obtain ⟨l, hll, hlr⟩ := choose_list hev
        exact ⟨.agg l, .st ht hl hll (fun i f d hf hd => hlr i d hd f hf)⟩
      · cases hp

/-- A value of type t that came in, read. -/
def RdV (P : Program) (w : World) (t : TypeId) (v : Value) (d : D) : Prop := Rd P w t v.cells.toList d ∧ ∃ (r : Reach) (b : Nat), Value.okWide P w r b t v

theorem rdv_open {r : Reach} {b0 m : Nat} {t : TypeId} {v : Value} {d : DataW H} {ps : List MemPlace} (hp : plainT P m t = true) (hval : Value.okWide P w r b0 t v)
    (h : DataW.Trod enc P w 0 (fun _ => true) true t v d ps) (hw : ∀ x ∈ d.weights P t, x ≤ reachBytes) : ∃ D, RdV P w t v D := by
  obtain ⟨fuel, hf⟩ := h
  obtain ⟨D, hD⟩ := rd_of_trod fuel m t _ d ps hp hf hw
  exact ⟨D, hD, r, b0, hval⟩

theorem RdV.bool {t : TypeId} {v : Value} {d : D} (h : RdV P w t v d) (ht : P.underlying t = some .bool) : ∃ x, v = .bool x ∧ d = .b x := by
  obtain ⟨h, r, b0, hv⟩ := h
  obtain ⟨x, rfl⟩ := okWide_bool ht hv
  simp only [Value.cells] at h
  cases h with
  | b _ => exact ⟨_, rfl, rfl⟩
  | st h _ _ _ => rw [ht] at h; cases h
  | ar h _ _ _ => rw [ht] at h; cases h
theorem RdV.int {t : TypeId} {v : Value} {d : D} {k : IntKind} (h : RdV P w t v d) (ht : P.underlying t = some (.int k)) : ∃ n, v = .int k n ∧ d = .i n ∧ (Lit.int k n).wf = true := by
  obtain ⟨h, r, b0, hv⟩ := h
  obtain ⟨x, rfl⟩ := okWide_int ht hv
  simp only [Value.cells] at h
  cases h with
  | i _ hw => exact ⟨_, rfl, rfl, hw⟩
  | st h _ _ _ => rw [ht] at h; cases h
  | ar h _ _ _ => rw [ht] at h; cases h
theorem RdV.string {t : TypeId} {v : Value} {d : D} (h : RdV P w t v d) (ht : P.underlying t = some .string) : ∃ x : ByteArray, v = .string x ∧ d = .s x ∧ x.size ≤ reachBytes := by
  obtain ⟨h, r, b0, hv⟩ := h
  obtain ⟨x, rfl⟩ := okWide_string ht hv
  simp only [Value.cells] at h
  cases h with
  | s _ _ hr => exact ⟨_, rfl, rfl, hr⟩
  | st h _ _ _ => rw [ht] at h; cases h
  | ar h _ _ _ => rw [ht] at h; cases h
theorem RdV.slice {t e : TypeId} {v : Value} {d : D} (h : RdV P w t v d) (ht : P.underlying t = some (.slice e)) : ∃ a len cap l, v = .slice a len cap ∧ d = .sl a len cap l ∧ Rd P w t [.slice a len cap] (.sl a len cap l) := by
  obtain ⟨h, r, b0, hv⟩ := h
  obtain ⟨a, len, cap, rfl⟩ := okWide_slice ht hv
  simp only [Value.cells] at h
  cases h with
  | sl cells h1 h2 h3 h4 h5 h6 h7 h8 => exact ⟨_, _, _, _, rfl, rfl, .sl cells h1 h2 h3 h4 h5 h6 h7 h8⟩
  | st h _ _ _ => rw [ht] at h; cases h
  | ar h _ _ _ => rw [ht] at h; cases h
theorem RdV.struct {t : TypeId} {v : Value} {d : D} {fs : Array Field} (h : RdV P w t v d) (ht : P.underlying t = some (.struct fs)) : ∃ cs l, v = .agg cs ∧ d = .agg l ∧ Rd P w t cs.toList (.agg l) := by
  obtain ⟨h, r, b0, hv⟩ := h
  simp only [Value.okWide, ht] at hv
  obtain ⟨cs, rfl, _⟩ := hv
  simp only [Value.cells] at h
  generalize hcs : cs.toList = l0 at h
  cases h with
  | st h1 h2 h3 h4 => exact ⟨cs, _, rfl, rfl, by rw [hcs]; exact .st h1 h2 h3 h4⟩
  | ar h1 h2 h3 h4 => rw [ht] at h1; cases h1
  | b h => rw [ht] at h; cases h
  | i h _ => rw [ht] at h; cases h
  | s h _ _ => rw [ht] at h; cases h
  | sl _ h _ _ _ _ _ _ _ => rw [ht] at h; cases h
theorem RdV.array {t e : TypeId} {n : Nat} {v : Value} {d : D} (h : RdV P w t v d) (ht : P.underlying t = some (.array n e)) : ∃ cs l, v = .agg cs ∧ d = .agg l ∧ Rd P w t cs.toList (.agg l) := by
  obtain ⟨h, r, b0, hv⟩ := h
  simp only [Value.okWide, ht] at hv
  obtain ⟨cs, rfl, _⟩ := hv
  simp only [Value.cells] at h
  generalize hcs : cs.toList = l0 at h
  cases h with
  | ar h1 h2 h3 h4 => exact ⟨cs, _, rfl, rfl, by rw [hcs]; exact .ar h1 h2 h3 h4⟩
  | st h1 h2 h3 h4 => rw [ht] at h1; cases h1
  | b h => rw [ht] at h; cases h
  | i h _ => rw [ht] at h; cases h
  | s h _ _ => rw [ht] at h; cases h
  | sl _ h _ _ _ _ _ _ _ => rw [ht] at h; cases h
end

end Go.Proofs.YtjmjfgbpjecgfaaDoor
