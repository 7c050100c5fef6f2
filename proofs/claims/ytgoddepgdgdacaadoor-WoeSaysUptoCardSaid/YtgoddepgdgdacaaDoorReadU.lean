/-
  What a law's arguments read as, and how much they hold: for the '..Upto' statements.
-/
import Derived.Test.YtgoddepgdgdacaaDoorRows
import Derived.Test.YtgoddepgdgdacaaDoorRead
namespace Go.Proofs.YtgoddepgdgdacaaDoor
set_option linter.unusedVariables false
set_option linter.unusedSimpArgs false
set_option linter.unnecessarySimpa false
open Go.ChangeShapes Go.WideShapes Go.ChangeAt Go.RowKit

mutual
/-- How many values and letters a datum holds. -/
def bulkD : D → Nat
  | .b _ => 1
  | .i _ => 1
  | .s x => x.size + 1
  | .agg l => bulkDs l + 1
  | .sl _ _ _ l => bulkDs l + 1
def bulkDs : List D → Nat
  | [] => 0
  | d :: r => bulkD d + bulkDs r
 end

section
variable {H : Type} {enc : TypeId × Value → H} {P : Program} {w : World}

theorem bulkDs_le : ∀ (l : List D) (es : List (DataW H)), l.length ≤ es.length → (∀ (i : Nat) (d : D) (e : DataW H), l[i]? = some d → es[i]? = some e → bulkD d ≤ Rows.uptoBulk e) → bulkDs l ≤ Rows.uptoBulkAll es := by
  intro l
  induction l with
  | nil => intro es _ _; simp [bulkDs]
  | cons x r ih =>
    intro es hl h
    cases es with
    | nil => simp at hl
    | cons e es =>
      have h0 := h 0 x e rfl rfl
      have h1 := ih es (by simpa using hl) (fun i d e' hd he => h (i + 1) d e' (by simpa using hd) (by simpa using he))
      simp only [bulkDs, Rows.uptoBulkAll]
      omega
theorem bulkDs_strs : ∀ (zs : List ByteArray), bulkDs (zs.map .s) = (zs.map fun z => z.size + 1).sum := by
  intro zs
  induction zs with
  | nil => rfl
  | cons z r ih => simp only [List.map_cons, bulkDs, bulkD, List.sum_cons, ih]

theorem rd_of_trodU {base : Nat} : ∀ (fuel m : Nat) (t : TypeId) (cs : List Value) (d : DataW H) (ps : List MemPlace), plainT P m t = true →
    DataW.trod enc P w base (fun _ => true) true fuel t cs = some (d, ps) → (∀ x ∈ d.weights P t, x ≤ reachBytes) → ∃ D, Rd P w t cs D ∧ bulkD D ≤ Rows.uptoBulk d := by
  intro fuel
  induction fuel with
  | zero => intro m t cs d ps _ h _; simp [DataW.trod] at h
  | succ fuel ih =>
    intro m t cs d ps hp h hw
    cases m with
    | zero => simp [plainT] at hp
    | succ m =>
      unfold plainT at hp
      split at hp
      · rename_i ht
        obtain ⟨x, rfl, hx⟩ := DataW.trod_bool ht h
        simp only [Prod.mk.injEq] at hx
        obtain ⟨rfl, _⟩ := hx
        exact ⟨_, .b ht, by simp [bulkD, Rows.uptoBulk]⟩
      · rename_i k ht
        obtain ⟨n, rfl, hx, hwf⟩ := DataW.trod_int ht h
        simp only [Prod.mk.injEq] at hx
        obtain ⟨rfl, _⟩ := hx
        exact ⟨_, .i ht hwf, by simp [bulkD, Rows.uptoBulk]⟩
      · rename_i ht
        obtain ⟨s, rfl, hx, hs⟩ := DataW.trod_string ht h
        simp only [Prod.mk.injEq] at hx
        obtain ⟨rfl, _⟩ := hx
        exact ⟨_, .s ht hs (by have := hw s.data.toList.length (by simp [DataW.weights]); simpa using this), by simp [bulkD, Rows.uptoBulk]⟩
      · rename_i e ht
        rcases DataW.trod_slice ht h with ⟨rfl, hx⟩ | ⟨a, len, cap, elems, rest, n, hn, rfl, hx, hb, hl, hm, hlen, hel, hsp, _⟩
        · exact ⟨.sl none 0 0 [], .sl (fun _ => []) ht rfl (Nat.le_refl _) (by unfold maxLen; omega) (by simp) (fun _ => rfl) (fun i hi => by omega) (fun i d hi => by simp at hi), by simp only [Prod.mk.injEq] at hx; obtain ⟨rfl, _⟩ := hx; simp [bulkD, bulkDs, Rows.uptoBulk]⟩
        · obtain rfl : fuel = n := by omega
          simp only [Prod.mk.injEq] at hx
          obtain ⟨rfl, rfl⟩ := hx
          have hrl := (hsp rfl).1
          have hreach : (elems.length + rest.length) * P.bytesOf e ≤ reachBytes := hw _ (by simp [DataW.weights, ht])
          have hev : ∀ i, i < len → ∃ x : List Value × D, (x.1.length = P.cellsOf e ∧ ∀ j, j < P.cellsOf e → w.cell? (a.add (i * P.cellsOf e + j)) = x.1[j]?) ∧ Rd P w e x.1 x.2 ∧ ∀ q, elems[i]? = some q → bulkD x.2 ≤ Rows.uptoBulk q.1 := by
            intro i hi
            have h1 := hel i hi
            have hei : elems[i]? = some elems[i] := List.getElem?_eq_getElem (by omega)
            rw [hei] at h1
            obtain ⟨cs', hcs, ht'⟩ := Option.bind_eq_some_iff.1 h1
            have hsome := World.cells?_some hcs
            obtain ⟨D, hD, hDb⟩ := ih m e cs' elems[i].1 elems[i].2 hp ht' (fun x hx => hw x (by
              simp only [DataW.weights, ht, List.mem_cons, List.mem_append]
              exact .inr (.inl (weights_all_mem (i := i) (by simp [hei]) x hx))))
            refine ⟨(cs', D), ⟨hsome.2.1, fun j hj => ?_⟩, hD, fun q hq => by rw [hei] at hq; cases hq; exact hDb⟩
            have := hsome.2.2 j hj
            rw [add_of_add] at this
            exact this
          obtain ⟨l, hll, hlr⟩ := choose_list hev
          refine ⟨.sl (some a) len cap (l.map (·.2)), .sl (fun i => (l.map (·.1)).getD i []) ht (by simp [hll]) hl hm ?_ (fun h => by cases h) ?_ ?_, ?_⟩
          · have : elems.length + rest.length = cap := by omega
            rw [this] at hreach
            exact hreach
          · rintro i hi ad ⟨rfl⟩
            have hli : l[i]? = some l[i] := List.getElem?_eq_getElem (by omega)
            have := (hlr i _ hli).1
            simpa [List.getD, hli] using this
          · intro i d hi
            rw [List.getElem?_map] at hi
            obtain ⟨x, hx, rfl⟩ := Option.map_eq_some_iff.1 hi
            have := (hlr i _ hx).2.1
            simpa [List.getD, hx] using this
          · have := bulkDs_le (l.map (·.2)) (elems.map (·.1)) (by simp [hll, hlen]) (fun i d e hd he => by
              rw [List.getElem?_map] at hd he
              obtain ⟨x, hx, rfl⟩ := Option.map_eq_some_iff.1 hd
              obtain ⟨y, hy, rfl⟩ := Option.map_eq_some_iff.1 he
              exact (hlr i _ hx).2.2 y hy)
            simp only [bulkD, Rows.uptoBulk]
            omega
      · rename_i n e ht
        obtain ⟨xs, m', hm', hx, hl, hxl, hxs⟩ := DataW.trod_array ht h
        obtain rfl : fuel = m' := by omega
        simp only [Prod.mk.injEq] at hx
        obtain ⟨rfl, rfl⟩ := hx
        have hev : ∀ i, i < n → ∃ D, Rd P w e ((cs.drop (i * P.cellsOf e)).take (P.cellsOf e)) D ∧ ∀ q, xs[i]? = some q → bulkD D ≤ Rows.uptoBulk q.1 := by
          intro i hi
          have hei : xs[i]? = some xs[i] := List.getElem?_eq_getElem (by omega)
          have h1 := hxs i hi
          rw [hei] at h1
          obtain ⟨D, hD, hDb⟩ := ih m e _ xs[i].1 xs[i].2 hp h1 (fun x hx => hw x (by
            simp only [DataW.weights, ht]
            exact weights_all_mem (i := i) (by simp [hei]) x hx))
          exact ⟨D, hD, fun q hq => by rw [hei] at hq; cases hq; exact hDb⟩
        obtain ⟨l, hll, hlr⟩ := choose_list hev
        refine ⟨.agg l, .ar ht hl hll (fun i d hd => (hlr i d hd).1), ?_⟩
        have := bulkDs_le l (xs.map (·.1)) (by simp [hll, hxl]) (fun i d e hd he => by
          rw [List.getElem?_map] at he
          obtain ⟨y, hy, rfl⟩ := Option.map_eq_some_iff.1 he
          exact (hlr i _ hd).2 y hy)
        simp only [bulkD, Rows.uptoBulk]
        omega
      · rename_i fs ht
        obtain ⟨xs, m', hm', hx, hl, hxl, hxs⟩ := DataW.trod_struct ht h
        obtain rfl : fuel = m' := by omega
        simp only [Prod.mk.injEq] at hx
        obtain ⟨rfl, rfl⟩ := hx
        have hev : ∀ i, i < fs.size → ∃ D, (∀ f, fs[i]? = some f → Rd P w f.type ((cs.drop f.offset).take (P.cellsOf f.type)) D) ∧ ∀ q, xs[i]? = some q → bulkD D ≤ Rows.uptoBulk q.1 := by
          intro i hi
          have hei : xs[i]? = some xs[i] := List.getElem?_eq_getElem (by omega)
          have hfi : fs[i]? = some fs[i] := Array.getElem?_eq_getElem hi
          have h1 := hxs i _ hfi
          rw [hei] at h1
          have hpf : plainT P m fs[i].type = true := by
            have := List.all_eq_true.1 hp fs[i] (by simp)
            exact this
          obtain ⟨D, hD, hDb⟩ := ih m _ _ xs[i].1 xs[i].2 hpf h1 (fun x hx => hw x (by
            simp only [DataW.weights, ht]
            exact DataW.weights_mem_each (j := i) (by simp [hfi]) (by simp [hei]) x hx))
          exact ⟨D, fun f hf => by rw [hfi] at hf; cases hf; exact hD, fun q hq => by rw [hei] at hq; cases hq; exact hDb⟩
        obtain ⟨l, hll, hlr⟩ := choose_list hev
        refine ⟨.agg l, .st ht hl hll (fun i f d hf hd => (hlr i d hd).1 f hf), ?_⟩
        have := bulkDs_le l (xs.map (·.1)) (by simp [hll, hxl]) (fun i d e hd he => by
          rw [List.getElem?_map] at he
          obtain ⟨y, hy, rfl⟩ := Option.map_eq_some_iff.1 he
          exact (hlr i _ hd).2 y hy)
        simp only [bulkD, Rows.uptoBulk]
        omega
      · cases hp

theorem rdv_openU {r : Reach} {b0 m : Nat} {t : TypeId} {v : Value} {d : DataW H} {ps : List MemPlace} (hp : plainT P m t = true) (hval : Value.okWide P w r b0 t v)
    (h : DataW.Trod enc P w 0 (fun _ => true) true t v d ps) (hw : ∀ x ∈ d.weights P t, x ≤ reachBytes) : ∃ D, RdV P w t v D ∧ bulkD D ≤ Rows.uptoBulk d := by
  obtain ⟨fuel, hf⟩ := h
  obtain ⟨D, hD, hb⟩ := rd_of_trodU fuel m t _ d ps hp hf hw
  exact ⟨D, ⟨hD, r, b0, hval⟩, hb⟩
end
end Go.Proofs.YtgoddepgdgdacaaDoor
