/-
  A map of the call's own with integer keys: what it holds, key by key; lookup, store, delete.
-/
import Derived.WalkKit
import Derived.WalkLawsBesides
import Derived.MapKept
namespace Go.Proofs.YtjmjfgbpjecgfaaDoor
set_option linter.unusedVariables false
set_option linter.unusedSimpArgs false
open Go.RowKit

/-- The entries l hold, at each key n of kind k, what f says. -/
def Holds (k : IntKind) (l : List MapEntry) (f : Int → Option Value) : Prop :=
  (∀ e ∈ l, ∃ n, e.key = .int k n) ∧ (l.map (·.key)).Nodup ∧ ∀ n v, f n = some v ↔ ∃ e ∈ l, e.key = .int k n ∧ e.val = v
def IntMap (w : World) (b : Nat) (k : IntKind) (f : Int → Option Value) : Prop := ∃ es clock, w.heap[b]? = some (.map es clock) ∧ Holds k es.toList f

theorem findNow_spec (k0 k : IntKind) (n : Int) : ∀ (l : List MapEntry) (i : Nat), (∀ e ∈ l, ∃ m, e.key = .int k m) →
    (Instr.findNow (.int k0) (.int k n) l i = some none ∧ ∀ e ∈ l, e.key ≠ .int k n) ∨ (∃ q e, Instr.findNow (.int k0) (.int k n) l i = some (some (i + q, e.val)) ∧ l[q]? = some e ∧ e.key = .int k n)
  | [], i, _ => .inl ⟨rfl, by simp⟩
  | e :: l, i, h => by
    obtain ⟨m, hm⟩ := h e (by simp)
    have hs : Instr.sameNow (.int k0) (.int k n) e.key = some (n == m) := by rw [hm]; simp [Instr.sameNow]
    by_cases hnm : n = m
    · subst hnm
      refine .inr ⟨0, e, ?_, rfl, hm⟩
      unfold Instr.findNow
      rw [hs]
      simp
    · have hf : (n == m) = false := by simpa using hnm
      rw [hf] at hs
      rcases findNow_spec k0 k n l (i + 1) (fun x hx => h x (by simp [hx])) with ⟨h1, h2⟩ | ⟨q, x, h1, h2, h3⟩
      · refine .inl ⟨?_, ?_⟩
        · unfold Instr.findNow
          rw [hs]
          exact h1
        · intro x hx
          rcases List.mem_cons.1 hx with rfl | hx
          · rw [hm]; intro hh; injection hh with _ hh; exact hnm hh.symm
          · exact h2 x hx
      · refine .inr ⟨q + 1, x, ?_, by simpa using h2, h3⟩
        unfold Instr.findNow
        rw [hs]
        simp only
        rw [h1, show i + 1 + q = i + (q + 1) by omega]

theorem Holds.empty (k : IntKind) : Holds k [] (fun _ => none) := ⟨by simp, by simp, by simp⟩
theorem IntMap.new (w : World) (k : IntKind) : IntMap (w.alloc (.map #[] 0)) w.heap.size k (fun _ => none) := ⟨#[], 0, by show (w.heap.push _)[w.heap.size]? = _; simp, Holds.empty k⟩

theorem IntMap.lt {w : World} {b : Nat} {k : IntKind} {f : Int → Option Value} (h : IntMap w b k f) : b < w.heap.size := by
  obtain ⟨es, clock, hb, _⟩ := h
  by_cases hlt : b < w.heap.size
  · exact hlt
  · rw [Array.getElem?_eq_none (by omega)] at hb; cases hb
theorem IntMap.of_block {w w' : World} {b : Nat} {k : IntKind} {f : Int → Option Value} (h : IntMap w b k f) (hb : w'.heap[b]? = w.heap[b]?) : IntMap w' b k f := by
  obtain ⟨es, clock, h1, h2⟩ := h
  exact ⟨es, clock, hb.trans h1, h2⟩
theorem IntMap.of_below {w w' : World} {b : Nat} {k : IntKind} {f : Int → Option Value} (h : IntMap w b k f) (hb : Below w.heap.size w w') : IntMap w' b k f := h.of_block (hb.block b h.lt)

section
variable {P : Program} {w : World} {t kt e : TypeId} {b : Nat} {k : IntKind} {f : Int → Option Value}

theorem run_checkKey_int (hk : P.underlying kt = some (.int k)) (em : Bool) (d : Nat) (n : Int) (W : World) : (Instr.checkKey em (d + 1) kt (.int k n)).run P W = .ok () W := by
  simp [Instr.checkKey, run_underlying hk]

theorem run_lookup_intMap (ht : P.underlying t = some (.map kt e)) (hk : P.underlying kt = some (.int k)) (h : IntMap w b k f) {z : Value} (hz : (zeroValue e).run P w = .ok z w) (n : Int) :
    (Instr.lookup t (.map (some b)) (.int k n) false).run P w = .ok ((f n).getD z) w := by
  obtain ⟨es, clock, hb, h1, h2, h3⟩ := h
  have hgo : (getObj b).run P w = .ok (.map es clock) w := Go.MapKept.run_getObj_map hb
  rcases findNow_spec k k n es.toList 0 h1 with ⟨hf, hno⟩ | ⟨q, x, hf, hq, hx⟩
  · have hn : f n = none := by
      cases hfn : f n with
      | none => rfl
      | some v => obtain ⟨x, hx, hk1, _⟩ := (h3 n v).1 hfn; exact absurd hk1 (hno x hx)
    simp [Instr.lookup, run_underlying ht, hgo, run_checkKey_int hk, Instr.findKey, run_underlying hk, hf, hz, hn]
  · have hn : f n = some x.val := (h3 n x.val).2 ⟨x, List.mem_of_getElem? hq, hx, rfl⟩
    simp [Instr.lookup, run_underlying ht, hgo, run_checkKey_int hk, Instr.findKey, run_underlying hk, hf, hn]

/-- What a store or a delete leaves: only the map's block has turned. -/
def MapTurned (w w' : World) (b : Nat) : Prop := w'.os = w.os ∧ w'.tape = w.tape ∧ w'.output = w.output ∧ w'.heap.size = w.heap.size ∧ ∀ j, j ≠ b → w'.heap[j]? = w.heap[j]?

theorem MapTurned.set (w : World) (b : Nat) (o : Obj) : MapTurned w { w with heap := w.heap.setIfInBounds b o } b :=
  ⟨rfl, rfl, rfl, by simp, fun j hj => by simp only [Array.getElem?_setIfInBounds]; rw [if_neg (fun h => hj h.symm)]⟩
theorem MapTurned.cell {w w' : World} {b : Nat} (h : MapTurned w w' b) {p : Addr} (hp : p.block ≠ b) : w'.cell? p = w.cell? p := World.cell?_of_block (w := w) (h.2.2.2.2 p.block hp)
theorem MapTurned.frozen {w w' : World} {b : Nat} (h : MapTurned w w' b) {p : Addr} (hp : p.block ≠ b) : w'.frozen? p = w.frozen? p := World.frozen?_of_block (w := w) (h.2.2.2.2 p.block hp)
theorem MapTurned.below {w w' w0 : World} {b B : Nat} (h : MapTurned w w' b) (h0 : Below B w0 w) (hb : B ≤ b) : Below B w0 w' :=
  h0.trans ⟨h.1, h.2.1, h.2.2.1, Nat.le_of_eq h.2.2.2.1.symm, fun k hk => h.2.2.2.2 k (by omega)⟩
theorem IntMap.turned {w w' : World} {b c : Nat} {k : IntKind} {f : Int → Option Value} (h : IntMap w c k f) (ht : MapTurned w w' b) (hc : c ≠ b) : IntMap w' c k f := h.of_block (ht.2.2.2.2 c hc)

theorem heap_set_at (w : World) (b : Nat) (o : Obj) (h : b < w.heap.size) : ({ w with heap := w.heap.setIfInBounds b o } : World).heap[b]? = some o := by simp [h]
theorem mem_modify {es : Array MapEntry} {i : Nat} {g : MapEntry → MapEntry} {x : MapEntry} : x ∈ (es.modify i g).toList ↔ ∃ j y, es[j]? = some y ∧ x = if i = j then g y else y := by
  rw [List.mem_iff_getElem?]
  constructor
  · rintro ⟨j, hj⟩
    rw [Array.getElem?_toList, Array.getElem?_modify] at hj
    by_cases hij : i = j
    · rw [if_pos hij] at hj
      obtain ⟨y, hy, rfl⟩ := Option.map_eq_some_iff.1 hj
      exact ⟨j, y, hy, by rw [if_pos hij]⟩
    · rw [if_neg hij] at hj
      exact ⟨j, x, hj, by rw [if_neg hij]⟩
  · rintro ⟨j, y, hy, rfl⟩
    refine ⟨j, ?_⟩
    rw [Array.getElem?_toList, Array.getElem?_modify, hy]
    by_cases hij : i = j <;> simp [hij]

theorem nodup_index {l : List MapEntry} (h : (l.map (·.key)).Nodup) {i j : Nat} {x y : MapEntry} (hi : l[i]? = some x) (hj : l[j]? = some y) (hk : x.key = y.key) : i = j := by
  have hi' : (l.map (·.key))[i]? = some x.key := by simp [hi]
  have hj' : (l.map (·.key))[j]? = some x.key := by simp [hj, hk]
  have hil : i < (l.map (·.key)).length := (List.getElem?_eq_some_iff.1 hi').1
  exact (List.getElem?_inj hil h).1 (hi'.trans hj'.symm)

theorem run_update_intMap (ht : P.underlying t = some (.map kt e)) (hk : P.underlying kt = some (.int k)) (h : IntMap w b k f) (n : Int) (v : Value) :
    ∃ w', (Instr.mapUpdate t (.map (some b)) (.int k n) v).run P w = .ok () w' ∧ IntMap w' b k (fun m => if m = n then some v else f m) ∧ MapTurned w w' b := by
  have hlt := h.lt
  obtain ⟨es, clock, hb, h1, h2, h3⟩ := h
  have hgo : (getObj b).run P w = .ok (.map es clock) w := Go.MapKept.run_getObj_map hb
  rcases findNow_spec k k n es.toList 0 h1 with ⟨hf, hno⟩ | ⟨q, x, hf, hq, hx⟩
  · refine ⟨{ w with heap := w.heap.setIfInBounds b (.map (es.push { key := .int k n, val := v, born := clock }) (clock + 1)) }, ?_, ?_, MapTurned.set w b _⟩
    · simp [Instr.mapUpdate, run_underlying ht, hgo, run_checkKey_int hk, Instr.findKey, run_underlying hk, hf, Go.MapKept.run_setObj_map _ hb]
    · refine ⟨_, _, heap_set_at w b _ hlt, ?_, ?_, ?_⟩
      · intro x hx
        simp only [Array.toList_push, List.mem_append, List.mem_singleton] at hx
        rcases hx with hx | rfl
        · exact h1 x hx
        · exact ⟨n, rfl⟩
      · simp only [Array.toList_push, List.map_append, List.map_cons, List.map_nil]
        rw [List.nodup_append]
        refine ⟨h2, by simp, ?_⟩
        intro a ha b' hb' hab
        simp only [List.mem_singleton] at hb'
        subst hb' hab
        obtain ⟨x, hx, hxk⟩ := List.mem_map.1 ha
        exact hno x hx hxk
      · intro m u
        simp only [Array.toList_push, List.mem_append, List.mem_singleton]
        by_cases hmn : m = n
        · subst hmn
          rw [if_pos rfl]
          constructor
          · intro hu
            injection hu with hu
            exact ⟨_, .inr rfl, rfl, hu⟩
          · rintro ⟨x, hx | rfl, hxk, hxv⟩
            · exact absurd hxk (hno x hx)
            · rw [← hxv]
        · rw [if_neg hmn, h3 m u]
          constructor
          · rintro ⟨x, hx, hr⟩; exact ⟨x, .inl hx, hr⟩
          · rintro ⟨x, hx | rfl, hxk, hxv⟩
            · exact ⟨x, hx, hxk, hxv⟩
            · injection hxk with _ hxk; exact absurd hxk.symm hmn
  · have hq' : es[q]? = some x := by simpa using hq
    refine ⟨{ w with heap := w.heap.setIfInBounds b (.map (es.modify q fun e => { e with key := .int k n, val := v }) clock) }, ?_, ?_, MapTurned.set w b _⟩
    · have hst : (Instr.keyThatStays (.int k n) (.int k n)).run P w = .ok (.int k n) w := by simp [Instr.keyThatStays, Instr.sameBits]
      simp [Instr.mapUpdate, run_underlying ht, hgo, run_checkKey_int hk, Instr.findKey, run_underlying hk, hf, hq', hx, hst, Go.MapKept.run_setObj_map _ hb]
    · have hmod : ∀ y, y ∈ (es.modify q fun e => { e with key := .int k n, val := v }).toList ↔ ∃ j z, es[j]? = some z ∧ y = if q = j then { z with key := .int k n, val := v } else z := fun y => mem_modify
      refine ⟨_, _, heap_set_at w b _ hlt, ?_, ?_, ?_⟩
      · intro y hy
        obtain ⟨j, z, hz, rfl⟩ := (hmod y).1 hy
        by_cases hqj : q = j
        · rw [if_pos hqj]; exact ⟨n, rfl⟩
        · rw [if_neg hqj]; exact h1 z (List.mem_of_getElem? (by simpa using hz : es.toList[j]? = some z))
      · have hkeys : (es.modify q fun e => { e with key := .int k n, val := v }).toList.map (·.key) = es.toList.map (·.key) := by
          apply List.ext_getElem?
          intro j
          rw [List.getElem?_map, List.getElem?_map, Array.getElem?_toList, Array.getElem?_modify, Array.getElem?_toList]
          by_cases hqj : q = j
          · subst hqj
            rw [if_pos rfl, hq']
            simp [hx]
          · rw [if_neg hqj]
        rw [hkeys]
        exact h2
      · intro m u
        dsimp only
        by_cases hmn : m = n
        · subst hmn
          rw [if_pos rfl]
          constructor
          · intro hu
            injection hu with hu
            exact ⟨{ x with key := .int k m, val := v }, (hmod _).2 ⟨q, x, hq', by rw [if_pos rfl]⟩, rfl, hu⟩
          · rintro ⟨y, hy, hyk, hyv⟩
            obtain ⟨j, z, hz, rfl⟩ := (hmod y).1 hy
            by_cases hqj : q = j
            · rw [if_pos hqj] at hyv; rw [← hyv]
            · rw [if_neg hqj] at hyk
              exact absurd (nodup_index h2 hq (by simpa using hz : es.toList[j]? = some z) (hx.trans hyk.symm)) hqj
        · rw [if_neg hmn, h3 m u]
          constructor
          · rintro ⟨y, hy, hyk, hyv⟩
            obtain ⟨j, hj⟩ := List.mem_iff_getElem?.1 hy
            have hqj : q ≠ j := by
              rintro rfl
              rw [hq] at hj
              cases hj
              rw [hx] at hyk
              injection hyk with _ hyk
              exact hmn hyk.symm
            exact ⟨y, (hmod y).2 ⟨j, y, by simpa using hj, by rw [if_neg hqj]⟩, hyk, hyv⟩
          · rintro ⟨y, hy, hyk, hyv⟩
            obtain ⟨j, z, hz, rfl⟩ := (hmod y).1 hy
            by_cases hqj : q = j
            · rw [if_pos hqj] at hyk
              injection hyk with _ hyk
              exact absurd hyk.symm hmn
            · rw [if_neg hqj] at hyk hyv
              exact ⟨z, List.mem_of_getElem? (by simpa using hz : es.toList[j]? = some z), hyk, hyv⟩

theorem run_delete_intMap (ht : P.underlying t = some (.map kt e)) (hk : P.underlying kt = some (.int k)) (h : IntMap w b k f) (n : Int) (ty : TypeId) :
    ∃ w', (Builtin.delete_ #[t, kt] ty #[.map (some b), .int k n]).run P w = .ok (.tuple #[]) w' ∧ IntMap w' b k (fun m => if m = n then none else f m) ∧ MapTurned w w' b := by
  have hlt := h.lt
  obtain ⟨es, clock, hb, h1, h2, h3⟩ := h
  have hgo : (getObj b).run P w = .ok (.map es clock) w := Go.MapKept.run_getObj_map hb
  rcases findNow_spec k k n es.toList 0 h1 with ⟨hf, hno⟩ | ⟨q, x, hf, hq, hx⟩
  · refine ⟨{ w with heap := w.heap.setIfInBounds b (.map es clock) }, ?_, ?_, MapTurned.set w b _⟩
    · simp [Builtin.delete_, run_underlying ht, hgo, run_checkKey_int hk, Instr.findKey, run_underlying hk, hf, Go.MapKept.run_setObj_map _ hb]
    · refine ⟨es, clock, heap_set_at w b _ hlt, h1, h2, ?_⟩
      intro m u
      dsimp only
      by_cases hmn : m = n
      · subst hmn
        rw [if_pos rfl]
        constructor
        · intro hu; cases hu
        · rintro ⟨y, hy, hyk, _⟩; exact absurd hyk (hno y hy)
      · rw [if_neg hmn]; exact h3 m u
  · have hql : q < es.toList.length := (List.getElem?_eq_some_iff.1 hq).1
    have hl : (es.eraseIdxIfInBounds q).toList = es.toList.eraseIdx q := by
      unfold Array.eraseIdxIfInBounds
      rw [dif_pos (by simpa using hql)]
      simp
    have hmem : ∀ y, y ∈ es.toList.eraseIdx q ↔ ∃ j, j ≠ q ∧ es.toList[j]? = some y := by
      intro y
      rw [List.mem_eraseIdx_iff_getElem?]
    refine ⟨{ w with heap := w.heap.setIfInBounds b (.map (es.eraseIdxIfInBounds q) clock) }, ?_, ?_, MapTurned.set w b _⟩
    · simp [Builtin.delete_, run_underlying ht, hgo, run_checkKey_int hk, Instr.findKey, run_underlying hk, hf, Go.MapKept.run_setObj_map _ hb]
    · refine ⟨_, _, heap_set_at w b _ hlt, ?_, ?_, ?_⟩
      · rw [hl]
        intro y hy
        exact h1 y (List.mem_of_mem_eraseIdx hy)
      · rw [hl]
        exact h2.sublist (List.Sublist.map _ (List.eraseIdx_sublist _ _))
      · rw [hl]
        intro m u
        dsimp only
        by_cases hmn : m = n
        · subst hmn
          rw [if_pos rfl]
          constructor
          · intro hu; cases hu
          · rintro ⟨y, hy, hyk, _⟩
            obtain ⟨j, hjq, hj⟩ := (hmem y).1 hy
            exact absurd (nodup_index h2 hj hq (hyk.trans hx.symm)) hjq
        · rw [if_neg hmn, h3 m u]
          constructor
          · rintro ⟨y, hy, hyk, hyv⟩
            obtain ⟨j, hj⟩ := List.mem_iff_getElem?.1 hy
            refine ⟨y, (hmem y).2 ⟨j, ?_, hj⟩, hyk, hyv⟩
            rintro rfl
            rw [hq] at hj
            cases hj
            rw [hx] at hyk
            injection hyk with _ hyk
            exact hmn hyk.symm
          · rintro ⟨y, hy, hr⟩
            exact ⟨y, List.mem_of_mem_eraseIdx hy, hr⟩
end

end Go.Proofs.YtjmjfgbpjecgfaaDoor
