/-
  Rows whose elements take c cells each: slices of arrays, of structs. Own rows read, stored to, framed.
-/
import Derived.Test.YtjmjfgbpjecgfaaDoorBlk
import Derived.Test.YtjmjfgbpjecgfaaDoorAppend
import Derived.Deep.MidRow
import Derived.OwnWalk
namespace Go.Proofs.YtjmjfgbpjecgfaaDoor
set_option linter.unusedVariables false
set_option linter.unusedSimpArgs false
open Go.RowKit

section
variable {α : Type} {f : α → List Value} {c : Nat}

theorem flat_length {l : List α} (hf : ∀ x ∈ l, (f x).length = c) : (l.flatMap f).length = l.length * c := by
  induction l with
  | nil => simp
  | cons x r ih =>
    have h1 := ih (fun y hy => hf y (by simp [hy]))
    have h2 := hf x (by simp)
    rw [List.flatMap_cons, List.length_append, h1, h2, List.length_cons, Nat.add_mul]
    omega
theorem flat_get {l : List α} (hf : ∀ x ∈ l, (f x).length = c) : ∀ {k j : Nat} {x : α}, l[k]? = some x → j < c → (l.flatMap f)[k * c + j]? = (f x)[j]? := by
  induction l with
  | nil => intro k j x h; simp at h
  | cons y r ih =>
    intro k j x h hj
    have h2 := hf y (by simp)
    rw [List.flatMap_cons]
    cases k with
    | zero =>
      simp at h; subst h
      rw [List.getElem?_append_left (by omega)]
      simp
    | succ k =>
      simp at h
      rw [List.getElem?_append_right (by rw [Nat.add_mul]; omega), h2, show (k + 1) * c + j - c = k * c + j by rw [Nat.add_mul]; omega]
      exact ih (fun y hy => hf y (by simp [hy])) h hj
theorem flat_ext {l : List α} {xs : List Value} (hf : ∀ x ∈ l, (f x).length = c) (hc : 0 < c) (hl : xs.length = l.length * c) (h : ∀ k j x, l[k]? = some x → j < c → xs[k * c + j]? = (f x)[j]?) : xs = l.flatMap f := by
  apply List.ext_getElem?
  intro i
  by_cases hi : i < l.length * c
  · have hk : i / c < l.length := (Nat.div_lt_iff_lt_mul hc).2 hi
    have hj : i % c < c := Nat.mod_lt _ hc
    have he : i = (i / c) * c + i % c := by rw [Nat.mul_comm]; exact (Nat.div_add_mod i c).symm
    have hx : l[i / c]? = some l[i / c] := List.getElem?_eq_getElem hk
    have h1 := h _ _ _ hx hj
    have h2 := flat_get hf hx hj
    rw [← he] at h1 h2
    rw [h1, h2]
  · rw [List.getElem?_eq_none (by omega), List.getElem?_eq_none (by rw [flat_length hf]; omega)]

/-- A row of the call's own (or nil), each element by f. -/
def RowF (w : World) (base : Nat) (t : TypeId) (c : Nat) (f : α → List Value) (v : Value) (l : List α) : Prop := (∀ x ∈ l, (f x).length = c) ∧ w.ownsRow base t c v l.length (l.flatMap f)

section
variable {w w' : World} {base : Nat} {t : TypeId} {v : Value} {l : List α}
theorem RowF.nil (w : World) (base : Nat) (t : TypeId) (c : Nat) (f : α → List Value) : RowF w base t c f (.slice none 0 0) [] := ⟨by simp, World.ownsRow_nil w base t c⟩
theorem RowF.slice (h : RowF w base t c f v l) : ∃ a cap, v = .slice a l.length cap := by
  rcases h.2.2 with ⟨rfl, h0⟩ | ⟨g, cap, cur, rfl, _⟩
  · exact ⟨none, 0, by rw [h0]⟩
  · exact ⟨_, cap, rfl⟩
theorem RowF.block (h : RowF w base t c f v l) (hne : l ≠ []) : ∃ g cap cur, v = .slice (some ⟨g, 0, none⟩) l.length cap ∧ base ≤ g ∧ w.heap[g]? = some (.cells cur t (0, 0)) ∧ l.length ≤ cap ∧ cap ≤ maxLen ∧ cur.size = cap * c ∧ cur.toList.take (l.length * c) = l.flatMap f := by
  rcases h.2.2 with ⟨rfl, h0⟩ | h
  · exact absurd (List.length_eq_zero_iff.1 h0) hne
  · exact h
theorem RowF.base_le (h : RowF w base t c f v l) : ∀ k, v.ownBlock = some k → base ≤ k := by
  intro k hk
  rcases h.2.2 with ⟨rfl, _⟩ | ⟨g, cap, cur, rfl, hg, _⟩
  · simp [Value.ownBlock] at hk
  · simp [Value.ownBlock] at hk; omega
theorem RowF.tag (h : RowF w base t c f v l) : ∀ k, v.ownBlock = some k → ∃ cur, w.heap[k]? = some (.cells cur t (0, 0)) := by
  intro k hk
  rcases h.2.2 with ⟨rfl, _⟩ | ⟨g, cap, cur, rfl, hg, hh, _⟩
  · simp [Value.ownBlock] at hk
  · simp [Value.ownBlock] at hk; subst hk; exact ⟨cur, hh⟩
theorem RowF.lt (h : RowF w base t c f v l) : ∀ k, v.ownBlock = some k → k < w.heap.size := by
  intro k hk
  obtain ⟨cur, hc⟩ := h.tag k hk
  by_cases hb : k < w.heap.size
  · exact hb
  · rw [Array.getElem?_eq_none (by omega)] at hc; cases hc
theorem RowF.of_block (h : RowF w base t c f v l) (hb : ∀ k, v.ownBlock = some k → w'.heap[k]? = w.heap[k]?) : RowF w' base t c f v l := by
  refine ⟨h.1, h.2.1, ?_⟩
  rcases h.2.2 with h0 | ⟨g, cap, cur, rfl, hg, hh, r⟩
  · exact .inl h0
  · exact .inr ⟨g, cap, cur, rfl, hg, by rw [hb g rfl]; exact hh, r⟩
theorem RowF.mono (h : RowF w base t c f v l) {base' : Nat} (hb : base' ≤ base) : RowF w base' t c f v l := by
  refine ⟨h.1, h.2.1, ?_⟩
  rcases h.2.2 with h0 | ⟨g, cap, cur, rfl, hg, hh, r⟩
  · exact .inl h0
  · exact .inr ⟨g, cap, cur, rfl, Nat.le_trans hb hg, hh, r⟩
theorem RowF.below (h : RowF w base t c f v l) (hb : Below w.heap.size w w') : RowF w' base t c f v l := h.of_block fun k hk => hb.block k (h.lt k hk)
theorem RowF.but {S : Nat → Prop} (h : RowF w base t c f v l) (hb : But S w w') (hs : ∀ k, v.ownBlock = some k → ¬ S k) : RowF w' base t c f v l := h.of_block fun k hk => hb.block k (h.lt k hk) (hs k hk)
/-- An element's cells. -/
theorem RowF.range (h : RowF w base t c f v l) (hc : 0 < c) {k : Nat} {x : α} (hk : l[k]? = some x) : ∃ g cap, v = .slice (some ⟨g, 0, none⟩) l.length cap ∧ w.rangeAt g (k * c) (f x) ∧ w.there g (k * c) c := by
  have hkl : k < l.length := (List.getElem?_eq_some_iff.1 hk).1
  obtain ⟨g, cap, cur, rfl, hg, hh, hn, hm, hs, ht⟩ := h.block (by intro h0; rw [h0] at hkl; simp at hkl)
  have hle : (k + 1) * c ≤ l.length * c := Nat.mul_le_mul_right c hkl
  have hle2 : l.length * c ≤ cap * c := Nat.mul_le_mul_right c hn
  have hcur : ∀ j, j < c → cur[k * c + j]? = (f x)[j]? := by
    intro j hj
    rw [← flat_get h.1 hk hj, ← ht, List.getElem?_take, if_pos (by rw [Nat.add_mul] at hle; omega)]
    simp
  have hfx := h.1 x (List.mem_of_getElem? hk)
  refine ⟨g, cap, rfl, fun j u hu => ?_, fun j hj => ?_⟩
  · have hj : j < c := by rw [← hfx]; exact (List.getElem?_eq_some_iff.1 hu).1
    have : w.cell? ⟨g, k * c + j, none⟩ = cur[k * c + j]? := by unfold World.cell?; rw [hh]; simp
    rw [this, hcur j hj, hu]
  · have h1 : w.cell? ⟨g, k * c + j, none⟩ = cur[k * c + j]? := by unfold World.cell?; rw [hh]; simp
    refine ⟨by rw [h1, hcur j hj, List.getElem?_eq_getElem (by omega)]; rfl, ?_⟩
    unfold World.frozen?; rw [hh]; simp
theorem heap_setCells (g : Nat) : ∀ (vs : List Value) (o : Nat) (w : World), (w.setCells g o vs).heap.size = w.heap.size ∧ (∀ k, k ≠ g → (w.setCells g o vs).heap[k]? = w.heap[k]?) ∧ ∀ cur t, w.heap[g]? = some (.cells cur t (0, 0)) → ∃ cur', (w.setCells g o vs).heap[g]? = some (.cells cur' t (0, 0)) ∧ cur'.size = cur.size ∧ ∀ i, cur'[i]? = if i < cur.size ∧ o ≤ i ∧ i < o + vs.length then vs[i - o]? else cur[i]? := by
  intro vs
  induction vs with
  | nil => intro o w; exact ⟨rfl, fun _ _ => rfl, fun cur t h => ⟨cur, h, rfl, fun i => by rw [if_neg (by simp)]⟩⟩
  | cons v vs ih =>
    intro o w
    obtain ⟨h1, h2, h3⟩ := ih (o + 1) (w.setCell ⟨g, o, none⟩ v)
    have e : w.setCells g o (v :: vs) = (w.setCell ⟨g, o, none⟩ v).setCells g (o + 1) vs := rfl
    rw [e]
    refine ⟨h1.trans (by simp [World.setCell]), fun k hk => (h2 k hk).trans (by simp only [World.setCell, Array.getElem?_modify]; rw [if_neg (fun h => hk h.symm)]), fun cur t hc => ?_⟩
    have hset : (w.setCell ⟨g, o, none⟩ v).heap[g]? = some (.cells (cur.setIfInBounds o v) t (0, 0)) := by
      simp [World.setCell, Array.getElem?_modify, hc]
    obtain ⟨cur', h4, h5, h6⟩ := h3 _ _ hset
    refine ⟨cur', h4, h5.trans (by simp), fun i => ?_⟩
    rw [h6 i, Array.size_setIfInBounds, Array.getElem?_setIfInBounds, List.length_cons]
    by_cases hi : i = o
    · subst hi
      by_cases hs : i < cur.size
      · rw [if_neg (by omega), if_pos rfl, if_pos hs, if_pos ⟨hs, by omega, by omega⟩]; simp
      · rw [if_neg (by omega), if_pos rfl, if_neg hs, if_neg (by omega), Array.getElem?_eq_none (by omega)]
    · by_cases hr : i < cur.size ∧ o ≤ i ∧ i < o + (vs.length + 1)
      · rw [if_pos (by omega), if_pos hr, show i - o = (i - (o + 1)) + 1 by omega]; simp
      · rw [if_neg (by omega), if_neg (fun h => hi h.symm), if_neg hr]
theorem setCells_os (g : Nat) : ∀ (vs : List Value) (o : Nat) (w : World), (w.setCells g o vs).os = w.os ∧ (w.setCells g o vs).tape = w.tape ∧ (w.setCells g o vs).output = w.output := by
  intro vs
  induction vs with
  | nil => intro o w; exact ⟨rfl, rfl, rfl⟩
  | cons v vs ih => intro o w; exact ih (o + 1) (w.setCell ⟨g, o, none⟩ v)
theorem But.setCells {S : Nat → Prop} (h : But S w w') {g : Nat} (hg : S g) (o : Nat) (vs : List Value) : But S w (w'.setCells g o vs) := by
  obtain ⟨h1, h2, _⟩ := heap_setCells g vs o w'
  obtain ⟨h3, h4, h5⟩ := setCells_os g vs o w'
  exact ⟨h3.trans h.os, h4.trans h.tape, h5.trans h.output, by rw [h1]; exact h.size, fun k hk hn => (h2 k (fun e => hn (e ▸ hg))).trans (h.block k hk hn)⟩
/-- An element stored. -/
theorem RowF.set (h : RowF w base t c f v l) (hc : 0 < c) {k : Nat} (hk : k < l.length) (x : α) (hx : (f x).length = c) {g : Nat} (hg : v.ownBlock = some g) : RowF (w.setCells g (k * c) (f x)) base t c f v (l.set k x) := by
  obtain ⟨g', cap, cur, rfl, hb, hh, hn, hm, hs, ht⟩ := h.block (by intro h0; rw [h0] at hk; simp at hk)
  obtain rfl : g' = g := by simpa [Value.ownBlock] using hg
  obtain ⟨_, _, h3⟩ := heap_setCells g' (f x) (k * c) w
  obtain ⟨cur', h4, h5, h6⟩ := h3 _ _ hh
  have hfs : ∀ y ∈ l.set k x, (f y).length = c := fun y hy => by
    rcases List.mem_or_eq_of_mem_set hy with h0 | rfl
    · exact h.1 y h0
    · exact hx
  have hle : (k + 1) * c ≤ l.length * c := Nat.mul_le_mul_right c hk
  have hle2 : l.length * c ≤ cap * c := Nat.mul_le_mul_right c hn
  rw [Nat.add_mul] at hle
  refine ⟨hfs, by rw [flat_length hfs], .inr ⟨g', cap, cur', by rw [List.length_set], hb, h4, by rw [List.length_set]; exact hn, hm, by omega, ?_⟩⟩
  apply flat_ext hfs hc (by simp only [List.length_take, Array.length_toList, List.length_set]; omega)
  intro i j y hy hj
  have hil : i < l.length := by
    have := (List.getElem?_eq_some_iff.1 hy).1
    rwa [List.length_set] at this
  have hli : (i + 1) * c ≤ l.length * c := Nat.mul_le_mul_right c hil
  rw [Nat.add_mul] at hli
  rw [List.getElem?_take, List.length_set, if_pos (by omega), Array.getElem?_toList, h6, hx]
  rw [List.getElem?_set] at hy
  by_cases hik : k = i
  · subst hik
    rw [if_pos rfl, if_pos hk] at hy
    obtain rfl := Option.some.inj hy
    rw [if_pos (by omega), show k * c + j - k * c = j by omega]
  · rw [if_neg hik] at hy
    have hne : ¬ (k * c ≤ i * c + j ∧ i * c + j < k * c + c) := by
      intro hh
      rcases Nat.lt_or_gt_of_ne hik with h0 | h0
      · have : (k + 1) * c ≤ i * c := Nat.mul_le_mul_right c h0
        rw [Nat.add_mul] at this; omega
      · have : (i + 1) * c ≤ k * c := Nat.mul_le_mul_right c h0
        rw [Nat.add_mul] at this; omega
    rw [if_neg (fun hh => hne hh.2), ← flat_get h.1 hy hj, ← ht, List.getElem?_take, if_pos (by omega), Array.getElem?_toList]
theorem RowF.below_ {w0 : World} (h : RowF w base t c f v l) (hb : Below w0.heap.size w0 w') (hw : w = w0 := by rfl) : RowF w' base t c f v l := by subst hw; exact h.below hb
/-- A row as what is appended. -/
theorem RowF.src {g cap n : Nat} (h : RowF w base t c f (.slice (some ⟨g, 0, none⟩) n cap) l) (hc : 0 < c) : Src w c (some ⟨g, 0, none⟩) l.length (l.flatMap f) := by
  refine ⟨flat_length h.1, (fun e => by cases e), ?_⟩
  rintro ad ⟨rfl⟩ j u hu
  rcases h.2.2 with ⟨e, _⟩ | ⟨g', cap', cur, e, hg, hh, hn, hm, hs, ht⟩
  · cases e
  · injection e with e _ _
    injection e with e
    injection e with e
    subst e
    have hj : j < l.length * c := by
      have := (List.getElem?_eq_some_iff.1 hu).1
      rwa [flat_length h.1] at this
    rw [← ht, List.getElem?_take, if_pos hj, Array.getElem?_toList] at hu
    rw [Addr.add_mid, Nat.zero_add]
    unfold World.cell?
    rw [hh]
    simpa using hu
/-- A row made of zeros. -/
theorem RowF.made {x0 : α} {z : Array Value} {n : Nat} (hx : (f x0).length = c) (hc : 0 < c) (hz : z = (f x0).toArray) (h : w.ownsRow base t c v n (madeCells z (n * c)).toList) : RowF w base t c f v (List.replicate n x0) := by
  have hf : ∀ x ∈ List.replicate n x0, (f x).length = c := fun x hm => by rw [List.eq_of_mem_replicate hm]; exact hx
  refine ⟨hf, ?_⟩
  have e : (madeCells z (n * c)).toList = (List.replicate n x0).flatMap f := by
    apply flat_ext hf hc (by rw [Array.length_toList, size_madeCells, List.length_replicate])
    intro k j x hk hj
    have hkn : k < n := by
      have := (List.getElem?_eq_some_iff.1 hk).1
      rwa [List.length_replicate] at this
    have hxe : x = x0 := List.eq_of_mem_replicate (List.mem_of_getElem? hk)
    subst hxe
    have hle : (k + 1) * c ≤ n * c := Nat.mul_le_mul_right c hkn
    rw [Nat.add_mul] at hle
    have hzs : z.size = c := by rw [hz, List.size_toArray, hx]
    rw [Array.getElem?_toList]
    unfold madeCells
    rw [Array.getElem?_map, Array.getElem?_range, if_pos (by omega)]
    simp only [Option.map_some]
    rw [hzs, Nat.mul_comm, Nat.mul_add_mod, Nat.mod_eq_of_lt hj]
    have hjx : j < (f x).length := by omega
    rw [List.getElem?_eq_getElem hjx, hz, getElem!_pos _ _ (by rw [List.size_toArray]; exact hjx)]
    simp
  rw [List.length_replicate, ← e]
  exact h
end
end
end Go.Proofs.YtjmjfgbpjecgfaaDoor
