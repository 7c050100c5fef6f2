/-
  A block known whole; what a call leaves as it was but for some blocks.
-/
import Derived.Test.YtjmjfgbpjecgfaaDoorBytes
import Derived.Deep.QuietTactic
import Derived.BigQuiet
namespace Go.Proofs.YtjmjfgbpjecgfaaDoor
set_option linter.unusedVariables false
set_option linter.unusedSimpArgs false
set_option linter.unnecessarySimpa false
open Go.RowKit

/-- Block b holds just these cells. -/
def IsBlk (w : World) (b : Nat) (cs : Array Value) (t : TypeId) : Prop := w.heap[b]? = some (.cells cs t)

section
variable {w : World} {b : Nat} {cs : Array Value} {t : TypeId}
theorem IsBlk.cell (h : IsBlk w b cs t) (i : Nat) {v : Value} (hv : cs[i]? = some v) : w.cell? ⟨b, i, none⟩ = some v := by
  have h' : w.heap[b]? = some (.cells cs t) := h
  unfold World.cell?; rw [h']; simpa using hv
theorem IsBlk.fz (h : IsBlk w b cs t) (i : Nat) : w.frozen? ⟨b, i, none⟩ = false := by
  have h' : w.heap[b]? = some (.cells cs t) := h
  unfold World.frozen?; rw [h']; simp
theorem IsBlk.lt (h : IsBlk w b cs t) : b < w.heap.size := by
  have h' : w.heap[b]? = some (.cells cs t) := h
  by_cases hb : b < w.heap.size
  · exact hb
  · rw [Array.getElem?_eq_none (by omega)] at h'; cases h'
theorem IsBlk.of_block {w' : World} (h : IsBlk w b cs t) (h1 : w'.heap[b]? = w.heap[b]?) : IsBlk w' b cs t := h1.trans h
theorem IsBlk.set (h : IsBlk w b cs t) (o : Nat) (v : Value) : IsBlk (w.setCell ⟨b, o, none⟩ v) b (cs.setIfInBounds o v) t := by
  have h' : w.heap[b]? = some (.cells cs t) := h
  show (w.setCell ⟨b, o, none⟩ v).heap[b]? = _
  simp only [World.setCell, Array.getElem?_modify, h']
  simp
theorem IsBlk.setOther (h : IsBlk w b cs t) (p : Addr) (v : Value) (hne : b ≠ p.block) : IsBlk (w.setCell p v) b cs t :=
  h.of_block (Below.heap_setCell w p v b hne)
theorem IsBlk.alloc (h : IsBlk w b cs t) (o : Obj) : IsBlk (w.alloc o) b cs t := h.of_block (Below.heap_alloc w o b h.lt)
theorem IsBlk.new (w : World) (cs : Array Value) (t : TypeId) : IsBlk (w.alloc (.cells cs t)) w.heap.size cs t := by
  show (w.heap.push _)[w.heap.size]? = _
  simp
theorem IsBlk.below {w' : World} {B : Nat} (h : IsBlk w b cs t) (hb : Below B w w') (hB : b < B) : IsBlk w' b cs t := h.of_block (hb.block b hB)
theorem IsBlk.drewN (h : IsBlk w b cs t) (n : Nat) : IsBlk (w.drewN n) b cs t := h
theorem IsBlk.grown {w' : World} {row : Option Nat} (h : IsBlk w b cs t) (hg : w.grownBy w' row) (hr : row ≠ some b) : IsBlk w' b cs t :=
  h.of_block (hg.block b h.lt (fun e => hr e.symm))
end

/-- What was at w is as it was, but for the blocks in S. -/
structure But (S : Nat → Prop) (w w' : World) : Prop where
  os : w'.os = w.os
  tape : w'.tape = w.tape
  output : w'.output = w.output
  size : w.heap.size ≤ w'.heap.size
  block : ∀ k, k < w.heap.size → ¬ S k → w'.heap[k]? = w.heap[k]?

section
variable {S : Nat → Prop} {w w' w'' : World}
theorem But.refl (S : Nat → Prop) (w : World) : But S w w := ⟨rfl, rfl, rfl, Nat.le_refl _, fun _ _ _ => rfl⟩
theorem But.trans (h : But S w w') (k : But S w' w'') : But S w w'' :=
  ⟨k.os.trans h.os, k.tape.trans h.tape, k.output.trans h.output, Nat.le_trans h.size k.size, fun j hj hs => (k.block j (Nat.lt_of_lt_of_le hj h.size) hs).trans (h.block j hj hs)⟩
theorem But.mono {S' : Nat → Prop} (h : But S w w') (hs : ∀ k, S k → S' k) : But S' w w' := ⟨h.os, h.tape, h.output, h.size, fun k hk hn => h.block k hk (fun a => hn (hs k a))⟩
theorem But.setCell (h : But S w w') {p : Addr} (hp : S p.block) (v : Value) : But S w (w'.setCell p v) :=
  h.trans ⟨rfl, rfl, rfl, by simp [World.setCell], fun k _ hn => Below.heap_setCell w' p v k (fun e => hn (e ▸ hp))⟩
theorem But.alloc (h : But S w w') (o : Obj) : But S w (w'.alloc o) :=
  h.trans ⟨rfl, rfl, rfl, by simp, fun k hk _ => Below.heap_alloc _ _ _ hk⟩
theorem But.grown {row : Option Nat} (h : But S w w') (hg : w'.grownBy w'' row) (hr : ∀ k, row = some k → S k) : But S w w'' :=
  h.trans ⟨hg.os, hg.tape, hg.output, hg.size, fun k hk hn => hg.block k hk (fun e => hn (hr k e.symm))⟩
theorem But.drewN (h : But S w w') (n : Nat) : But S w (w'.drewN n) := h.trans ⟨rfl, rfl, rfl, Nat.le_refl _, fun _ _ _ => rfl⟩
theorem But.below {B : Nat} (h : But S w w') (hB : B ≤ w.heap.size) (hs : ∀ k, S k → B ≤ k) : Below B w w' :=
  ⟨h.os, h.tape, h.output, h.size, fun k hk => h.block k (by omega) (fun a => by have := hs k a; omega)⟩
theorem But.of_below {B : Nat} (h : Below B w w') (hB : w.heap.size ≤ B) : But S w w' := ⟨h.os, h.tape, h.output, h.size, fun k hk _ => h.block k (by omega)⟩
theorem But.own {base : Nat} {v : Value} {l : List Nat} (h : But S w w') (ho : Own w base v l) (hv : ∀ k, v.ownBlock = some k → ¬ S k) : Own w' base v l := by
  obtain ⟨⟨h1, h2⟩, h3⟩ := ho
  refine ⟨⟨h1, ?_⟩, h3⟩
  rcases h2 with h2 | ⟨g, cap, cur, rfl, hg', hh, r⟩
  · exact .inl h2
  · refine .inr ⟨g, cap, cur, rfl, hg', ?_, r⟩
    have hlt : g < w.heap.size := by
      by_cases hb : g < w.heap.size
      · exact hb
      · rw [Array.getElem?_eq_none (by omega)] at hh; cases hh
    rw [h.block g hlt (hv g (by simp [Value.ownBlock]))]
    exact hh
theorem But.blk {b : Nat} {cs : Array Value} {t : TypeId} (h : But S w w') (hb : IsBlk w b cs t) (hs : ¬ S b) : IsBlk w' b cs t := hb.of_block (h.block b hb.lt hs)
theorem But.cell (h : But S w w') {p : Addr} (hp : p.block < w.heap.size) (hs : ¬ S p.block) : w'.cell? p = w.cell? p := World.cell?_of_block (w := w) (h.block _ hp hs)
end
theorem Own.lt {w : World} {base : Nat} {v : Value} {l : List Nat} (h : Own w base v l) : ∀ k, v.ownBlock = some k → k < w.heap.size := by
  intro k hk
  rcases h.1.2 with ⟨rfl, _⟩ | ⟨g, cap, cur, rfl, hg, hh, _⟩
  · simp [Value.ownBlock] at hk
  · simp [Value.ownBlock] at hk
    subst hk
    by_cases hb : g < w.heap.size
    · exact hb
    · rw [Array.getElem?_eq_none (by omega)] at hh; cases hh
theorem Own.mono {w : World} {base base' : Nat} {v : Value} {l : List Nat} (h : Own w base v l) (hb : base' ≤ base) : Own w base' v l := by
  obtain ⟨⟨h1, h2⟩, h3⟩ := h
  refine ⟨⟨h1, ?_⟩, h3⟩
  rcases h2 with h2 | ⟨g, cap, cur, rfl, hg', r⟩
  · exact .inl h2
  · exact .inr ⟨g, cap, cur, rfl, by omega, r⟩
/-- Where a value's block went: it stayed, or it is new. -/
def Moved (w : World) (v v' : Value) : Prop := v'.ownBlock = v.ownBlock ∨ v'.ownBlock = some w.heap.size
/-- Bytes that came in, and a block that is none of those that were written. -/
theorem But.bytes {S : Nat → Prop} {w w' : World} {a : Option Addr} {l : List Nat} (h : But S w w') (hl : IsBytes w a l) (hs : ∀ x, a = some x → l ≠ [] → ¬ S x.block) : IsBytes w' a l := by
  by_cases hne : l = []
  · subst hne; exact ⟨hl.1, .inl rfl⟩
  · refine ⟨hl.1, hl.2.imp id ?_⟩
    rintro ⟨b, off, rfl, hc⟩
    exact ⟨b, off, rfl, fun i hi => (h.cell (p := ⟨b, off + i, none⟩) (cell?_some_lt (hc i hi)) (hs ⟨b, off, none⟩ rfl hne : ¬ S b)).trans (hc i hi)⟩

theorem Own.slice {w : World} {base : Nat} {v : Value} {l : List Nat} (h : Own w base v l) : ∃ a len cap, v = .slice a len cap ∧ Hid (len = l.length) := by
  obtain ⟨a, cap, rfl, _⟩ := h.form
  exact ⟨a, _, cap, rfl, Lib.hid rfl⟩

theorem Own.capz {w : World} {base n cap : Nat} {a : Option Addr} {l : List Nat} (h : Own w base (.slice a n cap) l) : a = none → cap = 0 := by
  intro ha
  rcases h.1.2 with ⟨h1, _⟩ | ⟨g, cap', cur, h1, _⟩
  · injection h1
  · injection h1 with h1; rw [ha] at h1; cases h1

theorem IsBlk.drew {w : World} {b : Nat} {cs : Array Value} {t : TypeId} (h : IsBlk w b cs t) : IsBlk w.drew b cs t := h
theorem But.drew {S : Nat → Prop} {w w' : World} (h : But S w w') : But S w w'.drew := h.trans ⟨rfl, rfl, rfl, Nat.le_refl _, fun _ _ _ => rfl⟩
theorem But.setNew {S : Nat → Prop} {w w' : World} (h : But S w w') {p : Addr} (hp : w.heap.size ≤ p.block) (v : Value) : But S w (w'.setCell p v) :=
  ⟨h.os, h.tape, h.output, by have := h.size; simp [World.setCell]; omega, fun k hk hn => (Below.heap_setCell w' p v k (by omega)).trans (h.block k hk hn)⟩

end Go.Proofs.YtjmjfgbpjecgfaaDoor
