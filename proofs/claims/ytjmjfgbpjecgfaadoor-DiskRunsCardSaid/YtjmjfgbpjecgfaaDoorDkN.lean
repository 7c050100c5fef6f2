/-
  disk: a disk that keeps off blocks.
-/
import Derived.Test.YtjmjfgbpjecgfaaDoorDkD
namespace Go.Proofs.YtjmjfgbpjecgfaaDoor
set_option linter.unusedVariables false
set_option linter.unusedSimpArgs false
open Go.RowKit

/-- A disk none of whose blocks is one of N's. -/
def DkN (N : Nat → Prop) (B : Nat) (w : World) (db : Nat) (d : DK) : Prop := ∃ fb mb cap cv, IsDk w B db fb mb cap cv d ∧ ¬ N db ∧ ¬ N fb ∧ ¬ N mb ∧ (∀ k, cv.ownBlock = some k → ¬ N k)
section
variable {N : Nat → Prop} {B : Nat} {w w' : World} {db : Nat} {d : DK}
theorem DkN.dk (h : DkN N B w db d) : Dk B w db d := by
  obtain ⟨fb, mb, cap, cv, h, _⟩ := h
  exact ⟨fb, mb, cap, cv, h⟩
theorem DkN.below (h : DkN N B w db d) (hb : Below w.heap.size w w') : DkN N B w' db d := by
  obtain ⟨fb, mb, cap, cv, h, hn⟩ := h
  exact ⟨fb, mb, cap, cv, h.below hb, hn⟩
theorem DkN.write (h : DkN N B w db d) (hN : ∀ k, N k → k < w.heap.size) (i : Int) (p : List Nat) (hp : p.length = 64) (hl : d.pend.length < 1000000) (hB : B ≤ w.heap.size) : Calls Tryd.prog 11 #[.pointer (some ⟨db, 0, none⟩), .int .i64 i, pgV p] w fun e w' => ∃ v, e = .returned v ∧ IsRes w' v (d.writeE i) ∧ DkN N B w' db (d.write i p) ∧ Below B w w' ∧ But (fun k => ¬ N k) w w' := by
  obtain ⟨fb, mb, cap, cv, h, n1, n2, n3, n4⟩ := h
  refine (write_any h i p hp hl hB).mono ?_
  rintro e w' ⟨v, cv', rfl, h1, h2, h3, h4⟩
  refine ⟨v, rfl, h1, ⟨_, _, _, _, h2, n1, n2, n3, fun k hk => ?_⟩, h3.below hB (fun k hk => by
    rcases hk with rfl | rfl | hk
    · exact h.bdb
    · exact h.bmb
    · exact h.cache.base_le k hk), ⟨h3.os, h3.tape, h3.output, h3.size, fun k hk hn => h3.block k hk (fun hs => by
      rcases hs with rfl | rfl | hs
      · exact hn n1
      · exact hn n3
      · exact hn (n4 k hs))⟩⟩
  rcases h4 with h4 | ⟨q, h4, hq⟩
  · exact n4 k (h4 ▸ hk)
  · rw [h4] at hk
    injection hk with hk
    subst hk
    exact fun hn => by have := hN _ hn; omega
theorem DkN.flush (h : DkN N B w db d) (hl : d.pend.length < 1000001) (hB : B ≤ w.heap.size) : Calls Tryd.prog 12 #[.pointer (some ⟨db, 0, none⟩)] w fun e w' => ∃ v, e = .returned v ∧ IsRes w' v d.flushE ∧ DkN N B w' db d.flush ∧ Below B w w' ∧ But (fun k => ¬ N k) w w' := by
  obtain ⟨fb, mb, cap, cv, h, n1, n2, n3, n4⟩ := h
  refine (flush_any h hl).mono ?_
  rintro e w' ⟨v, cv', rfl, h1, h2, h3, h4⟩
  refine ⟨v, rfl, h1, ⟨_, _, _, _, h2, n1, n2, n3, fun k hk => ?_⟩, h3.below hB (fun k hk => by
    rcases hk with rfl | rfl | rfl
    · exact h.bdb
    · exact h.fb_base
    · exact h.bmb), ⟨h3.os, h3.tape, h3.output, h3.size, fun k hk hn => h3.block k hk (fun hs => by
      rcases hs with rfl | rfl | rfl
      · exact hn n1
      · exact hn n2
      · exact hn n3)⟩⟩
  rcases h4 with h4 | h4
  · exact n4 k (h4 ▸ hk)
  · rw [h4] at hk
    cases hk
/-- The kept blocks changed: any that stand above this world. -/
theorem Dk.keep (h : Dk B w db d) : DkN (fun k => w.heap.size ≤ k) B w db d := by
  obtain ⟨fb, mb, cap, cv, h⟩ := h
  refine ⟨fb, mb, cap, cv, h, ?_, ?_, ?_, fun k hk => ?_⟩
  · have := h.blk.lt; omega
  · have := h.firm.lt fb rfl; omega
  · have := h.map.lt; omega
  · have := h.cache.lt k hk; omega
theorem DkN.fewer {N' : Nat → Prop} (h : DkN N B w db d) (hs : ∀ k, N' k → N k) : DkN N' B w db d := by
  obtain ⟨fb, mb, cap, cv, h, n1, n2, n3, n4⟩ := h
  exact ⟨fb, mb, cap, cv, h, fun x => n1 (hs _ x), fun x => n2 (hs _ x), fun x => n3 (hs _ x), fun k hk x => n4 k hk (hs _ x)⟩
end
end Go.Proofs.YtjmjfgbpjecgfaaDoor
