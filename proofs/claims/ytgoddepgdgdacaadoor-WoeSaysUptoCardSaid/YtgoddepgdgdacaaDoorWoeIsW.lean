/-
  woe: WoeIs walked.
-/
import Derived.Test.YtgoddepgdgdacaaDoorWoeStands
import Derived.Test.YtgoddepgdgdacaaDoorWoeIs
import Derived.Deep.QuietTactic
import Derived.BigQuiet
import Derived.Deep.DrawnRows
namespace Go.Proofs.YtgoddepgdgdacaaDoor
set_option linter.unusedVariables false
set_option linter.unusedSimpArgs false
open Go.RowKit

/-- errors.As has laid v at t; all else that was there is as it was. -/
structure AsJust (w w' : World) (t : Addr) (v : Value) : Prop where
  got : w'.cell? t = some v
  other : ∀ p : Addr, p.block < w.heap.size → t ≠ p → w'.cell? p = w.cell? p
  fz : ∀ p : Addr, p.block < w.heap.size → w'.frozen? p = w.frozen? p
  rest : Below t.block w w'
theorem asJust_of {w w1 : World} {t : Addr} {old v : Value} (ht : w.cell? t = some old) (hb : Below w.heap.size w w1) : AsJust w (w1.setCell t v) t v where
  got := (asSet_of ht hb).got
  other := fun p hp hn => by rw [World.cell?_setCell_other _ _ _ _ hn, hb.cell hp]
  fz := fun p hp => by rw [World.frozen?_setCell, hb.frozen hp]
  rest := (asSet_of ht hb).rest
theorem as_numJ (e : Value) (ways : List ByteArray) (n : Int) (t : Addr) (old : Value) (w : World) (hg : HasET w) (ht : w.cell? t = some old) (hf : w.frozen? t = false) (he : IsErr w e ways n) :
    Calls Tryd.prog 11 #[e, .iface 36 (.pointer (some t))] w fun ev w' => ev = .returned (.bool true) ∧ AsJust w w' t (.int .i64 n) :=
  (as_num e ways n t old w hg ht hf he).mono fun ev w' ⟨h, w1, hb, hw⟩ => ⟨h, by rw [hw]; exact asJust_of ht hb⟩

/-- The two cells ahead of WoeIs' first call of errors.As. -/
def twoCells (w : World) : World := (w.alloc (.cells #[.int .i64 0] 22)).alloc (.cells #[.pointer none] 29)
theorem twoCells_below (w : World) : Below w.heap.size w (twoCells w) := ((Below.refl _ _).alloc (Nat.le_refl _) _).alloc (by simp) _
theorem as_first {e : Value} {l : List ByteArray} {n : Int} {w : World} (hg : HasET w) (he : IsErr w e l n) :
    Calls Tryd.prog 11 #[e, .iface 36 (.pointer (some ⟨w.heap.size, 0, none⟩))] ((w.alloc (.cells #[.int .i64 0] 22)).alloc (.cells #[.pointer none] 29)) fun ev w' => ev = .returned (.bool true) ∧ w'.cell? ⟨w.heap.size, 0, none⟩ = some (.int .i64 n) ∧ w'.cell? ⟨w.heap.size + 1, 0, none⟩ = some (.pointer none) ∧ w'.frozen? ⟨w.heap.size + 1, 0, none⟩ = false ∧ Below w.heap.size w w' := by
  have hb := twoCells_below w
  refine (as_numJ e l n ⟨w.heap.size, 0, none⟩ (.int .i64 0) (twoCells w) (hg.below hb) (by simp [twoCells]) (by simp [twoCells]) (he.below hb)).mono ?_
  rintro ev w' ⟨h, hj⟩
  refine ⟨h, hj.got, ?_, ?_, hb.trans hj.rest⟩
  · rw [hj.other _ (by simp [twoCells]) (by simp)]
    simp [twoCells]
  · rw [hj.fz _ (by simp [twoCells])]
    simp [twoCells]

set_option maxHeartbeats 4000000 in
theorem is_walk (v0 v1 v2 : Value) (D0 D1 D2 : D) (W : World) (r0 : RdV Tryd.prog W 22 v0 D0) (r1 : RdV Tryd.prog W 22 v1 D1) (r2 : RdV Tryd.prog W 23 v2 D2) (hg : HasET W) :
    Calls Tryd.prog 4 #[v0, v1, v2] W fun e w' => e = .returned (.bool true) ∧ Below W.heap.size W w' := by
  obtain ⟨n, rfl, rfl, hn⟩ := r0.int Tryd.underlying22
  obtain ⟨o, rfl, rfl, ho⟩ := r1.int Tryd.underlying22
  obtain ⟨a, len, cap, l, rfl, rfl, rfl, hc1, hc2, hc3, hc4, hl⟩ := r2.strs Tryd.underlying23 Tryd.underlying9 (by kernel_rfl)
  have hm : l.length ≤ maxLen := Nat.le_trans hc1 hc2
  have hm16 : l.length * 16 ≤ 140737488355328 := by
    have hb : Tryd.prog.bytesOf 9 = 16 := by kernel_rfl
    rw [hb] at hc3
    unfold reachBytes at hc3
    omega
  clear r0 r1 r2
  have hf := fun w (h : IsStrs w a l) => few_any a l cap w h hm
  have hmd := fun w (h : IsStrs w a l) => made_any n a l cap w h hm
  go_enter Tryd.func4, Tryd.ntmps4
  go_wp2_with (first
    | (go_at_call 8; (with_reducible refine (stands_any _ hg).mono ?_); rintro e w1 ⟨rfl, hb1⟩; have hl1 := hl.below hb1; have HB1 : Hid (Below W.heap.size W w1) := hb1; clear hb1)
    | (go_at_call 9; (with_reducible refine (hf _ hl1).mono ?_); rintro e w2 ⟨hE, rfl⟩; rcases hE with rfl | rfl)
    | (go_at_call 10; (with_reducible refine (hmd _ hl1).mono ?_); rintro e w3 ⟨T, x, rfl, he3, hb3⟩; have HB3 : Hid (Below W.heap.size W w3) := HB1.out.trans (hb3.mono HB1.out.size); clear hb3)
    | (go_at_call 11; (with_reducible refine (as_first (hg.below HB3.out) he3).mono ?_); rintro e w4 ⟨rfl, hc1', hc2', hf4, hb4⟩; have he4 := he3.below hb4; have HB4 : Hid (Below W.heap.size W w4) := HB3.out.trans (hb4.mono HB3.out.size); have HB34 := Hid.out (p := Hid _) hb4; clear hb4)
    | (go_at_call 14; (with_reducible refine (is_num _ _ n _ _ he4).mono ?_); rintro e w' ⟨rfl, rfl⟩))
  · have hg4 := hg.below HB4.out
    have hl4 := hl.below HB4.out
    have hlt4 := cell_lt hc2'
    clear hf hmd hl1 HB1 hc1'
    cases l with
    | nil =>
      obtain ⟨rfl, rfl⟩ : T = 22 ∧ x = .int .i64 n := by
        have h : Value.iface T x = .iface 22 (.int .i64 n) := he4
        injection h with h1 h2
        exact ⟨h1, h2⟩
      simp only [List.length_nil]
      have hcall := as_bare n _ _ _ hg4 hc2' hf4
      go_wp2_with (go_at_call 11; (with_reducible refine hcall.mono ?_); rintro e w5 ⟨rfl, hb5⟩; have HB5 : Hid (Below W.heap.size W w5) := HB4.out.trans (hb5.mono HB4.out.size); clear hb5)
      go_quiet (fail)
      go_wp2
      go_ret
      exact ⟨rfl, below_drewN HB5.out _⟩
    | cons s r =>
      obtain ⟨b, v, he, hs, hv, hr⟩ := he3
      injection he with h1 h2
      subst h1 h2
      have hcall := as_woe' b _ _ _ hg4 hc2' hf4
      have hs4 := HB34.cell (p := ⟨b, 0, none⟩) (cell_lt hs)
      rw [hs] at hs4
      have hb3 : b < w3.heap.size := cell_lt hs
      simp only [List.length_cons]
      simp only [List.length_cons, maxLen] at hm
      have hl4' := hl4.2.resolve_left (by simp)
      clear hs hv hr hl4
      go_wp2_with (go_at_call 11; (with_reducible refine hcall.mono ?_); rintro e w5 ⟨rfl, hj⟩; have hgot := hj.got; have hs5 := hj.rest.cell (p := ⟨b, 0, none⟩) (Nat.lt_succ_of_lt hb3); rw [hs4] at hs5; have HB5 : Hid (Below W.heap.size W w5) := HB4.out.trans (hj.rest.mono (Nat.le_trans HB3.out.size (Nat.le_succ _))); clear hj; have hl5 := hl.below HB5.out; obtain ⟨bl, off, rfl, hbl, hc0⟩ := hl5.2.resolve_left (by simp); have hcs : w5.cell? ⟨bl, off, none⟩ = some (.string s) := hc0 0 (by simp); clear hc0 hl4')
      go_quiet (fail)
      go_wp2
      go_ret
      exact ⟨rfl, below_drewN HB5.out _⟩
  · go_ret
    exact ⟨rfl, HB1.out⟩
end Go.Proofs.YtgoddepgdgdacaaDoor
