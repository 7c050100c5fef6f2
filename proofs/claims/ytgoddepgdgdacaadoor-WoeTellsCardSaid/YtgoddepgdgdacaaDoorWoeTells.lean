/-
  woe: WoeTells walked.
-/
import Derived.Test.YtgoddepgdgdacaaDoorWoeStands
namespace Go.Proofs.YtgoddepgdgdacaaDoor
set_option linter.unusedVariables false
set_option linter.unusedSimpArgs false
open Go.RowKit

/-- Where a row of the call's own stands. -/
theorem OwnS.row {w : World} {base : Nat} {a : Option Addr} {n cap : Nat} {l : List ByteArray} (h : OwnS w base (.slice a n cap) l) : l = [] ∨ ∃ b off, a = some ⟨b, off, none⟩ ∧ b < w.heap.size ∧ ∀ i, i < l.length → w.cell? ⟨b, off + i, none⟩ = some (.string (l.getD i ByteArray.empty)) := by
  obtain ⟨a', cap', e, hr⟩ := h.form
  cases e
  exact hr

set_option maxHeartbeats 4000000 in
theorem tells_walk (v0 v1 : Value) (D0 D1 : D) (W : World) (r0 : RdV Tryd.prog W 22 v0 D0) (r1 : RdV Tryd.prog W 23 v1 D1) (hg : HasET W) :
    Calls Tryd.prog 5 #[v0, v1] W fun e w' => e = .returned (.bool true) ∧ Below W.heap.size W w' := by
  obtain ⟨n, rfl, rfl, hn⟩ := r0.int Tryd.underlying22
  obtain ⟨a, len, cap, l, rfl, rfl, rfl, hc1, hc2, hc3, hc4, hl⟩ := r1.strs Tryd.underlying23 Tryd.underlying9 (by kernel_rfl)
  have hm : l.length ≤ maxLen := Nat.le_trans hc1 hc2
  have hm16 : l.length * 16 ≤ 140737488355328 := by
    have hb : Tryd.prog.bytesOf 9 = 16 := by kernel_rfl
    rw [hb] at hc3
    unfold reachBytes at hc3
    omega
  clear r0 r1
  have hf := fun w (h : IsStrs w a l) => few_any a l cap w h hm
  have hmd := fun w (h : IsStrs w a l) => made_any n a l cap w h hm
  go_enter Tryd.func5, Tryd.ntmps5
  go_wp2_with (first
    | (go_at_call 8; (with_reducible refine (stands_any _ hg).mono ?_); rintro e w1 ⟨rfl, hb1⟩; have hl1 := hl.below hb1; have HB1 : Hid (Below W.heap.size W w1) := hb1; clear hb1)
    | (go_at_call 9; (with_reducible refine (hf _ hl1).mono ?_); rintro e w2 ⟨hE, rfl⟩; rcases hE with rfl | rfl)
    | (go_at_call 10; (with_reducible refine (hmd _ hl1).mono ?_); rintro e w3 ⟨T, x, rfl, he3, hb3⟩; have HB3 : Hid (Below W.heap.size W w3) := HB1.out.trans (hb3.mono HB1.out.size); clear hb3)
    | (go_at_call 12; (with_reducible refine (way_any _ _ n _ (hg.below HB3.out) he3 hm16).mono ?_); rintro e w4 ⟨v, rfl, ho, hb4⟩; obtain ⟨a4, cap4, rfl, hrow⟩ := ho.form; have he4 := he3.below hb4; have HB4 : Hid (Below W.heap.size W w4) := HB3.out.trans (hb4.mono HB3.out.size); clear hb4)
    | (go_at_call 15; (with_reducible refine (number_any _ _ n _ (hg.below HB4.out) he4).mono ?_); rintro e w5 ⟨rfl, hb5⟩; have he5 := he4.below hb5; have HO5 := ho.below hb5; have HB5 : Hid (Below W.heap.size W w5) := HB4.out.trans (hb5.mono HB4.out.size); clear hb5))
  · have hrow5 := HO5.row
    have hl5 := hl.below HB5.out
    go_loopw [32] (fun i wr => ∃ k : Nat, k ≤ l.length ∧ i = .int .i64 k ∧ wr = w5) (fun i _ => l.length - (intOf i).toNat)
    case atStart => exact ⟨0, by omega, rfl, rfl⟩
    case round =>
      obtain ⟨k, hk, rfl, rfl⟩ := hrel
      unfold maxLen at hm
      by_cases hlt : k < l.length
      · obtain ⟨b, off, rfl, hbl, hc0⟩ := hl5.2.resolve_left (by intro h; subst h; simp at hlt)
        obtain ⟨b4, off4, rfl, hb4l, hc40⟩ := hrow5.resolve_left (by intro h; subst h; simp at hlt)
        have hc := hc0 k hlt
        have hc4 := hc40 k hlt
        have HE5 := Hid.out (p := Hid _) he5
        clear hl1 hl5 hrow5 HB1 he3 HB3 hrow ho he4 HB4 he5 HO5 hf hmd
        generalize l.getD k ByteArray.empty = s at *
        clear hc0 hc40
        go_wp2
        go_round
        case rel => exact ⟨k + 1, by omega, by go_num, trivial⟩
        case measure => simp [intOf]; omega
      · obtain rfl : k = l.length := by omega
        have hfull := full_any _ _ n _ he5
        have HB := HB5
        clear hl1 hl5 hrow5 HB1 he3 HB3 hrow ho he4 HB4 he5 HO5 HB5 hf hmd
        have hq : (n = 20 ∨ n = 21 ∨ n = 22) ∨ (n ≠ 20 ∧ n ≠ 21 ∧ n ≠ 22) := by omega
        rcases hq with (rfl | rfl | rfl) | ⟨h20, h21, h22⟩
        · simp only [beq_self_eq_true, Bool.true_or] at hfull
          go_wp2_with (go_at_call 16; (with_reducible refine hfull.mono ?_); rintro e w' ⟨rfl, rfl⟩)
          go_ret
          exact ⟨rfl, HB.out⟩
        · simp only [beq_self_eq_true, Bool.true_or, Bool.or_true] at hfull
          go_wp2_with (go_at_call 16; (with_reducible refine hfull.mono ?_); rintro e w' ⟨rfl, rfl⟩)
          go_ret
          exact ⟨rfl, HB.out⟩
        · simp only [beq_self_eq_true, Bool.true_or, Bool.or_true] at hfull
          go_wp2_with (go_at_call 16; (with_reducible refine hfull.mono ?_); rintro e w' ⟨rfl, rfl⟩)
          go_ret
          exact ⟨rfl, HB.out⟩
        · have hff : (n == 20 || n == 21 || n == 22) = false := by simp [h20, h21, h22]
          rw [hff] at hfull
          go_wp2_with (go_at_call 16; (with_reducible refine hfull.mono ?_); rintro e w' ⟨rfl, rfl⟩)
          go_ret
          exact ⟨rfl, HB.out⟩
  · go_ret
    exact ⟨rfl, HB1.out⟩
end Go.Proofs.YtgoddepgdgdacaaDoor
