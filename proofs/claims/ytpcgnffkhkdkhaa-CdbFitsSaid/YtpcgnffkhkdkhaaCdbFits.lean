/-
  cdb: the law CdbFits.
-/
import Derived.Test.YtpcgnffkhkdkhaaCdbBounds
import Derived.IntWalk
namespace Go.Proofs.Ytpcgnffkhkdkhaa
set_option linter.unusedVariables false
set_option linter.unusedSimpArgs false
open Go.RowKit
attribute [local go_sem ↓] Go.wp_at_zero Go.wp_at_succ

/-- Blocks l to l + n are within s. -/
def fitB (l n s : Int) : Bool := decide (0 ≤ s ∧ l ≤ s ∧ n ≤ s - l)
theorem u64_in (x : Int) (h0 : 0 ≤ x) (h1 : x < 18446744073709551616) : IntKind.u64.wrap x = x := by rw [IntKind.wrap_u64]; exact Int.emod_eq_of_lt h0 h1

set_option maxRecDepth 100000 in
set_option maxHeartbeats 1000000 in
theorem fitsC_any (l n s : Int) (v : Bool) (w : World) (hl0 : 0 ≤ l) (hl1 : l < 18446744073709551616) (hn0 : 0 ≤ n) (hn1 : n < 18446744073709551616) (hs0 : -9223372036854775808 ≤ s) (hs1 : s < 9223372036854775808) (hv : fitB l n s = v) :
    Calls Try.prog 9 #[.agg #[.int .i64 0, .int .u64 l, .int .u64 n, .bool false, .bool false, .int .i64 0, .int .i64 0, .int .i64 0, .int .i64 0, .int .i64 0, .int .i64 0, .bool false], .int .i64 s] w fun e w' => e = .returned (.bool v) ∧ Below w.heap.size w w' := by
  have HV := Lib.hid hv
  clear hv
  by_cases h1 : 0 ≤ s
  · have w1 : IntKind.u64.wrap s = s := u64_in s h1 (by omega)
    have e1 : decide (0 ≤ s) = true := by simp [h1]
    have e2 : decide (s < 0) = false := by simp; omega
    by_cases h2 : l ≤ s
    · have w2 : IntKind.u64.wrap (s - l) = s - l := u64_in _ (by omega) (by omega)
      have e3 : decide (l ≤ s) = true := by simp [h2]
      have e4 : decide (s < l) = false := by simp; omega
      have h3 : Hid (decide (n ≤ s - l) = v) := Lib.hid (by rw [← HV.out]; unfold fitB; simp [h1, h2])
      have h3b : decide (n ≤ s - l) = v := h3.out
      clear h1 h2 HV h3 hl0 hl1 hn0 hn1 hs0 hs1
      go_enter Try.func9, Try.ntmps9
      go_wp2_with fail
      go_ret
      exact ⟨rfl, (Below.refl _ _).alloc (Nat.le_refl _) _⟩
    · have e3 : decide (l ≤ s) = false := by simp; omega
      have e4 : decide (s < l) = true := by simp; omega
      obtain rfl : v = false := by rw [← HV.out]; unfold fitB; simp; omega
      clear h1 h2 HV
      go_enter Try.func9, Try.ntmps9
      go_wp2_with fail
      go_ret
      exact ⟨rfl, (Below.refl _ _).alloc (Nat.le_refl _) _⟩
  · have e1 : decide (0 ≤ s) = false := by simp; omega
    have e2 : decide (s < 0) = true := by simp; omega
    obtain rfl : v = false := by rw [← HV.out]; unfold fitB; simp; omega
    clear h1 HV
    go_enter Try.func9, Try.ntmps9
    go_wp2_with fail
    go_ret
    exact ⟨rfl, (Below.refl _ _).alloc (Nat.le_refl _) _⟩

set_option maxRecDepth 100000 in
set_option maxHeartbeats 1000000 in
theorem fitsR_any (l n s : Int) (v : Bool) (w : World) (hl0 : 0 ≤ l) (hl1 : l < 18446744073709551616) (hn0 : 0 ≤ n) (hn1 : n < 18446744073709551616) (hs0 : -9223372036854775808 ≤ s) (hs1 : s < 9223372036854775808) (hv : fitB l n s = v) :
    Calls Try.prog 10 #[.agg #[.int .i64 0, .int .u64 l, .int .u64 n, .bool false, .bool false, .int .i64 0, .int .i64 0, .int .i64 0, .int .i64 0, .int .i64 0, .int .i64 0, .bool false], .int .i64 s] w fun e w' => e = .returned (.bool v) ∧ Below w.heap.size w w' := by
  have HV := Lib.hid hv
  clear hv
  by_cases h1 : 0 ≤ s
  · have w1 : IntKind.u64.wrap s = s := u64_in s h1 (by omega)
    have e1 : decide (0 ≤ s) = true := by simp [h1]
    have e2 : decide (s < 0) = false := by simp; omega
    by_cases h2 : l ≤ s
    · have w2 : IntKind.u64.wrap (s - l) = s - l := u64_in _ (by omega) (by omega)
      have e3 : decide (l ≤ s) = true := by simp [h2]
      have e4 : decide (s < l) = false := by simp; omega
      have h3 : Hid (decide (n ≤ s - l) = v) := Lib.hid (by rw [← HV.out]; unfold fitB; simp [h1, h2])
      have h3b : decide (n ≤ s - l) = v := h3.out
      clear h1 h2 HV h3 hl0 hl1 hn0 hn1 hs0 hs1
      go_enter Try.func10, Try.ntmps10
      go_wp2_with fail
      go_ret
      exact ⟨rfl, (Below.refl _ _).alloc (Nat.le_refl _) _⟩
    · have e3 : decide (l ≤ s) = false := by simp; omega
      have e4 : decide (s < l) = true := by simp; omega
      obtain rfl : v = false := by rw [← HV.out]; unfold fitB; simp; omega
      clear h1 h2 HV
      go_enter Try.func10, Try.ntmps10
      go_wp2_with fail
      go_ret
      exact ⟨rfl, (Below.refl _ _).alloc (Nat.le_refl _) _⟩
  · have e1 : decide (0 ≤ s) = false := by simp; omega
    have e2 : decide (s < 0) = true := by simp; omega
    obtain rfl : v = false := by rw [← HV.out]; unfold fitB; simp; omega
    clear h1 HV
    go_enter Try.func10, Try.ntmps10
    go_wp2_with fail
    go_ret
    exact ⟨rfl, (Below.refl _ _).alloc (Nat.le_refl _) _⟩

set_option maxRecDepth 100000 in
set_option maxHeartbeats 2000000 in
theorem fits_walk (l n s : Int) (w : World) (hl0 : 0 ≤ l) (hl1 : l < 18446744073709551616) (hn0 : 0 ≤ n) (hn1 : n < 18446744073709551616) (hs0 : -9223372036854775808 ≤ s) (hs1 : s < 9223372036854775808) :
    Calls Try.prog 6 #[.int .u64 l, .int .u64 n, .int .i64 s] w fun e w' => e = .returned (.bool true) ∧ Below w.heap.size w w' := by
  obtain ⟨v, hv⟩ : ∃ v, fitB l n s = v := ⟨_, rfl⟩
  have hC := Lib.hid (fun W => fitsC_any l n s v W hl0 hl1 hn0 hn1 hs0 hs1 hv)
  have hR := Lib.hid (fun W => fitsR_any l n s v W hl0 hl1 hn0 hn1 hs0 hs1 hv)
  have HV := Lib.hid hv
  clear hv
  go_enter Try.func6, Try.ntmps6
  go_wp2_with fail
  refine (stands_any _).mono ?_
  rintro e w1 ⟨rfl, hb1⟩
  have HB1 := Lib.hid hb1
  clear hb1
  go_wp2_with fail
  refine (hC.out _).mono ?_
  rintro e w2 ⟨rfl, hb2⟩
  have K1 : IsBlk (w1.alloc (.cells #[.int .i64 0, .int .u64 l, .int .u64 n, .bool false, .bool false, .int .i64 0, .int .i64 0, .int .i64 0, .int .i64 0, .int .i64 0, .int .i64 0, .bool false] 32)) w1.heap.size #[.int .i64 0, .int .u64 l, .int .u64 n, .bool false, .bool false, .int .i64 0, .int .i64 0, .int .i64 0, .int .i64 0, .int .i64 0, .int .i64 0, .bool false] 32 := IsBlk.new _ _ _
  have K2 : Hid (IsBlk w2 w1.heap.size #[.int .i64 0, .int .u64 l, .int .u64 n, .bool false, .bool false, .int .i64 0, .int .i64 0, .int .i64 0, .int .i64 0, .int .i64 0, .int .i64 0, .bool false] 32 ∧ Below w.heap.size w w2) := Lib.hid ⟨K1.below hb2 K1.lt, (HB1.out.alloc HB1.out.size _).trans (hb2.mono (HB1.out.alloc HB1.out.size _).size)⟩
  clear hb2 K1 HB1
  generalize w1.heap.size = T at *
  have ft := K2.out.1.fz
  have t0 := K2.out.1.cell 0 (v := .int .i64 0) rfl
  have t1 := K2.out.1.cell 1 (v := .int .u64 l) rfl
  have t2 := K2.out.1.cell 2 (v := .int .u64 n) rfl
  have t3 := K2.out.1.cell 3 (v := .bool false) rfl
  have t4 := K2.out.1.cell 4 (v := .bool false) rfl
  have t5 := K2.out.1.cell 5 (v := .int .i64 0) rfl
  have t6 := K2.out.1.cell 6 (v := .int .i64 0) rfl
  have t7 := K2.out.1.cell 7 (v := .int .i64 0) rfl
  have t8 := K2.out.1.cell 8 (v := .int .i64 0) rfl
  have t9 := K2.out.1.cell 9 (v := .int .i64 0) rfl
  have t10 := K2.out.1.cell 10 (v := .int .i64 0) rfl
  have t11 := K2.out.1.cell 11 (v := .bool false) rfl
  go_wp2_with fail
  refine (hR.out _).mono ?_
  rintro e w3 ⟨rfl, hb3⟩
  have HB3 : Hid (Below w.heap.size w w3) := Lib.hid (K2.out.2.trans (hb3.mono K2.out.2.size))
  clear hb3 K2 hC hR t0 t1 t2 t3 t4 t5 t6 t7 t8 t9 t10 t11 ft
  cases v with
  | false =>
    go_wp2_with fail
    go_ret
    exact ⟨rfl, HB3.out⟩
  | true =>
    have hv : 0 ≤ s ∧ l ≤ s ∧ n ≤ s - l := by have := HV.out; unfold fitB at this; simpa using this
    obtain ⟨h1, h2, h3⟩ := hv
    have w1 : IntKind.u64.wrap s = s := u64_in s h1 (by omega)
    have e1 : decide (0 ≤ s) = true := by simp [h1]
    have e2 : decide (l ≤ s) = true := by simp [h2]
    have e3 : decide (n ≤ s) = true := by simp; omega
    have hZ := Lib.hid (fun W => fitsC_any l 0 s true W hl0 hl1 (by omega) (by omega) hs0 hs1 (by unfold fitB; simp; omega))
    clear HV h1 h2 h3
    go_wp2_with fail
    refine (hZ.out _).mono ?_
    rintro e w4 ⟨rfl, hb4⟩
    go_wp2_with fail
    go_ret
    exact ⟨rfl, HB3.out.trans (hb4.mono HB3.out.size)⟩
theorem u64_bd {x : Int} (h : (Lit.int .u64 x).wf = true) : 0 ≤ x ∧ x < 18446744073709551616 := by
  simp only [Lit.wf, IntKind.min, IntKind.max, IntKind.signed, IntKind.bits, Bool.and_eq_true] at h
  simp at h
  omega
theorem i64_bd {x : Int} (h : (Lit.int .i64 x).wf = true) : -9223372036854775808 ≤ x ∧ x < 9223372036854775808 := by
  simp only [Lit.wf, IntKind.min, IntKind.max, IntKind.signed, IntKind.bits, Bool.and_eq_true] at h
  simp at h
  omega
theorem cdbFits_law (v0 v1 v2 : Value) (D0 D1 D2 : D) (W : World) (r0 : RdV Try.prog W 30 v0 D0) (r1 : RdV Try.prog W 30 v1 D1) (r2 : RdV Try.prog W 3 v2 D2) :
    Calls Try.prog 6 #[v0, v1, v2] W fun e w' => e = .returned (.bool true) ∧ Below W.heap.size W w' := by
  obtain ⟨l, rfl, _, hl⟩ := r0.int Try.underlying30
  obtain ⟨n, rfl, _, hn⟩ := r1.int Try.underlying30
  obtain ⟨s, rfl, _, hs⟩ := r2.int Try.underlying3
  exact fits_walk l n s W (u64_bd hl).1 (u64_bd hl).2 (u64_bd hn).1 (u64_bd hn).2 (i64_bd hs).1 (i64_bd hs).2
end Go.Proofs.Ytpcgnffkhkdkhaa
