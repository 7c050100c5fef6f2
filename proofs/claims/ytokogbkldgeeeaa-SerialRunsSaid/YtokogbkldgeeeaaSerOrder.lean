/-
  serial: the laws SerialOrder and SerialWithin.
-/
import Derived.Test.YtokogbkldgeeeaaSerStands
import Derived.Test.YtokogbkldgeeeaaRead2
namespace Go.Proofs.Ytokogbkldgeeeaa
set_option linter.unusedVariables false
set_option linter.unusedSimpArgs false
open Go.RowKit

theorem u32_bd {x : Int} (h : (Lit.int .u32 x).wf = true) : 0 ≤ x ∧ x < 4294967296 := by
  simp only [Lit.wf, IntKind.min, IntKind.max, IntKind.signed, IntKind.bits, Bool.and_eq_true] at h
  simp at h
  omega

theorem within_is (x f l : Int) (v : Bool) (w : World) (hc : withinB x f l = v) :
    Calls Try.prog 10 #[.int .u32 x, .int .u32 f, .int .u32 l] w fun e w' => e = .returned (.bool v) ∧ w = w' :=
  (within_any x f l w).mono fun e w' ⟨he, hw⟩ => ⟨by rw [he, hc], hw⟩

set_option maxHeartbeats 2000000 in
theorem within_walk (x f l : Int) (w : World) (hx : 0 ≤ x ∧ x < 4294967296) (hf : 0 ≤ f ∧ f < 4294967296) (hl : 0 ≤ l ∧ l < 4294967296) :
    Calls Try.prog 4 #[.int .u32 x, .int .u32 f, .int .u32 l] w fun e w' => e = .returned (.bool true) ∧ Below w.heap.size w w' := by
  obtain ⟨hx0, hx1⟩ := hx
  obtain ⟨hf0, hf1⟩ := hf
  obtain ⟨hl0, hl1⟩ := hl
  have e1 : (l + 4294967296 - f) % 4294967296 = (l - f) % 4294967296 := by omega
  have e2 : (x + 4294967296 - f) % 4294967296 = (x - f) % 4294967296 := by omega
  by_cases h1 : (l - f) % 4294967296 < 2147483648
  · have hd : decide ((l - f) % 4294967296 < 2147483648) = true := by simp [h1]
    have hwi : withinB x f l = decide ((x - f) % 4294967296 ≤ (l - f) % 4294967296) := by simp [withinB, h1]
    clear h1
    generalize hq : decide ((x - f) % 4294967296 ≤ (l - f) % 4294967296) = q at *
    have hqq : (q == q) = true := by simp
    have HW := Lib.hid hwi
    clear hwi
    go_enter Try.func4, Try.ntmps4
    go_wp2_with fail
    refine (stands_any _).mono ?_
    rintro e w1 ⟨rfl, hb1⟩
    go_wp2_with fail
    refine (within_is _ _ _ q _ HW.out).mono ?_
    rintro e w2 ⟨rfl, rfl⟩
    go_wp2
    go_ret
    exact ⟨rfl, hb1⟩
  · have hd : decide ((l - f) % 4294967296 < 2147483648) = false := by simp [h1]
    have hwi : withinB x f l = false := by simp [withinB, h1]
    clear h1
    have HW := Lib.hid hwi
    clear hwi
    go_enter Try.func4, Try.ntmps4
    go_wp2_with fail
    refine (stands_any _).mono ?_
    rintro e w1 ⟨rfl, hb1⟩
    go_wp2_with fail
    refine (within_is _ _ _ false _ HW.out).mono ?_
    rintro e w2 ⟨rfl, rfl⟩
    go_wp2
    go_ret
    exact ⟨rfl, hb1⟩

theorem serialWithin_law (v0 v1 v2 : Value) (D0 D1 D2 : D) (W : World) (r0 : RdV Try.prog W 22 v0 D0) (r1 : RdV Try.prog W 22 v1 D1) (r2 : RdV Try.prog W 22 v2 D2) :
    Calls Try.prog 4 #[v0, v1, v2] W fun e w' => e = .returned (.bool true) ∧ Below W.heap.size W w' := by
  obtain ⟨x, rfl, _, hx⟩ := r0.int Try.underlying22
  obtain ⟨f, rfl, _, hf⟩ := r1.int Try.underlying22
  obtain ⟨l, rfl, _, hl⟩ := r2.int Try.underlying22
  exact within_walk x f l W (u32_bd hx) (u32_bd hf) (u32_bd hl)

theorem order_cases (a b : Int) (ha : 0 ≤ a ∧ a < 4294967296) (hb : 0 ≤ b ∧ b < 4294967296) :
    ((a == b) = true ∧ (a != b) = false ∧ lessB a b = false ∧ lessB b a = false ∧ ((b - a) % 4294967296 == 2147483648) = false ∧ decide ((b - a) % 4294967296 < 2147483648) = true) ∨
    ((a == b) = false ∧ (a != b) = true ∧ lessB a b = true ∧ lessB b a = false ∧ ((b - a) % 4294967296 == 2147483648) = false ∧ decide ((b - a) % 4294967296 < 2147483648) = true) ∨
    ((a == b) = false ∧ (a != b) = true ∧ lessB a b = false ∧ lessB b a = false ∧ ((b - a) % 4294967296 == 2147483648) = true ∧ decide ((b - a) % 4294967296 < 2147483648) = false) ∨
    ((a == b) = false ∧ (a != b) = true ∧ lessB a b = false ∧ lessB b a = true ∧ ((b - a) % 4294967296 == 2147483648) = false ∧ decide ((b - a) % 4294967296 < 2147483648) = false) := by
  simp only [lessB, beq_iff_eq, bne_iff_ne, beq_eq_false_iff_ne, bne_eq_false_iff_eq, Bool.and_eq_true, Bool.and_eq_false_iff, decide_eq_true_eq, decide_eq_false_iff_not]
  omega

set_option maxHeartbeats 2000000 in
theorem order_core (a b n : Int) (w : World) (ha : 0 ≤ a ∧ a < 4294967296) (hb : 0 ≤ b ∧ b < 4294967296) (hn : 0 ≤ n ∧ n < 4294967296) (p q x y far lt : Bool)
    (h1 : (a == b) = p) (h2 : (a != b) = q) (hx : Hid (lessB a b = x)) (hy : Hid (lessB b a = y)) (hf : ((b - a) % 4294967296 == 2147483648) = far) (hl : decide ((b - a) % 4294967296 < 2147483648) = lt)
    (hall : (p, q, x, y, far, lt) = (true, false, false, false, false, true) ∨ (p, q, x, y, far, lt) = (false, true, true, false, false, true) ∨ (p, q, x, y, far, lt) = (false, true, false, false, true, false) ∨ (p, q, x, y, far, lt) = (false, true, false, true, false, false)) :
    Calls Try.prog 3 #[.int .u32 a, .int .u32 b, .int .u32 n] w fun e w' => e = .returned (.bool true) ∧ Below w.heap.size w w' := by
  obtain ⟨ha0, ha1⟩ := ha
  obtain ⟨hb0, hb1⟩ := hb
  obtain ⟨hn0, hn1⟩ := hn
  have e1 : (b + 4294967296 - a) % 4294967296 = (b - a) % 4294967296 := by omega
  simp only [Prod.mk.injEq] at hall
  rcases hall with ⟨rfl, rfl, rfl, rfl, rfl, rfl⟩ | ⟨rfl, rfl, rfl, rfl, rfl, rfl⟩ | ⟨rfl, rfl, rfl, rfl, rfl, rfl⟩ | ⟨rfl, rfl, rfl, rfl, rfl, rfl⟩
  all_goals
    by_cases hz : n % 2147483648 = 0
    · have hz1 : (n % 2147483648 == 0) = true := by simp [hz]
      clear hz
      go_enter Try.func3, Try.ntmps3
      go_wp2_with fail
      refine (stands_any _).mono ?_
      rintro e w1 ⟨rfl, hbel⟩
      go_wp2_with fail
      refine (less_is a b _ _ ⟨ha0, ha1⟩ ⟨hb0, hb1⟩ hx.out).mono ?_
      rintro e w2 ⟨rfl, rfl⟩
      go_wp2_with fail
      refine (less_is b a _ _ ⟨hb0, hb1⟩ ⟨ha0, ha1⟩ hy.out).mono ?_
      rintro e w2 ⟨rfl, rfl⟩
      go_wp2
      go_ret
      exact ⟨rfl, hbel⟩
    · have hz1 : (n % 2147483648 == 0) = false := by simp [hz]
      have hm0 : 0 ≤ (a + n % 2147483648) % 4294967296 := by omega
      have hm1 : (a + n % 2147483648) % 4294967296 < 4294967296 := by omega
      have hs1 : Hid (lessB a ((a + n % 2147483648) % 4294967296) = true) := by
        show lessB a ((a + n % 2147483648) % 4294967296) = true
        simp only [lessB, Bool.and_eq_true, decide_eq_true_eq]; omega
      have hs2 : Hid (lessB ((a + n % 2147483648) % 4294967296) a = false) := by
        show lessB ((a + n % 2147483648) % 4294967296) a = false
        simp only [lessB, Bool.and_eq_false_iff, decide_eq_false_iff_not]; omega
      clear hz
      go_enter Try.func3, Try.ntmps3
      go_wp2_with fail
      refine (stands_any _).mono ?_
      rintro e w1 ⟨rfl, hbel⟩
      go_wp2_with fail
      refine (less_is a b _ _ ⟨ha0, ha1⟩ ⟨hb0, hb1⟩ hx.out).mono ?_
      rintro e w2 ⟨rfl, rfl⟩
      go_wp2_with fail
      refine (less_is b a _ _ ⟨hb0, hb1⟩ ⟨ha0, ha1⟩ hy.out).mono ?_
      rintro e w2 ⟨rfl, rfl⟩
      go_wp2_with fail
      refine (less_is a _ true _ ⟨ha0, ha1⟩ ⟨hm0, hm1⟩ hs1.out).mono ?_
      rintro e w2 ⟨rfl, rfl⟩
      go_wp2_with fail
      refine (less_is _ a false _ ⟨hm0, hm1⟩ ⟨ha0, ha1⟩ hs2.out).mono ?_
      rintro e w2 ⟨rfl, rfl⟩
      go_wp2
      go_ret
      exact ⟨rfl, hbel⟩

theorem serialOrder_law (v0 v1 v2 : Value) (D0 D1 D2 : D) (W : World) (r0 : RdV Try.prog W 22 v0 D0) (r1 : RdV Try.prog W 22 v1 D1) (r2 : RdV Try.prog W 22 v2 D2) :
    Calls Try.prog 3 #[v0, v1, v2] W fun e w' => e = .returned (.bool true) ∧ Below W.heap.size W w' := by
  obtain ⟨a, rfl, _, ha⟩ := r0.int Try.underlying22
  obtain ⟨b, rfl, _, hb⟩ := r1.int Try.underlying22
  obtain ⟨n, rfl, _, hn⟩ := r2.int Try.underlying22
  have ha := u32_bd ha
  have hb := u32_bd hb
  have hn := u32_bd hn
  rcases order_cases a b ha hb with ⟨h1, h2, h3, h4, h5, h6⟩ | ⟨h1, h2, h3, h4, h5, h6⟩ | ⟨h1, h2, h3, h4, h5, h6⟩ | ⟨h1, h2, h3, h4, h5, h6⟩
  all_goals exact order_core a b n W ha hb hn _ _ _ _ _ _ h1 h2 h3 h4 h5 h6 (by simp)

end Go.Proofs.Ytokogbkldgeeeaa
