/-
  pdu: May, the reference's May; short.
-/
import Derived.Test.YtaehaclmagnncaaPduLaw
import Derived.Test.YtaehaclmagnncaaCut
import Derived.Test.YtaehaclmagnncaaNv
import Derived.IntWalk
namespace Go.Proofs.Ytaehaclmagnncaa
set_option linter.unusedVariables false
set_option linter.unusedSimpArgs false
open Go.RowKit
attribute [local go_sem ↓] Go.wp_at_zero Go.wp_at_succ

def mayB (op : Int) (n m : Nat) : Bool := decide (0 ≤ op ∧ op < 64 ∧ n ≤ 32 ∧ n % 4 = 0 ∧ m ≤ 256)
theorem PD.may_eq (p : PD) : p.may = mayB p.op p.ahs.length p.data.length := rfl
def shortB (n m : Nat) : Bool := decide (n ≤ 1000 ∧ m ≤ 1000)

set_option maxHeartbeats 1000000 in
theorem may_any (op : Int) (x1 x2 x3 x4 x6 x7 x8 x9 x10 x11 x12 x13 x14 : Value) (aa da : Option Addr) (n ac m dc : Nat) (w : World) (hn : n ≤ 9223372036854775807) (hm : m ≤ 9223372036854775807) :
    Calls Try.prog 13 #[.agg #[.int .i64 op, x1, x2, x3, x4, .slice aa n ac, x6, x7, x8, x9, x10, x11, x12, x13, x14, .slice da m dc]] w fun e w' => e = .returned (.bool (mayB op n m)) ∧ Below w.heap.size w w' := by
  obtain ⟨v, hv⟩ : ∃ v, mayB op n m = v := ⟨_, rfl⟩
  rw [hv]
  have HV := Lib.hid hv
  clear hv
  by_cases h0 : 0 ≤ op
  · have g0 : decide (0 ≤ op) = true := by simp; omega
    by_cases h1 : op < 64
    · have g1 : decide (op < 64) = true := by simp; omega
      by_cases h2 : n ≤ 32
      · have g2 : decide (n ≤ 32) = true := by simp; omega
        have gi2 : decide ((n : Int) ≤ 32) = true := by simp; omega
        by_cases h3 : n % 4 = 0
        · have g3 : ((n : Int) % 4 == 0) = true := by simp; omega
          by_cases h4 : m ≤ 256
          · have g4 : decide (m ≤ 256) = true := by simp; omega
            have gi4 : decide ((m : Int) ≤ 256) = true := by simp; omega
            obtain rfl : v = true := by rw [← HV.out]; simp [mayB]; omega
            clear h0
            clear h1
            clear h2
            clear h3
            clear h4
            go_enter Try.func13, Try.ntmps13
            go_wp2_with fail
            (go_ret; exact ⟨rfl, (Below.refl _ _).alloc (Nat.le_refl _) _⟩)
          · have g4 : decide (m ≤ 256) = false := by simp; omega
            have gi4 : decide ((m : Int) ≤ 256) = false := by simp; omega
            obtain rfl : v = false := by rw [← HV.out]; simp [mayB]; omega
            clear h0
            clear h1
            clear h2
            clear h3
            clear h4
            go_enter Try.func13, Try.ntmps13
            go_wp2_with fail
            (go_ret; exact ⟨rfl, (Below.refl _ _).alloc (Nat.le_refl _) _⟩)
        · have g3 : ((n : Int) % 4 == 0) = false := by simp; omega
          obtain rfl : v = false := by rw [← HV.out]; simp [mayB]; omega
          clear h0
          clear h1
          clear h2
          clear h3
          go_enter Try.func13, Try.ntmps13
          go_wp2_with fail
          (go_ret; exact ⟨rfl, (Below.refl _ _).alloc (Nat.le_refl _) _⟩)
      · have g2 : decide (n ≤ 32) = false := by simp; omega
        have gi2 : decide ((n : Int) ≤ 32) = false := by simp; omega
        obtain rfl : v = false := by rw [← HV.out]; simp [mayB]; omega
        clear h0
        clear h1
        clear h2
        go_enter Try.func13, Try.ntmps13
        go_wp2_with fail
        (go_ret; exact ⟨rfl, (Below.refl _ _).alloc (Nat.le_refl _) _⟩)
    · have g1 : decide (op < 64) = false := by simp; omega
      obtain rfl : v = false := by rw [← HV.out]; simp [mayB]; omega
      clear h0
      clear h1
      go_enter Try.func13, Try.ntmps13
      go_wp2_with fail
      (go_ret; exact ⟨rfl, (Below.refl _ _).alloc (Nat.le_refl _) _⟩)
  · have g0 : decide (0 ≤ op) = false := by simp; omega
    obtain rfl : v = false := by rw [← HV.out]; simp [mayB]; omega
    clear h0
    go_enter Try.func13, Try.ntmps13
    go_wp2_with fail
    (go_ret; exact ⟨rfl, (Below.refl _ _).alloc (Nat.le_refl _) _⟩)

set_option maxHeartbeats 1000000 in
theorem mayR_any (op : Int) (x1 x2 x3 x4 x6 x7 x8 x9 x10 x11 x12 x13 x14 : Value) (aa da : Option Addr) (n ac m dc : Nat) (w : World) (hn : n ≤ 9223372036854775807) (hm : m ≤ 9223372036854775807) :
    Calls Try.prog 14 #[.agg #[.int .i64 op, x1, x2, x3, x4, .slice aa n ac, x6, x7, x8, x9, x10, x11, x12, x13, x14, .slice da m dc]] w fun e w' => e = .returned (.bool (mayB op n m)) ∧ Below w.heap.size w w' := by
  obtain ⟨v, hv⟩ : ∃ v, mayB op n m = v := ⟨_, rfl⟩
  rw [hv]
  have HV := Lib.hid hv
  clear hv
  by_cases h0 : 0 ≤ op
  · have g0 : decide (0 ≤ op) = true := by simp; omega
    by_cases h1 : op ≤ 63
    · have g1 : decide (op ≤ 63) = true := by simp; omega
      by_cases h2 : n ≤ 32
      · have g2 : decide (n ≤ 32) = true := by simp; omega
        have gi2 : decide ((n : Int) ≤ 32) = true := by simp; omega
        by_cases h3 : n % 4 = 0
        · have g3 : ((n : Int) % 4 == 0) = true := by simp; omega
          by_cases h4 : m ≤ 256
          · have g4 : decide (m ≤ 256) = true := by simp; omega
            have gi4 : decide ((m : Int) ≤ 256) = true := by simp; omega
            obtain rfl : v = true := by rw [← HV.out]; simp [mayB]; omega
            clear h0
            clear h1
            clear h2
            clear h3
            clear h4
            go_enter Try.func14, Try.ntmps14
            go_wp2_with fail
            (go_ret; exact ⟨rfl, (Below.refl _ _).alloc (Nat.le_refl _) _⟩)
          · have g4 : decide (m ≤ 256) = false := by simp; omega
            have gi4 : decide ((m : Int) ≤ 256) = false := by simp; omega
            obtain rfl : v = false := by rw [← HV.out]; simp [mayB]; omega
            clear h0
            clear h1
            clear h2
            clear h3
            clear h4
            go_enter Try.func14, Try.ntmps14
            go_wp2_with fail
            (go_ret; exact ⟨rfl, (Below.refl _ _).alloc (Nat.le_refl _) _⟩)
        · have g3 : ((n : Int) % 4 == 0) = false := by simp; omega
          obtain rfl : v = false := by rw [← HV.out]; simp [mayB]; omega
          clear h0
          clear h1
          clear h2
          clear h3
          go_enter Try.func14, Try.ntmps14
          go_wp2_with fail
          (go_ret; exact ⟨rfl, (Below.refl _ _).alloc (Nat.le_refl _) _⟩)
      · have g2 : decide (n ≤ 32) = false := by simp; omega
        have gi2 : decide ((n : Int) ≤ 32) = false := by simp; omega
        obtain rfl : v = false := by rw [← HV.out]; simp [mayB]; omega
        clear h0
        clear h1
        clear h2
        go_enter Try.func14, Try.ntmps14
        go_wp2_with fail
        (go_ret; exact ⟨rfl, (Below.refl _ _).alloc (Nat.le_refl _) _⟩)
    · have g1 : decide (op ≤ 63) = false := by simp; omega
      obtain rfl : v = false := by rw [← HV.out]; simp [mayB]; omega
      clear h0
      clear h1
      go_enter Try.func14, Try.ntmps14
      go_wp2_with fail
      (go_ret; exact ⟨rfl, (Below.refl _ _).alloc (Nat.le_refl _) _⟩)
  · have g0 : decide (0 ≤ op) = false := by simp; omega
    obtain rfl : v = false := by rw [← HV.out]; simp [mayB]; omega
    clear h0
    go_enter Try.func14, Try.ntmps14
    go_wp2_with fail
    (go_ret; exact ⟨rfl, (Below.refl _ _).alloc (Nat.le_refl _) _⟩)

set_option maxHeartbeats 1000000 in
theorem short_any (op : Int) (x1 x2 x3 x4 x6 x7 x8 x9 x10 x11 x12 x13 x14 : Value) (aa da : Option Addr) (n ac m dc : Nat) (w : World) (hn : n ≤ 9223372036854775807) (hm : m ≤ 9223372036854775807) :
    Calls Try.prog 10 #[.agg #[.int .i64 op, x1, x2, x3, x4, .slice aa n ac, x6, x7, x8, x9, x10, x11, x12, x13, x14, .slice da m dc]] w fun e w' => e = .returned (.bool (shortB n m)) ∧ Below w.heap.size w w' := by
  obtain ⟨v, hv⟩ : ∃ v, shortB n m = v := ⟨_, rfl⟩
  rw [hv]
  have HV := Lib.hid hv
  clear hv
  by_cases h0 : n ≤ 1000
  · have g0 : decide (n ≤ 1000) = true := by simp; omega
    have gi0 : decide ((n : Int) ≤ 1000) = true := by simp; omega
    obtain rfl : v = decide (m ≤ 1000) := by rw [← HV.out]; simp [shortB, h0]
    clear h0 HV
    have e : decide ((m : Int) ≤ 1000) = decide (m ≤ 1000) := by simp; omega
    go_enter Try.func10, Try.ntmps10
    go_wp2_with fail
    (go_ret; exact ⟨rfl, (Below.refl _ _).alloc (Nat.le_refl _) _⟩)
  · have g0 : decide (n ≤ 1000) = false := by simp; omega
    have gi0 : decide ((n : Int) ≤ 1000) = false := by simp; omega
    obtain rfl : v = false := by rw [← HV.out]; simp [shortB, h0]
    clear h0 HV
    go_enter Try.func10, Try.ntmps10
    go_wp2_with fail
    (go_ret; exact ⟨rfl, (Below.refl _ _).alloc (Nat.le_refl _) _⟩)
end Go.Proofs.Ytaehaclmagnncaa
