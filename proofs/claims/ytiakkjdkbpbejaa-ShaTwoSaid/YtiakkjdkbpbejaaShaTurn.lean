/-
  sha: turn, of both.
-/
import Derived.Test.YtiakkjdkbpbejaaProg
import Derived.Test.YtiakkjdkbpbejaaShaPlain
import Derived.WalkKit
import Derived.WalkLawsBesides
import Derived.Lib.Hide
import Derived.Laws.BitsAllLaws
import Derived.IntWalk
import Derived.Deep.QuietTactic
import Derived.BigQuiet
namespace Go.Proofs.Ytiakkjdkbpbejaa
set_option linter.unusedVariables false
set_option linter.unusedSimpArgs false
open Go.RowKit

theorem rot_or (x n : Nat) (hx : x < 4294967296) (hn1 : 1 ≤ n) (hn2 : n ≤ 31) : x / 2 ^ n ||| x * 2 ^ (32 - n) % 4294967296 = rot x n := by
  have hp : 2 ^ n * 2 ^ (32 - n) = 4294967296 := by rw [← Nat.pow_add, show n + (32 - n) = 32 by omega]
  have h1 : x * 2 ^ (32 - n) % 4294967296 = 2 ^ (32 - n) * (x % 2 ^ n) := by
    rw [← hp, Nat.mul_comm x, Nat.mul_comm (2 ^ n), Nat.mul_mod_mul_left]
  have h2 : x / 2 ^ n < 2 ^ (32 - n) := by
    rw [Nat.div_lt_iff_lt_mul (Nat.pow_pos (by decide)), Nat.mul_comm, hp]; exact hx
  have h3 : 2 ^ (32 - n) * (x % 2 ^ n) + x / 2 ^ n < 4294967296 := by
    have h4 : x % 2 ^ n + 1 ≤ 2 ^ n := Nat.mod_lt _ (Nat.pow_pos (by decide))
    have h5 := Nat.mul_le_mul_left (2 ^ (32 - n)) h4
    rw [Nat.mul_comm (2 ^ (32 - n)) (2 ^ n), hp, Nat.mul_add] at h5
    omega
  rw [h1, Nat.or_comm, ← Nat.two_pow_add_eq_or_of_lt h2]
  unfold rot
  rw [Nat.add_mod, h1, Nat.mod_eq_of_lt (show x / 2 ^ n < 4294967296 from Nat.lt_of_le_of_lt (Nat.div_le_self _ _) hx), Nat.add_comm (x / 2 ^ n), Nat.mod_eq_of_lt h3]

theorem turn_any (x n : Nat) (hx : x < 4294967296) (hn1 : 1 ≤ n) (hn2 : n ≤ 31) (w : World) :
    Calls Try.prog 18 #[.int .u32 x, .int .u64 n] w fun e w' => e = .returned (.int .u32 (rot x n)) ∧ w = w' := by
  have h := u32_or_nat (x / 2 ^ n) (x * 2 ^ (32 - n) % 4294967296) (Nat.lt_of_le_of_lt (Nat.div_le_self _ _) hx) (Nat.mod_lt _ (by decide))
  rw [rot_or x n hx hn1 hn2] at h
  have h' : bits .or .u32 ((x : Int) / 2 ^ n) ((x : Int) * 2 ^ (32 - n) % 4294967296) = ((rot x n : Nat) : Int) := by
    rw [← h]; congr 1
  have H := Lib.hid h'
  clear h h'
  go_enter Try.func18, Try.ntmps18
  go_wp2
  go_ret
  exact ⟨congrArg (fun z => Ending.returned (.int .u32 z)) H.out, rfl⟩
theorem turnR_any (x n : Nat) (hx : x < 4294967296) (hn1 : 1 ≤ n) (hn2 : n ≤ 31) (w : World) :
    Calls Try.prog 16 #[.int .u64 x, .int .u64 n] w fun e w' => e = .returned (.int .u64 (rot x n)) ∧ w = w' := by
  have h0 : (2 : Nat) ^ (32 - n) ≤ 2147483648 := by
    have : (2 : Nat) ^ (32 - n) ≤ 2 ^ 31 := Nat.pow_le_pow_right (by decide) (by omega)
    simpa using this
  have h1 : x * 2 ^ (32 - n) ≤ 4294967295 * 2147483648 := Nat.mul_le_mul (by omega) h0
  have h2 : x / 2 ^ n ≤ x := Nat.div_le_self _ _
  have h' : (IntKind.u64.wrap ((x : Int) / 2 ^ n + IntKind.u64.wrap ((x : Int) * 2 ^ (32 - n)))).tmod 4294967296 = ((rot x n : Nat) : Int) := by
    have e1 : (x : Int) / 2 ^ n = ((x / 2 ^ n : Nat) : Int) := by simp
    have e2 : (x : Int) * 2 ^ (32 - n) = ((x * 2 ^ (32 - n) : Nat) : Int) := by simp
    rw [e1, e2]
    unfold rot
    generalize x / 2 ^ n = A at *
    generalize x * 2 ^ (32 - n) = B at *
    rw [IntWalk.u64_in (B : Int) (by omega), IntWalk.u64_in _ (by omega), Int.tmod_eq_emod_of_nonneg (by omega)]
    omega
  have H := Lib.hid h'
  clear h' h0 h1 h2
  go_enter Try.func16, Try.ntmps16
  go_wp2
  go_ret
  exact ⟨congrArg (fun z => Ending.returned (.int .u64 z)) H.out, rfl⟩
/-- The same, the steps spelled as a number of Go's. -/
theorem turn_i (x : Nat) (m : Int) (hx : x < 4294967296) (h1 : 1 ≤ m) (h2 : m ≤ 31) (w : World) :
    Calls Try.prog 18 #[.int .u32 x, .int .u64 m] w fun e w' => e = .returned (.int .u32 (rot x m.toNat)) ∧ w = w' := by
  obtain ⟨n, rfl⟩ := Int.eq_ofNat_of_zero_le (show 0 ≤ m by omega)
  exact turn_any x n hx (by omega) (by omega) w
theorem turnR_i (x : Nat) (m : Int) (hx : x < 4294967296) (h1 : 1 ≤ m) (h2 : m ≤ 31) (w : World) :
    Calls Try.prog 16 #[.int .u64 x, .int .u64 m] w fun e w' => e = .returned (.int .u64 (rot x m.toNat)) ∧ w = w' := by
  obtain ⟨n, rfl⟩ := Int.eq_ofNat_of_zero_le (show 0 ≤ m by omega)
  exact turnR_any x n hx (by omega) (by omega) w
theorem turn_q (x : Nat) (m : Int) (hx : x < 4294967296) (h1 : 1 ≤ m) (h2 : m ≤ 31) (w : World) :
    Calls Try.prog 18 #[.int .u32 x, .int .u64 m] w fun e w' => e = .returned (.int .u32 (rot x m.toNat)) ∧ w' = w := (turn_i x m hx h1 h2 w).mono fun _ _ h => ⟨h.1, h.2.symm⟩
theorem turnR_q (x : Nat) (m : Int) (hx : x < 4294967296) (h1 : 1 ≤ m) (h2 : m ≤ 31) (w : World) :
    Calls Try.prog 16 #[.int .u64 x, .int .u64 m] w fun e w' => e = .returned (.int .u64 (rot x m.toNat)) ∧ w' = w := (turnR_i x m hx h1 h2 w).mono fun _ _ h => ⟨h.1, h.2.symm⟩
/-- A call that leaves the world, in a second region of quiet calls. -/
theorem quiet_more {P : Program} {f : FuncId} {args : Array Value} {w : World} {a n : Nat} {v : Value} (h : Calls P f args (w.drewN (a + n)) fun e w' => e = .returned v ∧ w' = w.drewN (a + n)) :
    Calls P f args (w.drewN (a + n)) fun e w'' => e = .returned v ∧ ∃ m, w'' = w.drewN (a + m) := h.mono fun _ _ ⟨he, hm⟩ => ⟨he, n, hm⟩
end Go.Proofs.Ytiakkjdkbpbejaa
