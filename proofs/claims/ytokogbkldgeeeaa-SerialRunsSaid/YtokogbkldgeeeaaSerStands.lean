/-
  serial: the anchor.
-/
import Derived.Test.YtokogbkldgeeeaaSerWin3
namespace Go.Proofs.Ytokogbkldgeeeaa
set_option linter.unusedVariables false
set_option linter.unusedSimpArgs false
open Go.RowKit

theorem But2.step {w0 w w' : World} {b c : Nat} (h : But2 w w' b c) (hB : Below w0.heap.size w0 w) (hb : w0.heap.size ≤ b) (hc : w0.heap.size ≤ c) : Below w0.heap.size w0 w' :=
  hB.trans (h.below hB.size hb hc)
theorem Below.drewN' {w0 w : World} {B : Nat} (hB : Below B w0 w) (n : Nat) : Below B w0 (w.drewN n) := hB.trans ⟨rfl, rfl, rfl, Nat.le_refl _, fun _ _ => rfl⟩

section
variable {w : World} {wb mb : Nat} {nx rm : Int} {S : Int → Bool}
theorem come_is (h : IsWin w wb mb nx rm S) (x : Int) (v : Bool) (hx0 : 0 ≤ x) (hx1 : x < 4294967296) (hc : comeB nx rm S x = v) :
    Calls Try.prog 13 #[.pointer (some ⟨wb, 0, none⟩), .int .u32 x] w fun e w' => e = .returned (.bool v) ∧ IsWin w' wb mb nx rm (bif v then addS S x else S) ∧ But2 w w' wb mb := by
  cases v with
  | true => exact come_yes h x hx0 hx1 hc
  | false => exact (come_no h x hx0 hx1 hc).mono fun e w' ⟨he, n, hw⟩ => ⟨he, by subst hw; exact ⟨h.drewN n, But2.drewN w n wb mb⟩⟩
theorem turn_is (h : IsWin w wb mb nx rm S) (v : Bool) (hc : S nx = v) :
    Calls Try.prog 14 #[.pointer (some ⟨wb, 0, none⟩)] w fun e w' => e = .returned (.bool v) ∧ IsWin w' wb mb (bif v then (nx + 1) % 4294967296 else nx) rm (bif v then delS S nx else S) ∧ But2 w w' wb mb := by
  cases v with
  | true => exact turn_yes h hc
  | false => exact (turn_no h hc).mono fun e w' ⟨he, n, hw⟩ => ⟨he, by subst hw; exact ⟨h.drewN n, But2.drewN w n wb mb⟩⟩
theorem last_is (h : IsWin w wb mb nx rm S) (v : Int) (hc : (nx + rm - 1) % 4294967296 = v) :
    Calls Try.prog 16 #[.pointer (some ⟨wb, 0, none⟩)] w fun e w' => e = .returned (.int .u32 v) ∧ IsWin w' wb mb nx rm S ∧ But2 w w' wb mb :=
  (last_any h).mono fun e w' ⟨he, n, hw⟩ => ⟨by rw [he, hc], by subst hw; exact ⟨h.drewN n, But2.drewN w n wb mb⟩⟩
end
theorem less_is (a b : Int) (v : Bool) (w : World) (ha : 0 ≤ a ∧ a < 4294967296) (hb : 0 ≤ b ∧ b < 4294967296) (hc : lessB a b = v) :
    Calls Try.prog 9 #[.int .u32 a, .int .u32 b] w fun e w' => e = .returned (.bool v) ∧ w = w' :=
  (less_any a b w ha hb).mono fun e w' ⟨he, hw⟩ => ⟨by rw [he, hc], hw⟩

set_option maxHeartbeats 4000000 in
set_option maxRecDepth 100000 in
theorem stands_any (w : World) : Calls Try.prog 8 #[] w fun e w' => e = .returned (.bool true) ∧ Below w.heap.size w w' := by
  have hsz1 : w.heap.size ≤ w.heap.size + 1 := Nat.le_succ _
  have hsz0 : w.heap.size ≤ w.heap.size := Nat.le_refl _
  go_enter Try.func8, Try.ntmps8
  go_wp2_with fail
  refine (new_any 4294967295 2 _ (by omega) (by omega)).mono ?_
  rintro e w1 ⟨rfl, hw, hB, hsz⟩
  have hw1 : IsWin w1 (w.heap.size + 1) w.heap.size 4294967295 2 (fun _ => false) := hw
  clear hw hsz
  generalize hwb : w.heap.size + 1 = wb at *
  have HWB := Lib.hid hwb
  clear hwb
  go_wp2_with fail
  refine (come_is hw1 0 true (by omega) (by omega) (by decide)).mono ?_
  rintro e w2 ⟨rfl, hw2, hb2⟩
  have hB2 := hb2.step hB hsz1 hsz0
  go_wp2_with fail
  refine (come_is hw2 1 false (by omega) (by omega) (by decide)).mono ?_
  rintro e w3 ⟨rfl, hw3, hb3⟩
  have hB3 := hb3.step hB2 hsz1 hsz0
  go_wp2_with fail
  refine (come_is hw3 0 false (by omega) (by omega) (by decide)).mono ?_
  rintro e w4 ⟨rfl, hw4, hb4⟩
  have hB4 := hb4.step hB3 hsz1 hsz0
  go_wp2_with fail
  refine (turn_is hw4 false (by decide)).mono ?_
  rintro e w5 ⟨rfl, hw5, hb5⟩
  have hB5 := hb5.step hB4 hsz1 hsz0
  go_wp2_with fail
  refine (come_is hw5 4294967295 true (by decide) (by decide) (by decide)).mono ?_
  rintro e w6 ⟨rfl, hw6, hb6⟩
  have hB6 := hb6.step hB5 hsz1 hsz0
  go_wp2_with fail
  refine (turn_is hw6 true (by decide)).mono ?_
  rintro e w7 ⟨rfl, hw7, hb7⟩
  have hB7 := hb7.step hB6 hsz1 hsz0
  go_wp2_with fail
  refine (turn_is hw7 true (by decide)).mono ?_
  rintro e w8 ⟨rfl, hw8, hb8⟩
  have hB8 := hb8.step hB7 hsz1 hsz0
  go_wp2_with fail
  refine (turn_is hw8 false (by decide)).mono ?_
  rintro e w9 ⟨rfl, hw9, hb9⟩
  have hB9 := hb9.step hB8 hsz1 hsz0
  have hc0 : w9.cell? ⟨wb, 0, none⟩ = some (.int .u32 1) := hw9.c0
  go_wp2_with fail
  refine (last_is hw9 2 (by decide)).mono ?_
  rintro e w10 ⟨rfl, hw10, hb10⟩
  have hB10 := hb10.step hB9 hsz1 hsz0
  go_wp2_with fail
  refine (less_is 4294967295 0 true _ (by decide) (by decide) (by decide)).mono ?_
  rintro e w11 ⟨rfl, rfl⟩
  go_wp2
  go_ret
  exact ⟨rfl, hB10⟩

end Go.Proofs.Ytokogbkldgeeeaa
