/-
  CRC: the walks of the sums.
-/
import Derived.Test.YtaehaclmagnncaaPcWalks
import Derived.Test.YtaehaclmagnncaaBytes
namespace Go.Proofs.Ytaehaclmagnncaa
set_option linter.unusedVariables false
set_option linter.unusedSimpArgs false
set_option linter.unnecessarySimpa false
open Go.RowKit

/-- Block b, from 0 on, is the table T. -/
def IsTab (w : World) (b : Nat) (T : Nat → Nat) : Prop :=
  ∀ i, i < 256 → T i < 4294967296 ∧ w.cell? ⟨b, i, none⟩ = some (.int .u32 (T i))

theorem u8_xor_lo (x c : Nat) (hc : c < 256) : bits .xor .u8 ((x : Int) % 256) (c : Int) = (((x ^^^ c) % 256 : Nat) : Int) := by
  have h := u8_xor_nat (x % 256) c (by omega) hc
  have h2 : (x ^^^ c) % 256 = (x % 256) ^^^ c := by
    have := Nat.xor_mod_two_pow (a := x) (b := c) (n := 8)
    simp only [show (2:Nat)^8 = 256 from rfl] at this
    rw [this, Nat.mod_eq_of_lt hc]
  rw [h2]
  exact h
theorem u32_xor_div (y x : Nat) (hy : y < 4294967296) (hx : x < 4294967296) : bits .xor .u32 (y : Int) ((x : Int) / 256) = ((y ^^^ x / 256 : Nat) : Int) := by
  have h := u32_xor_nat y (x / 256) hy (by omega)
  exact h
theorem u32_not (x : Nat) (hx : x < 4294967296) : bits .xor .u32 4294967295 (x : Int) = ((4294967295 - x : Nat) : Int) := by
  have h := u32_xor_nat 4294967295 x (by decide) hx
  have e : 4294967295 ^^^ x = 4294967295 - x := by
    have h1 : (4294967295 ^^^ x) = 2 ^ 32 - (x + 1) := by
      apply Nat.eq_of_testBit_eq
      intro i
      rw [Nat.testBit_two_pow_sub_succ hx, Nat.testBit_xor]
      have : (4294967295 : Nat).testBit i = decide (i < 32) := Nat.testBit_two_pow_sub_one 32 i
      rw [this]
      by_cases hi : i < 32
      · simp [hi]
      · simp [hi]
        exact Nat.testBit_lt_two_pow (Nat.lt_of_lt_of_le hx (Nat.pow_le_pow_right (n := 2) (by decide) (show 32 ≤ i by omega)))
    rw [h1]; simp only [show (2 : Nat) ^ 32 = 4294967296 from rfl]; omega
  rw [e] at h
  exact h

theorem foldl_take_succ {β : Type} (f : β → Nat → β) (x : β) (l : List Nat) (k : Nat) (h : k < l.length) : (l.take (k + 1)).foldl f x = f ((l.take k).foldl f x) (l.getD k 0) := by
  rw [List.take_succ_eq_append_getElem h, List.foldl_append]
  simp [List.getD, List.getElem?_eq_getElem h]

theorem ret_int {k : IntKind} {a b : Int} (h : a = b) : Ending.returned (.int k a) = .returned (.int k b) := by rw [h]

set_option maxHeartbeats 400000 in
theorem sum_tab (bt : Nat) (T : Nat → Nat) (a : Option Addr) (l : List Nat) (cap : Nat) (w : World) (ht : IsTab w bt T) (hl : IsBytes w a l) (hm : l.length ≤ maxLen) :
    Calls Try.prog 21 #[.pointer (some ⟨bt, 0, none⟩), .slice a l.length cap] w fun e w' => e = .returned (.int .u32 (sumBy T l)) ∧ w = w' := by
  unfold maxLen at hm
  go_enter Try.func21, Try.ntmps21
  go_wp2
  go_loop [5, 13] (fun x i => ∃ k : Nat, k ≤ l.length ∧ i = .int .i64 k ∧ x = .int .u32 (((l.take k).foldl (stepBy T) 4294967295 : Nat) : Int)) (fun _ i => l.length - (intOf i).toNat)
  case atStart => exact ⟨0, by omega, rfl, rfl⟩
  case round =>
    obtain ⟨k, hk, rfl, rfl⟩ := hrel
    have hx : (l.take k).foldl (stepBy T) 4294967295 < 4294967296 := foldBy_lt (fun i hi => (ht i hi).1) _ _ (by decide)
    by_cases hlt : k < l.length
    · have HS : Hid ((l.take (k + 1)).foldl (stepBy T) 4294967295 = stepBy T ((l.take k).foldl (stepBy T) 4294967295) (l.getD k 0)) := foldl_take_succ _ _ _ _ hlt
      obtain ⟨b, off, rfl, hcs⟩ := hl.2.resolve_left (by intro h; subst h; simp at hlt)
      have hc := hcs k hlt
      have hc256 : l.getD k 0 < 256 := hl.1 _ (by simp [List.getD, List.getElem?_eq_getElem hlt])
      generalize (l.take k).foldl (stepBy T) 4294967295 = x at *
      generalize l.getD k 0 = c at *
      have hti := ht ((x ^^^ c) % 256) (by omega)
      have ht1 := hti.1
      have ht2 := hti.2
      have b1 := u8_xor_lo x c hc256
      have b2 := u32_xor_div (T ((x ^^^ c) % 256)) x ht1 hx
      clear hti hcs
      go_wp2
      go_round
      case rel => exact ⟨k + 1, by omega, by go_num, by rw [HS.out]; rfl⟩
      case measure => simp [intOf]; omega
    · obtain rfl : k = l.length := by omega
      have b3 := u32_not _ hx
      go_wp2
      go_ret
      exact ⟨ret_int (by rw [List.take_length] at b3; exact b3), rfl⟩

theorem isTab_new (w : World) : IsTab (w.alloc (.cells (tabRow 256) 65)) w.heap.size tab := by
  intro i hi
  refine ⟨tab_lt i hi, ?_⟩
  rw [World.cell?_alloc_new, tabRow_get 256 i hi, if_pos hi]

set_option maxHeartbeats 400000 in
theorem sum_nil (a : Option Addr) (l : List Nat) (cap : Nat) (w0 : World) (hl0 : IsBytes w0 a l) (hm : l.length ≤ maxLen) :
    Calls Try.prog 21 #[.pointer none, .slice a l.length cap] w0 fun e w' => e = .returned (.int .u32 (sumPlain l)) ∧ w0.alloc (.cells (tabRow 256) 65) = w' := by
  unfold maxLen at hm
  have hsame := Lib.hid (sum_same l hl0.1)
  have hl := hl0.alloc (.cells (tabRow 256) 65)
  have ht := isTab_new w0
  clear hl0
  go_enter Try.func21, Try.ntmps21
  go_wp2_with (go_at_call 24; refine (table_any _).mono ?_; rintro e w' ⟨rfl, rfl⟩)
  generalize hw : w0.alloc (.cells (tabRow 256) 65) = w at *
  have HW := Lib.hid hw
  clear hw
  generalize w0.heap.size = bt at *
  go_loop [5, 13] (fun x i => ∃ k : Nat, k ≤ l.length ∧ i = .int .i64 k ∧ x = .int .u32 (((l.take k).foldl (stepBy tab) 4294967295 : Nat) : Int)) (fun _ i => l.length - (intOf i).toNat)
  case atStart => exact ⟨0, by omega, rfl, rfl⟩
  case round =>
    obtain ⟨k, hk, rfl, rfl⟩ := hrel
    have hx : (l.take k).foldl (stepBy tab) 4294967295 < 4294967296 := foldBy_lt (fun i hi => (ht i hi).1) _ _ (by decide)
    by_cases hlt : k < l.length
    · have HS : Hid ((l.take (k + 1)).foldl (stepBy tab) 4294967295 = stepBy tab ((l.take k).foldl (stepBy tab) 4294967295) (l.getD k 0)) := foldl_take_succ _ _ _ _ hlt
      obtain ⟨b, off, rfl, hcs⟩ := hl.2.resolve_left (by intro h; subst h; simp at hlt)
      have hc := hcs k hlt
      have hc256 : l.getD k 0 < 256 := hl.1 _ (by simp [List.getD, List.getElem?_eq_getElem hlt])
      generalize (l.take k).foldl (stepBy tab) 4294967295 = x at *
      generalize l.getD k 0 = c at *
      have hti := ht ((x ^^^ c) % 256) (by omega)
      have ht1 := hti.1
      have ht2 := hti.2
      have b1 := u8_xor_lo x c hc256
      have b2 := u32_xor_div (tab ((x ^^^ c) % 256)) x ht1 hx
      clear hti hcs
      go_wp2
      go_round
      case rel => exact ⟨k + 1, by omega, by go_num, by rw [HS.out]; rfl⟩
      case measure => simp [intOf]; omega
    · obtain rfl : k = l.length := by omega
      have b3 := u32_not _ hx
      go_wp2
      go_ret
      exact ⟨ret_int (by rw [← hsame.out]; rw [List.take_length] at b3; exact b3), HW.out⟩

end Go.Proofs.Ytaehaclmagnncaa
