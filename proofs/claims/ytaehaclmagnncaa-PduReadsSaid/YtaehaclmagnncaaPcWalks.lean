/-
  CRC: the walks of the reference and of the program's own table.
-/
import Derived.Test.YtaehaclmagnncaaProg
import Derived.Test.YtaehaclmagnncaaPcPlain
import Derived.WalkKit
import Derived.WalkLawsBesides
import Derived.Lib.Hide
import Derived.Laws.BitsAllLaws
namespace Go.Proofs.Ytaehaclmagnncaa
set_option linter.unusedVariables false
set_option linter.unusedSimpArgs false
set_option linter.unnecessarySimpa false
open Go.RowKit

theorem u32_xor_c (x : Nat) (hx : x < 4294967296) : bits .xor .u32 ((x : Int) / 2) 2197175160 = ((x / 2 ^^^ 2197175160 : Nat) : Int) := by
  have := u32_xor_nat (x / 2) 2197175160 (by omega) (by decide)
  simpa using this
theorem u32_and_1 (x : Nat) (hx : x < 4294967296) : bits .and .u32 (x : Int) 1 = ((x % 2 : Nat) : Int) := by
  have := u32_and_nat x 1 hx (by decide)
  rw [nat_mask1] at this
  simpa using this
theorem halve_odd {y : Nat} (h : y % 2 = 1) : halve y = y / 2 ^^^ 2197175160 := if_pos h
theorem halve_not {y : Nat} (h : ¬ y % 2 = 1) : halve y = y / 2 := if_neg h

set_option maxHeartbeats 400000 in
theorem halve_any (x : Nat) (hx : x < 4294967296) (n : Nat) (hn : n ≤ 1000) (w : World) :
    Calls Try.prog 31 #[.int .u32 x, .int .i64 n] w fun e w' => e = .returned (.int .u32 (halves x n)) ∧ w = w' := by
  go_enter Try.func31, Try.ntmps31
  go_wp2
  go_loop [0, 5] (fun a i => ∃ k : Nat, k ≤ n ∧ i = .int .i64 k ∧ a = .int .u32 (halves x k)) (fun _ i => n - (intOf i).toNat)
  case atStart => exact ⟨0, by omega, rfl, rfl⟩
  case round =>
    obtain ⟨k, hk, rfl, rfl⟩ := hrel
    have hl : halves x k < 4294967296 := halves_lt hx k
    by_cases hlt : k < n
    · have HS : Hid (halves x (k + 1) = halve (halves x k)) := rfl
      generalize halves x k = y at *
      have hb := u32_xor_c y hl
      by_cases ho : y % 2 = 1
      · have ho' : (((y : Int) % 2) == 1) = true := by simp; omega
        go_wp2
        go_round
        case rel => exact ⟨k + 1, by omega, by go_num, by rw [HS.out, halve_odd ho]⟩
        case measure => simp [intOf]; omega
      · have ho' : (((y : Int) % 2) == 1) = false := by simp; omega
        go_wp2
        go_round
        case rel => exact ⟨k + 1, by omega, by go_num, by rw [HS.out, halve_not ho]; rfl⟩
        case measure => simp [intOf]; omega
    · obtain rfl : k = n := by omega
      go_wp2
      go_ret
      exact ⟨rfl, rfl⟩

theorem madeCells_get (v : Value) (n i : Nat) (h : i < n) : (Array.replicate n v)[i]? = some v := by simp [h]

/-- Of a table's block the first k entries are laid. -/
def tabRow (k : Nat) : Array Value := ((List.range 256).map fun i => Value.int .u32 (if i < k then (tab i : Int) else 0)).toArray

theorem tabRow_size (k : Nat) : (tabRow k).size = 256 := by simp [tabRow]
theorem tabRow_get (k i : Nat) (h : i < 256) : (tabRow k)[i]? = some (.int .u32 (if i < k then (tab i : Int) else 0)) := by
  simp [tabRow, h]
theorem tabRow_set (k : Nat) : (tabRow k).setIfInBounds k (.int .u32 (tab k : Int)) = tabRow (k + 1) := by
  apply Array.ext
  · simp [tabRow]
  · intro i h1 h2'
    have h2 : i < 256 := by simpa only [tabRow_size] using h2'
    have e1 : (tabRow (k + 1))[i]? = _ := tabRow_get (k + 1) i h2
    rw [Array.getElem?_eq_getElem (by simpa [tabRow_size] using h2)] at e1
    have e2 : (tabRow k)[i]? = _ := tabRow_get k i h2
    rw [Array.getElem?_eq_getElem (by simpa [tabRow_size] using h2)] at e2
    injection e1 with e1
    injection e2 with e2
    rw [Array.getElem_setIfInBounds, e1]
    split
    · rename_i hk; subst hk; simp
    · rw [e2]
      by_cases hi : i < k
      · simp [hi, show i < k + 1 by omega]
      · simp [hi, show ¬ i < k + 1 by omega]
    · simpa [tabRow_size] using h2

theorem zero_tab (w : World) : (zeroValue 65).run Try.prog w = .ok (.agg (tabRow 0)) w := by kernel_rfl

theorem shr1 (x : Nat) : ((x : Int) / 2) = ((x / 2 : Nat) : Int) := rfl

set_option maxHeartbeats 400000 in
set_option maxRecDepth 100000 in
theorem table_any (w : World) :
    Calls Try.prog 24 #[] w fun e w' => e = .returned (.pointer (some ⟨w.heap.size, 0, none⟩)) ∧ w' = w.alloc (.cells (tabRow 256) 65) := by
  have hz := zero_tab
  go_enter Try.func24, Try.ntmps24
  go_wp2
  go_loopw [4] (fun i wr => ∃ k : Nat, k ≤ 256 ∧ i = .int .i64 k ∧ wr = w.alloc (.cells (tabRow k) 65)) (fun i _ => 256 - (intOf i).toNat)
  case atStart => exact ⟨0, by omega, rfl, rfl⟩
  case round =>
    obtain ⟨k, hk, rfl, rfl⟩ := hrel
    by_cases hlt : k < 256
    · obtain ⟨wo, hwo⟩ : ∃ wo : World, wo = w.alloc (.cells (tabRow k) 65) := ⟨_, rfl⟩
      go_wp2
      go_loop [3, 9] (fun a j => ∃ m : Nat, m ≤ 8 ∧ j = .int .i64 m ∧ a = .int .u32 (halves k m)) (fun _ j => 8 - (intOf j).toNat)
      case atStart => exact ⟨0, by omega, rfl, rfl⟩
      case round =>
        obtain ⟨m, hm, rfl, rfl⟩ := hrel
        have hl : halves k m < 4294967296 := halves_lt (by omega) m
        by_cases hml : m < 8
        · have HS : Hid (halves k (m + 1) = halve (halves k m)) := rfl
          generalize halves k m = y at *
          have hb := u32_xor_c y hl
          have hb2 := u32_and_1 y hl
          by_cases ho : y % 2 = 1
          · have ho' : (((y % 2 : Nat) : Int) == 1) = true := by simp; omega
            go_wp2
            go_round
            case rel => exact ⟨m + 1, by omega, by go_num, by rw [HS.out, halve_odd ho]⟩
            case measure => simp [intOf]; omega
          · have ho' : (((y % 2 : Nat) : Int) == 1) = false := by simp; omega
            go_wp2
            go_round
            case rel => exact ⟨m + 1, by omega, by go_num, by rw [HS.out, halve_not ho]; rfl⟩
            case measure => simp [intOf]; omega
        · obtain rfl : m = 8 := by omega
          have hg : (tabRow k)[k]? = some (.int .u32 0) := by rw [tabRow_get k k (by omega)]; simp
          have hs : (tabRow k).setIfInBounds k (.int .u32 ((halves k 8 : Nat) : Int)) = tabRow (k + 1) := tabRow_set k
          go_wp2
          go_roundw
          case rel => exact ⟨k + 1, by omega, by go_num, rfl⟩
          case measure => simp [intOf]; omega
    · obtain rfl : k = 256 := by omega
      go_wp2
      go_ret
      exact ⟨rfl, rfl⟩

end Go.Proofs.Ytaehaclmagnncaa
