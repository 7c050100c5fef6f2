/-
  cdb: num.
-/
import Derived.Test.YtpcgnffkhkdkhaaRows
import Derived.Test.YtpcgnffkhkdkhaaCommon
import Derived.Test.YtpcgnffkhkdkhaaBlk
import Derived.WalkKit
import Derived.WalkLawsBesides
import Derived.Lib.Hide
import Derived.Lib.EndianBits
namespace Go.Proofs.Ytpcgnffkhkdkhaa
set_option linter.unusedVariables false
set_option linter.unusedSimpArgs false
open Go.RowKit

def numOf (l : List Nat) : Nat := l.foldl (fun x c => x * 256 + c) 0
theorem numOf_take (l : List Nat) (k : Nat) (h : k < l.length) : numOf (l.take (k + 1)) = numOf (l.take k) * 256 + l.getD k 0 := by
  unfold numOf
  rw [List.take_succ_eq_append_getElem h, List.foldl_append]
  simp [List.getD, List.getElem?_eq_getElem h]
theorem numOf_lt (l : List Nat) (hl : ∀ c ∈ l, c < 256) : ∀ k, k ≤ l.length → numOf (l.take k) < 256 ^ k
  | 0, _ => by simp [numOf]
  | k + 1, h => by
    have h1 := numOf_lt l hl k (by omega)
    have h2 : l.getD k 0 < 256 := hl _ (by simp [List.getD, List.getElem?_eq_getElem (show k < l.length by omega)])
    rw [numOf_take l k (by omega), Nat.pow_succ]
    omega

theorem shl_or (x c : Nat) (hx : x < 256 ^ 7) (hc : c < 256) : bits .or .u64 (IntKind.u64.wrap ((x : Int) * 256)) (c : Int) = ((x * 256 + c : Nat) : Int) := by
  have e : (256 : Nat) ^ 7 = 72057594037927936 := by decide
  rw [e] at hx
  rw [IntKind.wrap_u64, Int.emod_eq_of_lt (by omega) (by omega)]
  have := bits_join .u64 64 (by decide) wraps_u64 8 ((x : Int) * 256) (c : Int) (by omega) (by omega) (by omega) (by omega) (by omega) (by omega)
  rw [this]
  omega

set_option maxHeartbeats 400000 in
theorem num_any (a : Option Addr) (l : List Nat) (cap : Nat) (w : World) (hl : IsBytes w a l) (hm : l.length ≤ 8) :
    Calls Try.prog 11 #[.slice a l.length cap] w fun e w' => e = .returned (.int .u64 (numOf l : Nat)) ∧ w = w' := by
  go_enter Try.func11, Try.ntmps11
  go_wp2
  go_loop [3, 5, 8] (fun x _ i => ∃ k : Nat, k ≤ l.length ∧ i = .int .i64 k ∧ x = .int .u64 (numOf (l.take k) : Nat)) (fun _ _ i => l.length - (intOf i).toNat)
  case atStart => exact ⟨0, by omega, rfl, rfl⟩
  case round =>
    obtain ⟨k, hk, rfl, rfl⟩ := hrel
    by_cases hlt : k < l.length
    · obtain ⟨b, off, rfl, hc⟩ := hl.2.resolve_left (by rintro rfl; simp at hlt)
      have hck := hc k hlt
      have hl2 : l.getD k 0 < 256 := hl.1 _ (by simp [List.getD, List.getElem?_eq_getElem hlt])
      have hst := numOf_take l k hlt
      have hlt2 := numOf_lt l hl.1 k (by omega)
      generalize l.getD k 0 = c at *
      generalize numOf (l.take k) = x at *
      clear hl hc
      go_wp2
      have hp : 256 ^ k ≤ 256 ^ 7 := Nat.pow_le_pow_right (by decide) (by omega)
      exact ⟨⟨k + 1, by omega, rfl, by rw [hst, shl_or x c (by omega) hl2]⟩, by simp [intOf]; omega⟩
    · obtain rfl : k = l.length := by omega
      go_wp2
      go_ret
      exact ⟨rfl, rfl⟩
end Go.Proofs.Ytpcgnffkhkdkhaa
