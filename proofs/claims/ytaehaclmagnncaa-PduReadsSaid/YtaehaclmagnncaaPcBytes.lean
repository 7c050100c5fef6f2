/-
  CRC: the reference's sums, the sum's bytes.
-/
import Derived.Test.YtaehaclmagnncaaPcSum
namespace Go.Proofs.Ytaehaclmagnncaa
set_option linter.unusedVariables false
set_option linter.unusedSimpArgs false
set_option linter.unnecessarySimpa false
open Go.RowKit

theorem u32_xor_byte (x c : Nat) (hx : x < 4294967296) (hc : c < 256) : bits .xor .u32 (x : Int) (c : Int) = ((x ^^^ c : Nat) : Int) :=
  u32_xor_nat x c hx (by omega)

set_option maxHeartbeats 400000 in
theorem plain_any (a : Option Addr) (l : List Nat) (cap : Nat) (w : World) (hl : IsBytes w a l) (hm : l.length ≤ maxLen) :
    Calls Try.prog 30 #[.slice a l.length cap] w fun e w' => e = .returned (.int .u32 (sumPlain l)) ∧ w = w' := by
  unfold maxLen at hm
  go_enter Try.func30, Try.ntmps30
  go_wp2
  go_loop [3, 4] (fun x i => ∃ k : Nat, k ≤ l.length ∧ i = .int .i64 k ∧ x = .int .u32 (((l.take k).foldl stepPlain 4294967295 : Nat) : Int)) (fun _ i => l.length - (intOf i).toNat)
  case atStart => exact ⟨0, by omega, rfl, rfl⟩
  case round =>
    obtain ⟨k, hk, rfl, rfl⟩ := hrel
    have hx : (l.take k).foldl stepPlain 4294967295 < 4294967296 := foldPlain_lt _ (fun c hc => hl.1 c (List.mem_of_mem_take hc)) _ (by decide)
    by_cases hlt : k < l.length
    · have HS : Hid ((l.take (k + 1)).foldl stepPlain 4294967295 = stepPlain ((l.take k).foldl stepPlain 4294967295) (l.getD k 0)) := foldl_take_succ _ _ _ _ hlt
      obtain ⟨b, off, rfl, hcs⟩ := hl.2.resolve_left (by intro h; subst h; simp at hlt)
      have hc := hcs k hlt
      have hc256 : l.getD k 0 < 256 := hl.1 _ (by simp [List.getD, List.getElem?_eq_getElem hlt])
      generalize (l.take k).foldl stepPlain 4294967295 = x at *
      generalize l.getD k 0 = c at *
      have b2 := u32_xor_byte x c hx hc256
      have b3 : x ^^^ c < 4294967296 := Nat.xor_lt_two_pow (n := 32) hx (by omega)
      clear hcs
      go_wp2_with (go_at_call 31; refine (halve_any _ b3 8 (by omega) _).mono ?_; rintro e w' ⟨rfl, rfl⟩)
      go_round
      case rel => exact ⟨k + 1, by omega, by go_num, by rw [HS.out]; rfl⟩
      case measure => simp [intOf]; omega
    · obtain rfl : k = l.length := by omega
      go_wp2
      go_ret
      exact ⟨ret_int (by rw [List.take_length] at hx; unfold sumPlain runPlain; omega), rfl⟩

theorem u32_xor_mod (x c : Nat) : (((x ^^^ c : Nat) : Int) % 256) = (((x ^^^ c) % 256 : Nat) : Int) := rfl

/-- The four bytes of a number, the lowest first. -/
def four (x : Nat) : List Nat := [x % 256, x / 256 % 256, x / 65536 % 256, x / 16777216 % 256]
def fourV (x : Nat) : Array Value := #[.int .u8 ((x % 256 : Nat) : Int), .int .u8 ((x / 256 % 256 : Nat) : Int), .int .u8 ((x / 65536 % 256 : Nat) : Int), .int .u8 ((x / 16777216 % 256 : Nat) : Int)]

theorem bytes_any (x : Nat) (hx : x < 4294967296) (w : World) :
    Calls Try.prog 20 #[.int .u32 x] w fun e w' => e = .returned (.agg (fourV x)) ∧ w' = w.alloc (.cells (fourV x) 53) := by
  have hv : fourV x = #[.int .u8 ((x : Int) % 256), .int .u8 ((x : Int) / 256 % 256), .int .u8 ((x : Int) / 65536 % 256), .int .u8 ((x : Int) / 16777216)] := by
    unfold fourV
    rw [Nat.mod_eq_of_lt (show x / 16777216 < 256 by omega)]
    rfl
  rw [hv]
  clear hv
  go_enter Try.func20, Try.ntmps20
  go_wp2
  exact bodyPost_ret (v := .agg #[.int .u8 ((x : Int) % 256), .int .u8 ((x : Int) / 256 % 256), .int .u8 ((x : Int) / 65536 % 256), .int .u8 ((x : Int) / 16777216)]) (by simp [results, Try.results20, go_sem]) rfl ⟨rfl, rfl⟩

end Go.Proofs.Ytaehaclmagnncaa
