/-
  pdu: the reference's small functions: four, sum, num, fits.
-/
import Derived.Test.YtaehaclmagnncaaPduRows
import Derived.Test.YtaehaclmagnncaaStr
import Derived.Deep.RegionHeld3
namespace Go.Proofs.Ytaehaclmagnncaa
set_option linter.unusedVariables false
set_option linter.unusedSimpArgs false
open Go.RowKit
attribute [local go_sem ↓] Go.wp_at_zero Go.wp_at_succ

/-- A new slice of four bytes. -/
def Four (w : World) (l : List Nat) (e : Ending) (w' : World) : Prop := e = .returned (.slice (some ⟨w.heap.size, 0, none⟩) 4 4) ∧ IsBytes w' (some ⟨w.heap.size, 0, none⟩) l ∧ Below w.heap.size w w' ∧ w.heap.size < w'.heap.size
theorem be4_lt (x : Nat) : ∀ c ∈ be4 x, c < 256 := by
  simp only [be4, List.mem_cons, List.not_mem_nil, or_false, forall_eq_or_imp, forall_eq]; omega
theorem four_any (x : Nat) (hx : x < 4294967296) (w : World) : Calls Try.prog 22 #[.int .u32 x] w (Four w (be4 x)) := by
  have K := Lib.hid (isBytes_row (IsBlk.new w (nv .u8 (be4 x)) 5) (be4_lt x))
  have hv : nv .u8 (be4 x) = #[.int .u8 ((x : Int) / 16777216), .int .u8 ((x : Int) / 65536 % 256), .int .u8 ((x : Int) / 256 % 256), .int .u8 ((x : Int) % 256)] := by
    unfold be4
    rw [Nat.mod_eq_of_lt (show x / 16777216 < 256 by omega)]
    rfl
  rw [hv] at K
  clear hv
  go_enter Try.func22, Try.ntmps22
  go_wp2
  go_ret
  exact ⟨rfl, K.out, (Below.refl _ _).alloc (Nat.le_refl _) _, by simp⟩
theorem sumd_lt (l : List Nat) : ∀ c ∈ sumd l, c < 256 := by
  simp only [sumd, four, List.mem_cons, List.not_mem_nil, or_false, forall_eq_or_imp, forall_eq]; omega
theorem sumR_any {a : Option Addr} (l : List Nat) (n cap : Nat) (w : World) (hn : l.length = n) (hl : IsBytes w a l) (hm : n ≤ 2 ^ 63 - 1) :
    Calls Try.prog 23 #[.slice a n cap] w (Four w (sumd l)) := by
  subst hn
  have K := Lib.hid (isBytes_row (IsBlk.new w (nv .u8 (sumd l)) 5) (sumd_lt l))
  have hP := Lib.hid (plain_any a l cap w hl (by unfold maxLen; omega))
  have hxs := sumPlain_lt l
  obtain ⟨x, hx⟩ : ∃ x, x = sumPlain l := ⟨_, rfl⟩
  rw [← hx] at hP hxs
  have hv : nv .u8 (sumd l) = #[.int .u8 ((x : Int) % 256), .int .u8 ((x : Int) / 256 % 256), .int .u8 ((x : Int) / 65536 % 256), .int .u8 ((x : Int) / 16777216)] := by
    unfold sumd
    rw [← hx]
    unfold four
    rw [Nat.mod_eq_of_lt (show x / 16777216 < 256 by omega)]
    rfl
  rw [hv] at K
  clear hv hx hl
  go_enter Try.func23, Try.ntmps23
  go_wp2_with fail
  refine hP.out.mono ?_
  rintro e w' ⟨rfl, rfl⟩
  go_wp2_with fail
  go_ret
  exact ⟨rfl, K.out, (Below.refl _ _).alloc (Nat.le_refl _) _, by simp⟩

theorem numB_take (l : List Nat) (k : Nat) (h : k < l.length) : numB (l.take (k + 1)) = numB (l.take k) * 256 + l.getD k 0 := by
  unfold numB
  rw [List.take_succ_eq_append_getElem h, List.foldl_append]
  simp [List.getD, List.getElem?_eq_getElem h]
theorem numB_lt (l : List Nat) (hl : ∀ c ∈ l, c < 256) : ∀ k, k ≤ l.length → numB (l.take k) < 256 ^ k
  | 0, _ => by simp [numB]
  | k + 1, h => by
    have h1 := numB_lt l hl k (by omega)
    have h2 : l.getD k 0 < 256 := hl _ (by simp [List.getD, List.getElem?_eq_getElem (show k < l.length by omega)])
    rw [numB_take l k (by omega), Nat.pow_succ]
    omega
set_option maxHeartbeats 400000 in
theorem num_any (a : Option Addr) (l : List Nat) (n cap : Nat) (w : World) (hn : l.length = n) (hl : IsBytes w a l) (hm : n ≤ 8) :
    Calls Try.prog 27 #[.slice a n cap] w fun e w' => e = .returned (.int .u64 (numB l : Nat)) ∧ w = w' := by
  subst hn
  go_enter Try.func27, Try.ntmps27
  go_wp2
  go_loop [3, 4] (fun x i => ∃ k : Nat, k ≤ l.length ∧ i = .int .i64 k ∧ x = .int .u64 (numB (l.take k) : Nat)) (fun _ i => l.length - (intOf i).toNat)
  case atStart => exact ⟨0, by omega, rfl, rfl⟩
  case round =>
    obtain ⟨k, hk, rfl, rfl⟩ := hrel
    by_cases hlt : k < l.length
    · obtain ⟨b, off, rfl, hc⟩ := hl.2.resolve_left (by rintro rfl; simp at hlt)
      have hck := hc k hlt
      have hl2 : l.getD k 0 < 256 := hl.1 _ (by simp [List.getD, List.getElem?_eq_getElem hlt])
      have hst := Lib.hid (numB_take l k hlt)
      have hlt2 := numB_lt l hl.1 k (by omega)
      have hp : 256 ^ k ≤ 256 ^ 7 := Nat.pow_le_pow_right (by decide) (by omega)
      have hlt3 : numB (l.take k) < 72057594037927936 := Nat.lt_of_lt_of_le hlt2 hp
      generalize l.getD k 0 = c at *
      generalize numB (l.take k) = x at *
      clear hl hc hlt2 hp
      go_wp2
      go_round
      case rel => exact ⟨k + 1, by omega, by go_num, by rw [hst.out]; rfl⟩
      case measure => simp [intOf]; omega
    · obtain rfl : k = l.length := by omega
      go_wp2
      go_ret
      exact ⟨rfl, rfl⟩
end Go.Proofs.Ytaehaclmagnncaa
