/-
  sha: the digest, in plain numbers.
  sha: turn, of both.
  sha: the round words, of both.
  sha: block, of the program.
  sha: rows of uint64 that a call owns; append of one number.
  sha: a hash in memory; Write.
  sha: New; Sum of a hash.
  sha: a hash, told by the bytes that were written to it; Sum of bytes; a hash that is none.
-/
import Derived.KernelRfl
import Derived.Test.YtkabkehfckbhcaaDoorProg
import Derived.WalkKit
import Derived.WalkLawsBesides
import Derived.Lib.Hide
import Derived.Laws.BitsAllLaws
import Derived.IntWalk
import Derived.Deep.QuietTactic
import Derived.BigQuiet
import Derived.Test.YtkabkehfckbhcaaDoorMgA
import Derived.Laws.Rows
import Derived.StillTailTactics
import Derived.Lib.EndianBits
import Derived.Deep.RegionHeld3
import Derived.Deep.DrawnRows
import Derived.Deep.LoopGhost
import Derived.Deep.MidRow
namespace Go.Proofs.YtkabkehfckbhcaaDoor
set_option linter.unusedVariables false
set_option linter.unusedSimpArgs false

def m32 : Nat := 4294967296
/-- To the right, around. -/
def rot (x n : Nat) : Nat := (x / 2 ^ n + x * 2 ^ (32 - n)) % 4294967296
def sg0 (x : Nat) : Nat := rot x 7 ^^^ rot x 18 ^^^ (x / 8)
def sg1 (x : Nat) : Nat := rot x 17 ^^^ rot x 19 ^^^ (x / 1024)
def S0 (x : Nat) : Nat := rot x 2 ^^^ rot x 13 ^^^ rot x 22
def S1 (x : Nat) : Nat := rot x 6 ^^^ rot x 11 ^^^ rot x 25
def ch (e f g : Nat) : Nat := (e &&& f) ^^^ ((4294967295 - e) &&& g)
def mj (a b c : Nat) : Nat := (a &&& b) ^^^ (a &&& c) ^^^ (b &&& c)

def kw : List Nat := [
    0x428a2f98, 0x71374491, 0xb5c0fbcf, 0xe9b5dba5, 0x3956c25b, 0x59f111f1, 0x923f82a4, 0xab1c5ed5,
    0xd807aa98, 0x12835b01, 0x243185be, 0x550c7dc3, 0x72be5d74, 0x80deb1fe, 0x9bdc06a7, 0xc19bf174,
    0xe49b69c1, 0xefbe4786, 0x0fc19dc6, 0x240ca1cc, 0x2de92c6f, 0x4a7484aa, 0x5cb0a9dc, 0x76f988da,
    0x983e5152, 0xa831c66d, 0xb00327c8, 0xbf597fc7, 0xc6e00bf3, 0xd5a79147, 0x06ca6351, 0x14292967,
    0x27b70a85, 0x2e1b2138, 0x4d2c6dfc, 0x53380d13, 0x650a7354, 0x766a0abb, 0x81c2c92e, 0x92722c85,
    0xa2bfe8a1, 0xa81a664b, 0xc24b8b70, 0xc76c51a3, 0xd192e819, 0xd6990624, 0xf40e3585, 0x106aa070,
    0x19a4c116, 0x1e376c08, 0x2748774c, 0x34b0bcb5, 0x391c0cb3, 0x4ed8aa4a, 0x5b9cca4f, 0x682e6ff3,
    0x748f82ee, 0x78a5636f, 0x84c87814, 0x8cc70208, 0x90befffa, 0xa4506ceb, 0xbef9a3f7, 0xc67178f2]
def h8 : List Nat := [0x6a09e667, 0xbb67ae85, 0x3c6ef372, 0xa54ff53a, 0x510e527f, 0x9b05688c, 0x1f83d9ab, 0x5be0cd19]

/-- The i-th word of four bytes. -/
def word (p : List Nat) (i : Nat) : Nat := p.getD (4 * i) 0 * 16777216 + p.getD (4 * i + 1) 0 * 65536 + p.getD (4 * i + 2) 0 * 256 + p.getD (4 * i + 3) 0
/-- The first 16 + k words of a block's schedule. -/
def ws (p : List Nat) : Nat → List Nat
  | 0 => (List.range 16).map (word p)
  | k + 1 => ws p k ++ [((ws p k).getD k 0 + sg0 ((ws p k).getD (k + 1) 0) + (ws p k).getD (k + 9) 0 + sg1 ((ws p k).getD (k + 14) 0)) % 4294967296]

/-- The eight numbers under way. -/
structure St where
  a : Nat
  b : Nat
  c : Nat
  d : Nat
  e : Nat
  f : Nat
  g : Nat
  l : Nat
def tOf (s : St) (k w : Nat) : Nat := (s.l + S1 s.e + ch s.e s.f s.g + k + w) % 4294967296
def uOf (s : St) : Nat := (S0 s.a + mj s.a s.b s.c) % 4294967296
def step (s : St) (k w : Nat) : St := ⟨(tOf s k w + uOf s) % 4294967296, s.a, s.b, s.c, (s.d + tOf s k w) % 4294967296, s.e, s.f, s.g⟩
def toSt (h : List Nat) : St := ⟨h.getD 0 0, h.getD 1 0, h.getD 2 0, h.getD 3 0, h.getD 4 0, h.getD 5 0, h.getD 6 0, h.getD 7 0⟩
def ofSt (s : St) : List Nat := [s.a, s.b, s.c, s.d, s.e, s.f, s.g, s.l]
/-- The state behind i rounds over the words w. -/
def rounds (w : List Nat) (s : St) : Nat → St
  | 0 => s
  | i + 1 => step (rounds w s i) (kw.getD i 0) (w.getD i 0)
def addTo (h v : List Nat) : List Nat := (List.range 8).map fun i => (h.getD i 0 + v.getD i 0) % 4294967296
/-- A block of 64 bytes taken in. -/
def comp (h p : List Nat) : List Nat := addTo h (ofSt (rounds (ws p 48) (toSt h) 64))

/-- All whole blocks taken in; what is left. -/
def feed (h l : List Nat) : List Nat × List Nat :=
  if hl : 64 ≤ l.length then feed (comp h (l.take 64)) (l.drop 64) else (h, l)
termination_by l.length
decreasing_by simp; omega
theorem feed_short (h l : List Nat) (hl : l.length < 64) : feed h l = (h, l) := by
  rw [feed]; simp; omega
theorem feed_long (h l : List Nat) (hl : 64 ≤ l.length) : feed h l = feed (comp h (l.take 64)) (l.drop 64) := by
  rw [feed]; simp [hl]
theorem feed_rest (h l : List Nat) : (feed h l).2.length < 64 := by
  induction hn : l.length using Nat.strongRecOn generalizing h l with
  | _ n ih =>
    by_cases hl : 64 ≤ l.length
    · rw [feed_long h l hl]
      exact ih (l.drop 64).length (by simp; omega) _ _ rfl
    · rw [feed_short h l (by omega)]; simp; omega
theorem feed_append (h l m : List Nat) : feed h (l ++ m) = feed (feed h l).1 ((feed h l).2 ++ m) := by
  induction hn : l.length using Nat.strongRecOn generalizing h l with
  | _ n ih =>
    by_cases hl : 64 ≤ l.length
    · rw [feed_long h (l ++ m) (by simp; omega), feed_long h l hl, List.take_append_of_le_length hl, List.drop_append_of_le_length hl]
      exact ih (l.drop 64).length (by simp; omega) _ _ rfl
    · rw [feed_short h l (by omega)]

/-- How many zeros follow the first padding byte. -/
def zeros (n : Nat) : Nat := (119 - n % 64) % 64
def be8 (n : Nat) : List Nat := (List.range 8).map fun i => n / 2 ^ (56 - 8 * i) % 256
def pad (n : Nat) : List Nat := 128 :: List.replicate (zeros n) 0 ++ be8 (n * 8 % 18446744073709551616)
def outOf (h : List Nat) : List Nat := (List.range 32).map fun i => h.getD (i / 4) 0 / 2 ^ (24 - 8 * (i % 4)) % 256
def digest (l : List Nat) : List Nat := outOf (feed h8 (l ++ pad l.length)).1

theorem zeros_ok (n : Nat) : (n + 1 + zeros n) % 64 = 56 := by unfold zeros; omega
theorem pad_len (n : Nat) : (n + (pad n).length) % 64 = 0 := by
  have := zeros_ok n
  simp [pad, be8]; omega
theorem comp_abc : (feed h8 ([97, 98, 99] ++ pad 3)).1 = comp h8 ([97, 98, 99] ++ pad 3) := by
  have hl : ([97, 98, 99] ++ pad 3).length = 64 := by decide
  generalize [97, 98, 99] ++ pad 3 = l at *
  rw [feed_long _ _ (by omega), feed_short _ _ (by simp; omega), List.take_of_length_le (by omega)]
theorem abc_known : (outOf (comp h8 ([97, 98, 99] ++ pad 3))).getD 0 0 = 186 ∧ (outOf (comp h8 ([97, 98, 99] ++ pad 3))).getD 1 0 = 120 ∧ (outOf (comp h8 ([97, 98, 99] ++ pad 3))).getD 31 0 = 173 := ⟨by kernel_rfl, by kernel_rfl, by kernel_rfl⟩
theorem digest_abc : (digest [97, 98, 99]).getD 0 0 = 186 ∧ (digest [97, 98, 99]).getD 1 0 = 120 ∧ (digest [97, 98, 99]).getD 31 0 = 173 := by
  have e : digest [97, 98, 99] = outOf (comp h8 ([97, 98, 99] ++ pad 3)) := by
    unfold digest
    exact congrArg outOf comp_abc
  rw [e]
  exact abc_known
theorem digest_length (l : List Nat) : (digest l).length = 32 := by simp [digest, outOf]

theorem rot_lt (x n : Nat) : rot x n < 4294967296 := Nat.mod_lt _ (by decide)
theorem xor_lt {a b : Nat} (ha : a < 4294967296) (hb : b < 4294967296) : a ^^^ b < 4294967296 := Nat.xor_lt_two_pow (n := 32) ha hb
theorem and_lt {a b : Nat} (hb : b < 4294967296) : a &&& b < 4294967296 := Nat.and_lt_two_pow (n := 32) a hb
theorem sg0_lt {x : Nat} (hx : x < 4294967296) : sg0 x < 4294967296 := xor_lt (xor_lt (rot_lt _ _) (rot_lt _ _)) (by omega)
theorem sg1_lt {x : Nat} (hx : x < 4294967296) : sg1 x < 4294967296 := xor_lt (xor_lt (rot_lt _ _) (rot_lt _ _)) (by omega)
theorem S0_lt (x : Nat) : S0 x < 4294967296 := xor_lt (xor_lt (rot_lt _ _) (rot_lt _ _)) (rot_lt _ _)
theorem S1_lt (x : Nat) : S1 x < 4294967296 := xor_lt (xor_lt (rot_lt _ _) (rot_lt _ _)) (rot_lt _ _)
theorem ch_lt {e f g : Nat} (hf : f < 4294967296) (hg : g < 4294967296) : ch e f g < 4294967296 := xor_lt (and_lt hf) (and_lt hg)
theorem mj_lt {a b c : Nat} (hb : b < 4294967296) (hc : c < 4294967296) : mj a b c < 4294967296 := xor_lt (xor_lt (and_lt hb) (and_lt hc)) (and_lt hc)
theorem ws_length (p : List Nat) : ∀ k, (ws p k).length = 16 + k
  | 0 => by simp [ws]
  | k + 1 => by have := ws_length p k; simp [ws]; omega
/-- A word once laid stays. -/
theorem ws_get (p : List Nat) (i : Nat) : ∀ k m, k ≤ m → i < 16 + k → (ws p m).getD i 0 = (ws p k).getD i 0 := by
  intro k m
  induction m with
  | zero => intro hk hi; obtain rfl : k = 0 := by omega
            rfl
  | succ m ih =>
    intro hk hi
    by_cases he : k = m + 1
    · subst he; rfl
    · rw [← ih (by omega) hi]
      simp only [ws, List.getD]
      rw [List.getElem?_append_left (by rw [ws_length]; omega)]
end Go.Proofs.YtkabkehfckbhcaaDoor

namespace Go.Proofs.YtkabkehfckbhcaaDoor
set_option linter.unusedVariables false
set_option linter.unusedSimpArgs false
open Go.RowKit

theorem rot_or (x n : Nat) (hx : x < 4294967296) (hn1 : 1 ≤ n) (hn2 : n ≤ 31) : x / 2 ^ n ||| x * 2 ^ (32 - n) % 4294967296 = rot x n := by
  have hp : 2 ^ n * 2 ^ (32 - n) = 4294967296 := by rw [← Nat.pow_add, show n + (32 - n) = 32 by omega]
  have h1 : x * 2 ^ (32 - n) % 4294967296 = 2 ^ (32 - n) * (x % 2 ^ n) := by
    rw [← hp, Nat.mul_comm x, Nat.mul_comm (2 ^ n), Nat.mul_mod_mul_left]
  have h2 : x / 2 ^ n < 2 ^ (32 - n) := by
    rw [Nat.div_lt_iff_lt_mul (Nat.pow_pos (by decide)), Nat.mul_comm, hp]; exact hx
  have h3 : 2 ^ (32 - n) * (x % 2 ^ n) + x / 2 ^ n < 4294967296 := by
    have h4 : x % 2 ^ n + 1 ≤ 2 ^ n := Nat.mod_lt _ (Nat.pow_pos (by decide))
    have h5 := Nat.mul_le_mul_left (2 ^ (32 - n)) h4
    rw [Nat.mul_comm (2 ^ (32 - n)) (2 ^ n), hp, Nat.mul_add] at h5
    omega
  rw [h1, Nat.or_comm, ← Nat.two_pow_add_eq_or_of_lt h2]
  unfold rot
  rw [Nat.add_mod, h1, Nat.mod_eq_of_lt (show x / 2 ^ n < 4294967296 from Nat.lt_of_le_of_lt (Nat.div_le_self _ _) hx), Nat.add_comm (x / 2 ^ n), Nat.mod_eq_of_lt h3]

theorem turn_any (x n : Nat) (hx : x < 4294967296) (hn1 : 1 ≤ n) (hn2 : n ≤ 31) (w : World) :
    Calls Tryd.prog 62 #[.int .u32 x, .int .u64 n] w fun e w' => e = .returned (.int .u32 (rot x n)) ∧ w = w' := by
  have h := u32_or_nat (x / 2 ^ n) (x * 2 ^ (32 - n) % 4294967296) (Nat.lt_of_le_of_lt (Nat.div_le_self _ _) hx) (Nat.mod_lt _ (by decide))
  rw [rot_or x n hx hn1 hn2] at h
  have h' : bits .or .u32 ((x : Int) / 2 ^ n) ((x : Int) * 2 ^ (32 - n) % 4294967296) = ((rot x n : Nat) : Int) := by
    rw [← h]; congr 1
  have H := Lib.hid h'
  clear h h'
  go_enter Tryd.func62, Tryd.ntmps62
  go_wp2
  go_ret
  exact ⟨congrArg (fun z => Ending.returned (.int .u32 z)) H.out, rfl⟩
theorem turnR_any (x n : Nat) (hx : x < 4294967296) (hn1 : 1 ≤ n) (hn2 : n ≤ 31) (w : World) :
    Calls Tryd.prog 57 #[.int .u64 x, .int .u64 n] w fun e w' => e = .returned (.int .u64 (rot x n)) ∧ w = w' := by
  have h0 : (2 : Nat) ^ (32 - n) ≤ 2147483648 := by
    have : (2 : Nat) ^ (32 - n) ≤ 2 ^ 31 := Nat.pow_le_pow_right (by decide) (by omega)
    simpa using this
  have h1 : x * 2 ^ (32 - n) ≤ 4294967295 * 2147483648 := Nat.mul_le_mul (by omega) h0
  have h2 : x / 2 ^ n ≤ x := Nat.div_le_self _ _
  have h' : (IntKind.u64.wrap ((x : Int) / 2 ^ n + IntKind.u64.wrap ((x : Int) * 2 ^ (32 - n)))).tmod 4294967296 = ((rot x n : Nat) : Int) := by
    have e1 : (x : Int) / 2 ^ n = ((x / 2 ^ n : Nat) : Int) := by simp
    have e2 : (x : Int) * 2 ^ (32 - n) = ((x * 2 ^ (32 - n) : Nat) : Int) := by simp
    rw [e1, e2]
    unfold rot
    generalize x / 2 ^ n = A at *
    generalize x * 2 ^ (32 - n) = B at *
    rw [IntWalk.u64_in (B : Int) (by omega), IntWalk.u64_in _ (by omega), Int.tmod_eq_emod_of_nonneg (by omega)]
    omega
  have H := Lib.hid h'
  clear h' h0 h1 h2
  go_enter Tryd.func57, Tryd.ntmps57
  go_wp2
  go_ret
  exact ⟨congrArg (fun z => Ending.returned (.int .u64 z)) H.out, rfl⟩
/-- The same, the steps spelled as a number of Go's. -/
theorem turn_i (x : Nat) (m : Int) (hx : x < 4294967296) (h1 : 1 ≤ m) (h2 : m ≤ 31) (w : World) :
    Calls Tryd.prog 62 #[.int .u32 x, .int .u64 m] w fun e w' => e = .returned (.int .u32 (rot x m.toNat)) ∧ w = w' := by
  obtain ⟨n, rfl⟩ := Int.eq_ofNat_of_zero_le (show 0 ≤ m by omega)
  exact turn_any x n hx (by omega) (by omega) w
theorem turnR_i (x : Nat) (m : Int) (hx : x < 4294967296) (h1 : 1 ≤ m) (h2 : m ≤ 31) (w : World) :
    Calls Tryd.prog 57 #[.int .u64 x, .int .u64 m] w fun e w' => e = .returned (.int .u64 (rot x m.toNat)) ∧ w = w' := by
  obtain ⟨n, rfl⟩ := Int.eq_ofNat_of_zero_le (show 0 ≤ m by omega)
  exact turnR_any x n hx (by omega) (by omega) w
theorem turn_q (x : Nat) (m : Int) (hx : x < 4294967296) (h1 : 1 ≤ m) (h2 : m ≤ 31) (w : World) :
    Calls Tryd.prog 62 #[.int .u32 x, .int .u64 m] w fun e w' => e = .returned (.int .u32 (rot x m.toNat)) ∧ w' = w := (turn_i x m hx h1 h2 w).mono fun _ _ h => ⟨h.1, h.2.symm⟩
theorem turnR_q (x : Nat) (m : Int) (hx : x < 4294967296) (h1 : 1 ≤ m) (h2 : m ≤ 31) (w : World) :
    Calls Tryd.prog 57 #[.int .u64 x, .int .u64 m] w fun e w' => e = .returned (.int .u64 (rot x m.toNat)) ∧ w' = w := (turnR_i x m hx h1 h2 w).mono fun _ _ h => ⟨h.1, h.2.symm⟩
/-- A call that leaves the world, in a second region of quiet calls. -/
theorem quiet_more {P : Program} {f : FuncId} {args : Array Value} {w : World} {a n : Nat} {v : Value} (h : Calls P f args (w.drewN (a + n)) fun e w' => e = .returned v ∧ w' = w.drewN (a + n)) :
    Calls P f args (w.drewN (a + n)) fun e w'' => e = .returned v ∧ ∃ m, w'' = w.drewN (a + m) := h.mono fun _ _ ⟨he, hm⟩ => ⟨he, n, hm⟩
end Go.Proofs.YtkabkehfckbhcaaDoor

namespace Go.Proofs.YtkabkehfckbhcaaDoor
set_option linter.unusedVariables false
set_option linter.unusedSimpArgs false
open Go.RowKit

theorem kw_length : kw.length = 64 := by kernel_rfl
theorem zero_64 (w : World) : (zeroValue 151).run Tryd.prog w = .ok (.agg (nv .u32 (List.replicate 64 0))) w := by kernel_rfl

set_option maxRecDepth 100000 in
set_option maxHeartbeats 4000000 in
theorem words_any (w : World) : Calls Tryd.prog 63 #[] w fun e w' => e = .returned (.agg (nv .u32 kw)) ∧ Below w.heap.size w w' := by
  have hz := zero_64
  go_enter Tryd.func63, Tryd.ntmps63
  go_wp2_with (first
    | (refine wpList_store_row (by rfl) 151 (.tmp 0) (.tmp 1) (by rfl) w.heap.size (nv .u32 kw) (by rfl) (by rfl) 151 (nv .u32 (List.replicate 64 0)) (heap_alloc_new w _) (by kernel_rfl) (by rw [nv_size, nv_size, kw_length]; rfl) (nv_one _ _) ?_))
  refine bodyPost_ret (v := .agg (nv .u32 kw)) (results_cell_row Tryd.results63 _ _ w.heap.size 151 (nv .u32 kw) (0, 0) (.array 64 92) (by rfl) ?_ (by kernel_rfl) rfl (by kernel_rfl)) rfl ⟨rfl, ?_⟩
  · exact isBlk_setRow (IsBlk.new w _ _) _
  · exact below_setRow ((Below.refl _ _).alloc (Nat.le_refl _) _) _ (Nat.le_refl _) _
set_option maxRecDepth 100000 in
set_option maxHeartbeats 1000000 in
theorem roots_any (w : World) : Calls Tryd.prog 58 #[] w fun e w' => e = .returned (.slice (some ⟨w.heap.size, 0, none⟩) 64 64) ∧ ∃ t, w' = w.alloc (.cells (nv .u64 kw) t) := by
  go_enter Tryd.func58, Tryd.ntmps58
  go_wp2
  go_ret
  exact ⟨rfl, _, rfl⟩
end Go.Proofs.YtkabkehfckbhcaaDoor

namespace Go.Proofs.YtkabkehfckbhcaaDoor
set_option linter.unusedVariables false
set_option linter.unusedSimpArgs false
open Go.RowKit

/-- The i-th word of a block's schedule. -/
def wd (p : List Nat) (i : Nat) : Nat := (ws p 48).getD i 0
theorem ws0 (p : List Nat) (i : Nat) (h : i < 16) : (ws p 0).getD i 0 = word p i := by
  simp [ws, List.getD, h]
theorem wd_of (p : List Nat) (i k : Nat) (hk : k ≤ 48) (h : i < 16 + k) : wd p i = (ws p k).getD i 0 := ws_get p i k 48 hk h
theorem wd_lo (p : List Nat) (i : Nat) (h : i < 16) : wd p i = word p i := (wd_of p i 0 (by omega) (by omega)).trans (ws0 p i h)
theorem getD_last (l : List Nat) (x j : Nat) (h : j = l.length) : (l ++ [x]).getD j 0 = x := by
  subst h
  simp [List.getD]
theorem ws_new (p : List Nat) (k : Nat) : (ws p (k + 1)).getD (k + 16) 0 = ((ws p k).getD k 0 + sg0 ((ws p k).getD (k + 1) 0) + (ws p k).getD (k + 9) 0 + sg1 ((ws p k).getD (k + 14) 0)) % 4294967296 :=
  getD_last (ws p k) _ (k + 16) (by rw [ws_length]; omega)
theorem wd_hi (p : List Nat) (k : Nat) (h : k < 48) : wd p (k + 16) = (wd p k + sg0 (wd p (k + 1)) + wd p (k + 9) + sg1 (wd p (k + 14))) % 4294967296 := by
  rw [wd_of p (k + 16) (k + 1) (by omega) (by omega), ws_new, ← wd_of p k k (by omega) (by omega), ← wd_of p (k + 1) k (by omega) (by omega), ← wd_of p (k + 9) k (by omega) (by omega), ← wd_of p (k + 14) k (by omega) (by omega)]
theorem word_lt (p : List Nat) (h : ∀ c ∈ p, c < 256) (i : Nat) (hi : 4 * i + 3 < p.length) : word p i < 4294967296 := by
  have g : ∀ j, j < p.length → p.getD j 0 < 256 := fun j hj => h _ (by simp [List.getD, List.getElem?_eq_getElem hj])
  have h0 := g (4 * i) (by omega)
  have h1 := g (4 * i + 1) (by omega)
  have h2 := g (4 * i + 2) (by omega)
  have h3 := g (4 * i + 3) (by omega)
  unfold word
  omega
theorem wd_lt (p : List Nat) (h : ∀ c ∈ p, c < 256) (hl : p.length = 64) (i : Nat) (hi : i < 64) : wd p i < 4294967296 := by
  by_cases h16 : i < 16
  · rw [wd_lo p i h16]; exact word_lt p h i (by omega)
  · obtain ⟨k, rfl⟩ : ∃ k, i = k + 16 := ⟨i - 16, by omega⟩
    rw [wd_hi p k (by omega)]; omega
/-- The schedule's array, k words laid. -/
def wrow (p : List Nat) (k : Nat) : List Nat := (List.range 64).map fun i => if i < k then wd p i else 0
theorem wrow_length (p : List Nat) (k : Nat) : (wrow p k).length = 64 := by simp [wrow]
theorem wrow_get (p : List Nat) (k i : Nat) (h : i < 64) : (wrow p k).getD i 0 = if i < k then wd p i else 0 := by simp [wrow, List.getD, h]
theorem wrow_zero (p : List Nat) : List.replicate 64 0 = wrow p 0 := by
  have e : ∀ n : Nat, List.replicate n 0 = (List.range n).map fun i => if i < 0 then wd p i else 0 := by
    intro n
    apply List.ext_getElem?; intro i
    by_cases h : i < n <;> simp [List.getElem?_replicate, h]
  exact e 64
theorem zero_64w (p : List Nat) (w : World) : (zeroValue 151).run Tryd.prog w = .ok (.agg (nv .u32 (wrow p 0))) w := by
  rw [← wrow_zero]; exact zero_64 w
theorem wrow_set (p : List Nat) (k : Nat) (h : k < 64) : (wrow p k).set k (wd p k) = wrow p (k + 1) := by
  apply List.ext_getElem?; intro i
  rw [List.getElem?_set]
  by_cases hi : i < 64
  · by_cases he : k = i
    · subst he; simp [wrow, hi]
    · rw [if_neg he]
      simp [wrow, hi]
      have : (i < k + 1) ↔ (i < k) := by omega
      simp [this]
  · rw [List.getElem?_eq_none (by rw [wrow_length]; omega), if_neg (by omega), List.getElem?_eq_none (by rw [wrow_length]; omega)]
theorem wrow_cell (p : List Nat) (k i : Nat) (h : i < k) (hk : k ≤ 64) : (nv .u32 (wrow p k))[i]? = some (.int .u32 (wd p i : Nat)) := by
  rw [nv_get _ _ _ (by rw [wrow_length]; omega), wrow_get _ _ _ (by omega), if_pos h]

/-- A hash's cells. -/
def hashC (h : List Nat) (v : Value) (n : Nat) : Array Value := (nv .u32 h).push v |>.push (.int .u64 (n : Int))

theorem or4 (c0 c1 c2 c3 : Nat) (h0 : c0 < 256) (h1 : c1 < 256) (h2 : c2 < 256) (h3 : c3 < 256) :
    bits .or .u32 (bits .or .u32 (bits .or .u32 (c0 * 16777216) (c1 * 65536)) (c2 * 256)) c3 = ((c0 * 16777216 + c1 * 65536 + c2 * 256 + c3 : Nat) : Int) := by
  rw [bits_join .u32 32 (by decide) wraps_u32 24 (c0 * 16777216 : Int) (c1 * 65536 : Int) (by omega) (by omega) (by omega) (by omega) (by omega) (by omega),
    bits_join .u32 32 (by decide) wraps_u32 16 _ (c2 * 256 : Int) (by omega) (by omega) (by omega) (by omega) (by omega) (by omega),
    bits_join .u32 32 (by decide) wraps_u32 8 _ (c3 : Int) (by omega) (by omega) (by omega) (by omega) (by omega) (by omega)]
  omega

theorem or4w (c0 c1 c2 c3 : Nat) (h0 : c0 < 256) (h1 : c1 < 256) (h2 : c2 < 256) (h3 : c3 < 256) :
    bits .or .u32 (bits .or .u32 (bits .or .u32 (IntKind.u32.wrap (IntKind.u32.wrap c0 * 16777216)) (IntKind.u32.wrap (IntKind.u32.wrap c1 * 65536))) (IntKind.u32.wrap (IntKind.u32.wrap c2 * 256))) (IntKind.u32.wrap c3) = ((c0 * 16777216 + c1 * 65536 + c2 * 256 + c3 : Nat) : Int) := by
  have e : ∀ n : Int, 0 ≤ n → n < 4294967296 → IntKind.u32.wrap n = n := fun n a b => by rw [IntKind.wrap_u32]; omega
  rw [e c0 (by omega) (by omega), e c1 (by omega) (by omega), e c2 (by omega) (by omega), e c3 (by omega) (by omega), e (c0 * 16777216) (by omega) (by omega), e (c1 * 65536) (by omega) (by omega), e (c2 * 256) (by omega) (by omega)]
  exact or4 c0 c1 c2 c3 h0 h1 h2 h3

theorem cell_set_far {w : World} {b g i j : Nat} {v : Value} (h : b ≠ g) : (w.setCell ⟨g, i, none⟩ v).cell? ⟨b, j, none⟩ = w.cell? ⟨b, j, none⟩ :=
  World.cell?_of_block (w := w) (Below.heap_setCell w ⟨g, i, none⟩ v b h)
theorem cell_set_far' {w : World} {b g i j : Nat} {v : Value} (h : b ≠ g) : (w.setCell ⟨g, i, none⟩ v).drew.cell? ⟨b, j, none⟩ = w.cell? ⟨b, j, none⟩ :=
  World.cell?_of_block (w := w) (Below.heap_setCell w ⟨g, i, none⟩ v b h)

theorem cell_set_off {w : World} {g i j : Nat} {v : Value} (h : i ≠ j) : (w.setCell ⟨g, i, none⟩ v).drew.cell? ⟨g, j, none⟩ = w.cell? ⟨g, j, none⟩ :=
  World.cell?_setCell_other w _ _ v (by simp [h])
theorem xor_u32 (a b : Nat) (ha : a < 4294967296) (hb : b < 4294967296) : bits .xor .u32 (a : Int) (b : Int) = ((a ^^^ b : Nat) : Int) := u32_xor_nat a b ha hb
theorem sg0_v (x : Nat) (hx : x < 4294967296) : bits .xor .u32 (bits .xor .u32 (rot x 7 : Nat) (rot x 18 : Nat)) ((x : Int) / 8) = ((sg0 x : Nat) : Int) := by
  rw [xor_u32 _ _ (rot_lt _ _) (rot_lt _ _)]
  exact xor_u32 _ (x / 8) (xor_lt (rot_lt _ _) (rot_lt _ _)) (by omega)
theorem sg1_v (x : Nat) (hx : x < 4294967296) : bits .xor .u32 (bits .xor .u32 (rot x 17 : Nat) (rot x 19 : Nat)) ((x : Int) / 1024) = ((sg1 x : Nat) : Int) := by
  rw [xor_u32 _ _ (rot_lt _ _) (rot_lt _ _)]
  exact xor_u32 _ (x / 1024) (xor_lt (rot_lt _ _) (rot_lt _ _)) (by omega)
theorem wrap_u32n (a : Nat) : IntKind.u32.wrap (a : Int) = ((a % 4294967296 : Nat) : Int) := by rw [IntKind.wrap_u32]; omega
theorem sum4_v (a b c d : Nat) : IntKind.u32.wrap (IntKind.u32.wrap (IntKind.u32.wrap ((a : Int) + b) + c) + d) = (((a + b + c + d) % 4294967296 : Nat) : Int) := by
  rw [IntKind.wrap_u32, IntKind.wrap_u32, IntKind.wrap_u32]; omega

/-- The state behind k rounds over a block. -/
def rst (p h : List Nat) (k : Nat) : St := rounds (ws p 48) (toSt h) k
theorem rst_zero (p h : List Nat) : rst p h 0 = toSt h := rfl
theorem rst_succ (p h : List Nat) (k : Nat) : rst p h (k + 1) = step (rst p h k) (kw.getD k 0) (wd p k) := rfl
/-- Each number of a state is one of 32 bits. -/
structure StOk (s : St) : Prop where
  a : s.a < 4294967296
  b : s.b < 4294967296
  c : s.c < 4294967296
  d : s.d < 4294967296
  e : s.e < 4294967296
  f : s.f < 4294967296
  g : s.g < 4294967296
  l : s.l < 4294967296
theorem shaStep_ok {s : St} (h : StOk s) (k w : Nat) : StOk (step s k w) := by
  obtain ⟨h1, h2, h3, h4, h5, h6, h7, h8⟩ := h
  exact ⟨Nat.mod_lt _ (by decide), h1, h2, h3, Nat.mod_lt _ (by decide), h5, h6, h7⟩
theorem rst_ok (p h : List Nat) (hh : ∀ i, h.getD i 0 < 4294967296) : ∀ k, StOk (rst p h k)
  | 0 => ⟨hh 0, hh 1, hh 2, hh 3, hh 4, hh 5, hh 6, hh 7⟩
  | k + 1 => by rw [rst_succ]; exact shaStep_ok (rst_ok p h hh k) _ _
theorem kw_lt (i : Nat) : kw.getD i 0 < 4294967296 := by
  have h : ∀ c ∈ kw, c < 4294967296 := by decide
  by_cases hi : i < kw.length
  · exact h _ (by simp [List.getD, List.getElem?_eq_getElem hi])
  · simp [List.getD, List.getElem?_eq_none (show kw.length ≤ i by omega)]
theorem comp_rst (h p : List Nat) : comp h p = addTo h (ofSt (rst p h 64)) := rfl
theorem and_u32 (a b : Nat) (ha : a < 4294967296) (hb : b < 4294967296) : bits .and .u32 (a : Int) (b : Int) = ((a &&& b : Nat) : Int) := u32_and_nat a b ha hb
theorem S1_v (x : Nat) : bits .xor .u32 (bits .xor .u32 (rot x 6 : Nat) (rot x 11 : Nat)) (rot x 25 : Nat) = ((S1 x : Nat) : Int) := by
  rw [xor_u32 _ _ (rot_lt _ _) (rot_lt _ _)]
  exact xor_u32 _ _ (xor_lt (rot_lt _ _) (rot_lt _ _)) (rot_lt _ _)
theorem S0_v (x : Nat) : bits .xor .u32 (bits .xor .u32 (rot x 2 : Nat) (rot x 13 : Nat)) (rot x 22 : Nat) = ((S0 x : Nat) : Int) := by
  rw [xor_u32 _ _ (rot_lt _ _) (rot_lt _ _)]
  exact xor_u32 _ _ (xor_lt (rot_lt _ _) (rot_lt _ _)) (rot_lt _ _)
theorem mj_v (a b c : Nat) (ha : a < 4294967296) (hb : b < 4294967296) (hc : c < 4294967296) : bits .xor .u32 (bits .xor .u32 (bits .and .u32 (a : Int) (b : Int)) (bits .and .u32 (a : Int) (c : Int))) (bits .and .u32 (b : Int) (c : Int)) = ((mj a b c : Nat) : Int) := by
  rw [and_u32 _ _ ha hb, and_u32 _ _ ha hc, and_u32 _ _ hb hc, xor_u32 _ _ (and_lt hb) (and_lt hc)]
  exact xor_u32 _ _ (xor_lt (and_lt hb) (and_lt hc)) (and_lt hc)

theorem not_v (e : Nat) (he : e < 4294967296) : bits .xor .u32 IntKind.u32.max (e : Int) = ((4294967295 - e : Nat) : Int) := by
  have h := u32_xor_nat 4294967295 e (by decide) he
  have h2 : 4294967295 ^^^ e = 4294967295 - e := by
    apply Nat.eq_of_testBit_eq
    intro i
    have e1 := Nat.testBit_two_pow_sub_one 32 i
    have e2 := Nat.testBit_two_pow_sub_succ (n := 32) (x := e) (by simpa using he) i
    have e3 : 2 ^ 32 - (e + 1) = 4294967295 - e := by omega
    rw [e3] at e2
    rw [Nat.testBit_xor, e2]
    have e4 : (4294967295 : Nat).testBit i = decide (i < 32) := e1
    rw [e4]
    by_cases hi : i < 32
    · simp [hi]
    · have : e.testBit i = false := Nat.testBit_lt_two_pow (Nat.lt_of_lt_of_le he (by rw [show 4294967296 = 2 ^ 32 from rfl]; exact Nat.pow_le_pow_right (by decide) (by omega)))
      simp [hi, this]
  rw [h2] at h
  exact h
theorem ch_v (e f g : Nat) (he : e < 4294967296) (hf : f < 4294967296) (hg : g < 4294967296) :
    bits .xor .u32 (bits .and .u32 (e : Int) (f : Int)) (bits .and .u32 (bits .xor .u32 IntKind.u32.max (e : Int)) (g : Int)) = ((ch e f g : Nat) : Int) := by
  rw [not_v e he, and_u32 _ _ he hf, and_u32 _ _ (by omega) hg]
  exact xor_u32 _ _ (and_lt hf) (and_lt hg)
theorem mod5_v (a b c d e : Nat) : ((a : Int) + b + c + d + e) % 4294967296 = (((a + b + c + d + e) % 4294967296 : Nat) : Int) := by omega
theorem mod2_v (a b : Nat) : ((a : Int) + b) % 4294967296 = (((a + b) % 4294967296 : Nat) : Int) := by omega

theorem list8 (h : List Nat) (hh : h.length = 8) : ∃ h0 h1 h2 h3 h4 h5 h6 h7, h = [h0, h1, h2, h3, h4, h5, h6, h7] := by
  match h, hh with
  | [h0, h1, h2, h3, h4, h5, h6, h7], _ => exact ⟨h0, h1, h2, h3, h4, h5, h6, h7, rfl⟩
/-- copy within the row of a state: seven of the eight a step on. -/
theorem step_rot {ops : Array Oper} {o : Oper} {a : Act} {w : World} {K : Act → World → Prop} {Q : Exit → Act → World → Prop} {E : Prop} (hgd : o.guard = none) (d s : Operand)
    (ho : o.op = .call { callee := .builtin .copy, args := #[d, s], argTypes := #[154, 154] }) (vb : Nat)
    (hd : a.eval d = .slice (some ⟨vb, 1, none⟩) 7 7) (hs : a.eval s = .slice (some ⟨vb, 0, none⟩) 7 8) (x0 x1 x2 x3 x4 x5 x6 x7 : Nat) (hg : IsBlk w vb (nv .u32 [x0, x1, x2, x3, x4, x5, x6, x7]) 133)
    (h : ∀ w', IsBlk w' vb (nv .u32 [x0, x0, x1, x2, x3, x4, x5, x6]) 133 → But (fun k => k = vb) w w' → K (a.put o.dst (.int .i64 7)) w') : if Region.wanted o (yielded ops a.tmps) = true then Oper.wp Tryd.prog o a w K Q else E := by
  rw [if_pos (by simp [Region.wanted, hgd])]
  have hrun := run_copy_row (P := Tryd.prog) w 154 154 o.type 92 vb 1 7 7 ⟨vb, 0, none⟩ 7 8 (nv .u32 [x0, x1, x2, x3, x4, x5, x6, x7]) 133 [.int .u32 x0, .int .u32 x1, .int .u32 x2, .int .u32 x3, .int .u32 x4, .int .u32 x5, .int .u32 x6]
    (by kernel_rfl) (by kernel_rfl) hg rfl (fun j v hj => by
      have hj7 : j < 7 := (List.getElem?_eq_some_iff.1 hj).1
      rw [Go.WideShapes.add_plain]
      refine hg.cell (0 + j) ?_
      rw [← hj]
      match j, hj7 with
      | 0, _ => rfl
      | 1, _ => rfl
      | 2, _ => rfl
      | 3, _ => rfl
      | 4, _ => rfl
      | 5, _ => rfl
      | 6, _ => rfl) (by simp [nv]) (by simp [Value.oneCell'])
  have hnew : ((nv .u32 [x0, x1, x2, x3, x4, x5, x6, x7]).toList.take 1 ++ [Value.int .u32 x0, .int .u32 x1, .int .u32 x2, .int .u32 x3, .int .u32 x4, .int .u32 x5, .int .u32 x6] ++ (nv .u32 [x0, x1, x2, x3, x4, x5, x6, x7]).toList.drop (1 + 7)).toArray = nv .u32 [x0, x0, x1, x2, x3, x4, x5, x6] := rfl
  simp only [List.length_cons, List.length_nil] at hrun
  rw [hnew] at hrun
  unfold Oper.wp
  simp [execOp, ho, resolve, invoke, builtin, hd, hs, hrun, Result.andThen]
  refine h _ (isBlk_setRow hg _) ⟨rfl, rfl, rfl, by simp [World.setRow], fun k hk hn => ?_⟩
  simp only [World.setRow, Array.getElem?_modify]
  rw [if_neg (fun e => hn e.symm)]

theorem hashC_get (l : List Nat) (v : Value) (n j : Nat) (h : j < l.length) : (hashC l v n)[j]? = some (.int .u32 ((l.getD j 0 : Nat) : Int)) := by
  unfold hashC
  rw [Array.getElem?_push, if_neg (by simp [nv_size]; omega), Array.getElem?_push, if_neg (by simp [nv_size]; omega)]
  exact nv_get .u32 l j h
theorem hashC_set (l : List Nat) (v : Value) (n j x : Nat) (h : j < l.length) : (hashC l v n).setIfInBounds j (.int .u32 (x : Int)) = hashC (l.set j x) v n := by
  unfold hashC
  rw [← nv_set]
  apply Array.ext'
  simp only [Array.toList_setIfInBounds, Array.toList_push]
  rw [List.set_append_left _ _ (by simp [nv]; omega), List.set_append_left _ _ (by simp [nv]; omega)]
/-- The sums, j of the eight laid. -/
def addRow (h V : List Nat) (j : Nat) : List Nat := (List.range 8).map fun i => if i < j then (h.getD i 0 + V.getD i 0) % 4294967296 else h.getD i 0
theorem addRow_length (h V : List Nat) (j : Nat) : (addRow h V j).length = 8 := by simp [addRow]
theorem addRow_get (h V : List Nat) (j i : Nat) (hi : i < 8) : (addRow h V j).getD i 0 = if i < j then (h.getD i 0 + V.getD i 0) % 4294967296 else h.getD i 0 := by simp [addRow, List.getD, hi]
theorem addRow_zero (h V : List Nat) (hh : h.length = 8) : addRow h V 0 = h := by
  apply List.ext_getElem?; intro i
  by_cases hi : i < 8
  · simp [addRow, hi, List.getD, List.getElem?_eq_getElem (show i < h.length by omega)]
  · rw [List.getElem?_eq_none (by rw [addRow_length]; omega), List.getElem?_eq_none (by omega)]
theorem addRow_end (h V : List Nat) : addRow h V 8 = addTo h V := by
  unfold addRow addTo
  apply List.map_congr_left
  intro i hi
  rw [if_pos (by simpa using hi)]
theorem addRow_set (h V : List Nat) (j : Nat) (hj : j < 8) : (addRow h V j).set j ((h.getD j 0 + V.getD j 0) % 4294967296) = addRow h V (j + 1) := by
  apply List.ext_getElem?; intro i
  rw [List.getElem?_set]
  by_cases hi : i < 8
  · by_cases he : j = i
    · subst he; simp [addRow, hi]
    · rw [if_neg he]
      simp [addRow, hi]
      have : (i < j + 1) ↔ (i < j) := by omega
      simp [this]
  · rw [List.getElem?_eq_none (by rw [addRow_length]; omega), if_neg (by omega), List.getElem?_eq_none (by rw [addRow_length]; omega)]
theorem ofSt_length (s : St) : (ofSt s).length = 8 := rfl

set_option maxRecDepth 100000 in
set_option maxHeartbeats 4000000 in
theorem block_any (hb : Nat) (h : List Nat) (v : Value) (n : Nat) (a : Option Addr) (p : List Nat) (cap : Nat) (w : World)
    (hk : IsBlk w hb (hashC h v n) 135) (hp : IsBytes w a p) (hl : p.length = 64) (hh : h.length = 8) (hlt : ∀ i, h.getD i 0 < 4294967296) :
    Calls Tryd.prog 56 #[.pointer (some ⟨hb, 0, none⟩), .slice a 64 cap] w fun e w' => e = .returned (.tuple #[]) ∧ IsBlk w' hb (hashC (comp h p) v n) 135 ∧ But (fun k => k = hb) w w' := by
  obtain ⟨h0, h1, h2, h3, h4, h5, h6, h7, rfl⟩ := list8 h hh
  obtain ⟨hp1, hp2⟩ := hp
  obtain ⟨b, off, rfl, hc⟩ := hp2.resolve_left (by rintro rfl; simp at hl)
  have hz := zero_64w p
  have HL := Lib.hid hl
  have HK := Lib.hid hk
  have HH := Lib.hid hh
  have HC : Hid (∀ i, i < 64 → w.cell? ⟨b, off + i, none⟩ = some (.int .u8 (p.getD i 0 : Nat))) := fun i hi => hc i (by omega)
  have HP : Hid (∀ i, i < 64 → p.getD i 0 < 256) := fun i hi => hp1 _ (by simp [List.getD, List.getElem?_eq_getElem (show i < p.length by omega)])
  have HP1 := Lib.hid hp1
  have HLT := Lib.hid hlt
  have hbw : b < w.heap.size := cell?_some_lt (hc 0 (by omega))
  clear hc hp1 hp2 hl hh hk hlt
  go_enter Tryd.func56, Tryd.ntmps56
  go_wp2
  go_loopw [17] (fun i wr => ∃ k : Nat, k ≤ 16 ∧ i = .int .i64 k ∧ IsBlk wr w.heap.size (nv .u32 (wrow p k)) 151 ∧ Below w.heap.size w wr) (fun i _ => 16 - (intOf i).toNat)
  case atStart => exact ⟨0, by omega, rfl, IsBlk.new _ _ _, (Below.refl _ _).alloc (Nat.le_refl _) _⟩
  case round =>
    obtain ⟨k, hk16, rfl, hblk, hbel⟩ := hrel
    by_cases hlt : k < 16
    ·
      -- {
      obtain ⟨q, hq⟩ : ∃ q, q = 4 * k := ⟨_, rfl⟩
      have f0 := (hbel.cell (p := ⟨b, off + q, none⟩) hbw).trans (HC.out q (by omega))
      have f1 := (hbel.cell (p := ⟨b, off + (q + 1), none⟩) hbw).trans (HC.out (q + 1) (by omega))
      have f2 := (hbel.cell (p := ⟨b, off + (q + 2), none⟩) hbw).trans (HC.out (q + 2) (by omega))
      have f3 := (hbel.cell (p := ⟨b, off + (q + 3), none⟩) hbw).trans (HC.out (q + 3) (by omega))
      have g0 := HP.out q (by omega)
      have g1 := HP.out (q + 1) (by omega)
      have g2 := HP.out (q + 2) (by omega)
      have g3 := HP.out (q + 3) (by omega)
      have e := or4w _ _ _ _ g0 g1 g2 g3
      have hwk : p.getD q 0 * 16777216 + p.getD (q + 1) 0 * 65536 + p.getD (q + 2) 0 * 256 + p.getD (q + 3) 0 = wd p k := by rw [wd_lo p k hlt, hq]; rfl
      rw [hwk] at e
      have b0 : (0 : Int) ≤ (q : Int) := by omega
      have b1 : (q : Int) < 64 := by omega
      have b2 : (q : Int) + 1 < 64 := by omega
      have b3 : (q : Int) + 2 < 64 := by omega
      have b4 : (q : Int) + 3 < 64 := by omega
      have b5 : (0 : Int) ≤ (q : Int) + 1 := by omega
      have b6 : (0 : Int) ≤ (q : Int) + 2 := by omega
      have b7 : (0 : Int) ≤ (q : Int) + 3 := by omega
      have t1 : ((q : Int) + 1).toNat = q + 1 := by omega
      have t2 : ((q : Int) + 2).toNat = q + 2 := by omega
      have t3 : ((q : Int) + 3).toNat = q + 3 := by omega
      have w0 : IntKind.i64.wrap (4 * (k : Int)) = (q : Int) := by rw [IntWalk.i64_in _ (by omega)]; omega
      have w1 : IntKind.i64.wrap ((q : Int) + 1) = (q : Int) + 1 := IntWalk.i64_in _ (by omega)
      have w2 : IntKind.i64.wrap ((q : Int) + 2) = (q : Int) + 2 := IntWalk.i64_in _ (by omega)
      have w3 : IntKind.i64.wrap ((q : Int) + 3) = (q : Int) + 3 := IntWalk.i64_in _ (by omega)
      have c0 : (0 : Int) ≤ (k : Int) := by omega
      have c1 : (k : Int) < 64 := by omega
      have hne : b ≠ w.heap.size := by omega
      have hg := hblk.cell k (show (nv .u32 (wrow p k))[k]? = some (.int .u32 0) by rw [nv_get _ _ _ (by rw [wrow_length]; omega), wrow_get _ _ _ (by omega)]; simp)
      have hfz := hblk.fz k
      have hs : (nv .u32 (wrow p k)).setIfInBounds k (.int .u32 ((wd p k : Nat) : Int)) = nv .u32 (wrow p (k + 1)) := by rw [nv_set, wrow_set _ _ (by omega)]
      have HE := Lib.hid (And.intro hblk (And.intro hbel hs))
      clear hwk hq hblk hbel hs
      generalize p.getD q 0 = x0 at *
      generalize p.getD (q + 1) 0 = x1 at *
      generalize p.getD (q + 2) 0 = x2 at *
      generalize p.getD (q + 3) 0 = x3 at *
      go_wp2
      go_region_held3 (fun w' => w'.cell? ⟨b, off + q, none⟩ = some (.int .u8 x0) ∧ w'.cell? ⟨b, off + (q + 1), none⟩ = some (.int .u8 x1) ∧ w'.cell? ⟨b, off + (q + 2), none⟩ = some (.int .u8 x2) ∧ w'.cell? ⟨b, off + (q + 3), none⟩ = some (.int .u8 x3)) (first | (go_keep; done) | (refine ⟨?_, ?_, ?_, ?_⟩ <;> (rw [cell_set_far' hne]; assumption))) (fail)
      go_wp2
      go_roundw
      case rel =>
        have h1 := HE.out.1.drew.set k (.int .u32 ((wd p k : Nat) : Int))
        rw [HE.out.2.2] at h1
        exact ⟨k + 1, by omega, by go_num, h1, HE.out.2.1.drew.setCell (Nat.le_refl _) _⟩
      case measure => simp [intOf]; omega
      -- }
    · have hk : k = 16 := by omega
      rw [hk] at hblk
      have HB1 := Lib.hid (And.intro hblk hbel)
      clear hblk hbel hk
      go_wp2
      go_loopw [6] (fun i wr => ∃ k : Nat, 16 ≤ k ∧ k ≤ 64 ∧ i = .int .i64 k ∧ IsBlk wr w.heap.size (nv .u32 (wrow p k)) 151 ∧ Below w.heap.size w wr) (fun i _ => 64 - (intOf i).toNat)
      case atStart => exact ⟨16, by omega, by omega, rfl, HB1.out.1, HB1.out.2⟩
      case round =>
        clear HB1
        obtain ⟨i, hi16, hi64, rfl, hblk, hbel⟩ := hrel
        by_cases hlt : i < 64
        ·
          -- {
          obtain ⟨k, hk⟩ : ∃ k, i = k + 16 := ⟨i - 16, by omega⟩
          obtain ⟨q1, hq1⟩ : ∃ q, q = k + 1 := ⟨_, rfl⟩
          obtain ⟨q2, hq2⟩ : ∃ q, q = k + 9 := ⟨_, rfl⟩
          obtain ⟨q3, hq3⟩ : ∃ q, q = k + 14 := ⟨_, rfl⟩
          have e0 := hblk.cell k (wrow_cell p i k (by omega) hi64)
          have e1 := hblk.cell q1 (wrow_cell p i q1 (by omega) hi64)
          have e2 := hblk.cell q2 (wrow_cell p i q2 (by omega) hi64)
          have e3 := hblk.cell q3 (wrow_cell p i q3 (by omega) hi64)
          have l0 := wd_lt p HP1.out HL.out k (by omega)
          have l1 := wd_lt p HP1.out HL.out q1 (by omega)
          have l2 := wd_lt p HP1.out HL.out q2 (by omega)
          have l3 := wd_lt p HP1.out HL.out q3 (by omega)
          have hw := wd_hi p k (by omega)
          rw [← hk, ← hq1, ← hq2, ← hq3] at hw
          have w0 : IntKind.i64.wrap ((i : Int) - 15) = (q1 : Int) := by rw [IntWalk.i64_in _ (by omega)]; omega
          have w1 : IntKind.i64.wrap ((i : Int) - 2) = (q3 : Int) := by rw [IntWalk.i64_in _ (by omega)]; omega
          have w2 : IntKind.i64.wrap ((i : Int) - 16) = (k : Int) := by rw [IntWalk.i64_in _ (by omega)]; omega
          have w3 : IntKind.i64.wrap ((i : Int) - 7) = (q2 : Int) := by rw [IntWalk.i64_in _ (by omega)]; omega
          have b0 : (0 : Int) ≤ (q1 : Int) := by omega
          have b1 : (q1 : Int) < 64 := by omega
          have b2 : (0 : Int) ≤ (q2 : Int) := by omega
          have b3 : (q2 : Int) < 64 := by omega
          have b4 : (0 : Int) ≤ (q3 : Int) := by omega
          have b5 : (q3 : Int) < 64 := by omega
          have b6 : (0 : Int) ≤ (k : Int) := by omega
          have b7 : (k : Int) < 64 := by omega
          have b8 : (0 : Int) ≤ (i : Int) := by omega
          have b9 : (i : Int) < 64 := by omega
          have hg := hblk.cell i (show (nv .u32 (wrow p i))[i]? = some (.int .u32 0) by rw [nv_get _ _ _ (by rw [wrow_length]; omega), wrow_get _ _ _ (by omega)]; simp)
          have hfz := hblk.fz i
          have hs : (nv .u32 (wrow p i)).setIfInBounds i (.int .u32 ((wd p i : Nat) : Int)) = nv .u32 (wrow p (i + 1)) := by rw [nv_set, wrow_set _ _ (by omega)]
          have HE := Lib.hid (And.intro hblk (And.intro hbel (And.intro hs hw)))
          clear hblk hbel hs hw
          generalize wd p k = x0 at *
          generalize wd p q1 = x1 at *
          generalize wd p q2 = x2 at *
          generalize wd p q3 = x3 at *
          generalize wd p i = y at *
          have n1 : i ≠ k := by omega
          have n2 : i ≠ q2 := by omega
          clear hk hq1 hq2 hq3
          have E0 := sg0_v x1 l1
          have E1 := sg1_v x3 l3
          have E2 := sum4_v x0 (sg0 x1) x2 (sg1 x3)
          rw [← HE.out.2.2.2] at E2
          generalize sg0 x1 = y0 at *
          generalize sg1 x3 = y1 at *
          go_wp2
          go_quiet ((go_at_call 62; exact Calls.quiet_of_same (turn_q x1 _ l1 (by omega) (by omega) _)))
          go_wp2
          go_quiet ((go_at_call 62; exact quiet_more (turn_q x3 _ l3 (by omega) (by omega) _)))
          go_wp2
          go_region_held3 (fun w' => w'.cell? ⟨w.heap.size, k, none⟩ = some (.int .u32 x0) ∧ w'.cell? ⟨w.heap.size, q2, none⟩ = some (.int .u32 x2)) (first | exact ⟨(cell_set_off n1).trans e0, (cell_set_off n2).trans e2⟩ | exact ⟨e0, e2⟩) (fail)
          go_wp2
          go_roundw
          case rel =>
            have h1 := HE.out.1.set i (.int .u32 (y : Int))
            rw [HE.out.2.2.1] at h1
            exact ⟨i + 1, by omega, by omega, by go_num, h1, (drawn_below HE.out.2.1 _).setCell (Nat.le_refl _) _⟩
          case measure => simp [intOf]; omega
          -- }
        · obtain rfl : i = 64 := by omega
          have HB2 := Lib.hid (And.intro hblk hbel)
          have hkb := HK.out.below hbel HK.out.lt
          have hsz := hblk.lt
          have hc0 := hkb.cell 0 (v := .int .u32 h0) rfl
          have hc1 := hkb.cell 1 (v := .int .u32 h1) rfl
          have hc2 := hkb.cell 2 (v := .int .u32 h2) rfl
          have hc3 := hkb.cell 3 (v := .int .u32 h3) rfl
          have hc4 := hkb.cell 4 (v := .int .u32 h4) rfl
          have hc5 := hkb.cell 5 (v := .int .u32 h5) rfl
          have hc6 := hkb.cell 6 (v := .int .u32 h6) rfl
          have hc7 := hkb.cell 7 (v := .int .u32 h7) rfl
          clear hblk hbel hkb
          go_wp2_with fail
          refine (words_any _).mono ?_
          rintro e w2 ⟨rfl, hb2⟩
          go_wp2_with (first
            | (refine wpList_store_row (by rfl) 151 (.tmp 10) (.tmp 113) (by rfl) w2.heap.size (nv .u32 kw) (by rfl) (by rfl) 151 (nv .u32 (wrow p 0)) (heap_alloc_new w2 _) (by kernel_rfl) (by rw [nv_size, nv_size, kw_length, wrow_length]) (nv_one _ _) ?_))
          have hW0 : IsBlk (wr.alloc (.cells #[.int .u32 h0, .int .u32 h1, .int .u32 h2, .int .u32 h3, .int .u32 h4, .int .u32 h5, .int .u32 h6, .int .u32 h7] 133)) wr.heap.size #[.int .u32 h0, .int .u32 h1, .int .u32 h2, .int .u32 h3, .int .u32 h4, .int .u32 h5, .int .u32 h6, .int .u32 h7] 133 := IsBlk.new _ _ _
          have hA : Below wr.heap.size wr (wr.alloc (.cells #[.int .u32 h0, .int .u32 h1, .int .u32 h2, .int .u32 h3, .int .u32 h4, .int .u32 h5, .int .u32 h6, .int .u32 h7] 133)) := (Below.refl _ _).alloc (Nat.le_refl _) _
          have hA2 : Below wr.heap.size wr w2 := hA.trans (hb2.mono (by simp))
          have hsz2 : wr.heap.size < w2.heap.size := by have := hb2.size; simp at this; omega
          have hb3 : Below w.heap.size w w2 := HB2.out.2.trans (hA2.mono HB2.out.2.size)
          have hF : Below w.heap.size w ((w2.alloc (.cells (nv .u32 (wrow p 0)) 151)).setRow w2.heap.size (nv .u32 kw)) := below_setRow (hb3.alloc hb3.size _) _ hb3.size _
          have hK1 : IsBlk ((w2.alloc (.cells (nv .u32 (wrow p 0)) 151)).setRow w2.heap.size (nv .u32 kw)) w2.heap.size (nv .u32 kw) 151 := isBlk_setRow (IsBlk.new _ _ _) _
          have hV1 : IsBlk ((w2.alloc (.cells (nv .u32 (wrow p 0)) 151)).setRow w2.heap.size (nv .u32 kw)) wr.heap.size (nv .u32 (ofSt (rst p [h0, h1, h2, h3, h4, h5, h6, h7] 0))) 133 :=
            isBlk_setRowOther ((hW0.below hb2 (by simp)).alloc _) (by omega) _
          have hW1 : IsBlk ((w2.alloc (.cells (nv .u32 (wrow p 0)) 151)).setRow w2.heap.size (nv .u32 kw)) w.heap.size (nv .u32 (wrow p 64)) 151 :=
            isBlk_setRowOther ((HB2.out.1.below hA2 hsz).alloc _) (by omega) _
          have hH1 := HK.out.below hF HK.out.lt
          have HF := Lib.hid (And.intro hF (And.intro hK1 (And.intro hV1 (And.intro hW1 hH1))))
          have hv1 : w.heap.size < wr.heap.size := hsz
          clear hW0 hA hA2 hb3 hF hK1 hV1 hW1 hH1 hb2 hsz hc0 hc1 hc2 hc3 hc4 hc5 hc6 hc7 HB2
          generalize ((w2.alloc (.cells (nv .u32 (wrow p 0)) 151)).setRow w2.heap.size (nv .u32 kw)) = W3 at *
          generalize wr.heap.size = vb at *
          generalize w2.heap.size = kb at *
          go_loopw [114] (fun i wr => ∃ k : Nat, k ≤ 64 ∧ i = .int .i64 k ∧ Below w.heap.size w wr ∧ IsBlk wr kb (nv .u32 kw) 151 ∧ IsBlk wr vb (nv .u32 (ofSt (rst p [h0, h1, h2, h3, h4, h5, h6, h7] k))) 133 ∧ IsBlk wr w.heap.size (nv .u32 (wrow p 64)) 151) (fun i _ => 64 - (intOf i).toNat)
          case atStart => exact ⟨0, by omega, rfl, HF.out.1, HF.out.2.1, HF.out.2.2.1, HF.out.2.2.2.1⟩
          case round =>
            clear HF
            obtain ⟨k, hk64, rfl, hbel, hkb, hvb, hwb⟩ := hrel
            by_cases hlt : k < 64
            ·
              -- {
              have hst := rst_succ p [h0, h1, h2, h3, h4, h5, h6, h7] k
              have hok := rst_ok p [h0, h1, h2, h3, h4, h5, h6, h7] HLT.out k
              have ck := hkb.cell k (nv_get .u32 kw k (by rw [kw_length]; exact hlt))
              have cw := hwb.cell k (wrow_cell p 64 k hlt (by omega))
              have lk := kw_lt k
              have lw := wd_lt p HP1.out HL.out k hlt
              have HS := Lib.hid (And.intro hbel (And.intro hkb (And.intro hvb (And.intro hwb hst))))
              generalize rst p [h0, h1, h2, h3, h4, h5, h6, h7] k = s at *
              generalize kw.getD k 0 = kk at *
              generalize wd p k = ww at *
              obtain ⟨a, b', c, d, e, f, g, l⟩ := s
              obtain ⟨oa, ob, oc, od, oe, of, og, ol⟩ := hok
              have v0 := hvb.cell 0 (v := .int .u32 a) rfl
              have v1 := hvb.cell 1 (v := .int .u32 b') rfl
              have v2 := hvb.cell 2 (v := .int .u32 c) rfl
              have v3 := hvb.cell 3 (v := .int .u32 d) rfl
              have v4 := hvb.cell 4 (v := .int .u32 e) rfl
              have v5 := hvb.cell 5 (v := .int .u32 f) rfl
              have v6 := hvb.cell 6 (v := .int .u32 g) rfl
              have v7 := hvb.cell 7 (v := .int .u32 l) rfl
              have vz := hvb.fz
              clear hbel hkb hvb hwb hst
              simp only at oa ob oc od oe of og ol
              have X1 := S1_v e
              have X2 := ch_v e f g oe of og
              have X3 := mod5_v l (S1 e) (ch e f g) kk ww
              have X6 := mod2_v (S0 a) (mj a b' c)
              have X4 := S0_v a
              have X5 := mj_v a b' c oa ob oc
              have b0 : (0 : Int) ≤ (k : Int) := by omega
              have b1 : (k : Int) < 64 := by omega
              go_wp2
              go_quiet (fail)
              go_wp2
              go_quiet ((go_at_call 62; exact quiet_more (turn_q e _ oe (by omega) (by omega) _)))
              obtain ⟨t, ht⟩ : ∃ t, t = (l + S1 e + ch e f g + kk + ww) % 4294967296 := ⟨_, rfl⟩
              obtain ⟨u, hu⟩ : ∃ u, u = (S0 a + mj a b' c) % 4294967296 := ⟨_, rfl⟩
              rw [← ht] at X3
              rw [← hu] at X6
              have HT := Lib.hid (And.intro ht hu)
              clear ht hu
              go_wp2
              go_quiet ((go_at_call 62; exact quiet_more (turn_q a _ oa (by omega) (by omega) _)))
              go_wp2
              go_region_held3 (fun w' => True) (trivial) ((refine step_rot (by rfl) _ _ (by rfl) vb (by rfl) (by rfl) a b' c d e f g l (by exact HS.out.2.2.1) ?_; intro w4 hb4 hbut4))
              have v0' := hb4.cell 0 (v := .int .u32 a) rfl
              have v4' := hb4.cell 4 (v := .int .u32 d) rfl
              have vz' := hb4.fz
              obtain ⟨d2, hd2⟩ : ∃ x, x = (d + t) % 4294967296 := ⟨_, rfl⟩
              obtain ⟨a2, ha2⟩ : ∃ x, x = (t + u) % 4294967296 := ⟨_, rfl⟩
              have X7 := mod2_v d t
              have X8 := mod2_v t u
              rw [← hd2] at X7
              rw [← ha2] at X8
              have HB4 := Lib.hid (And.intro hb4 (And.intro hbut4 (And.intro hd2 ha2)))
              clear hb4 hbut4 hd2 ha2 v0 v1 v2 v3 v4 v5 v6 v7 vz X1 X2 X4 X5
              go_wp2
              go_roundw
              case rel =>
                have q1 := (HB4.out.1.set 4 (.int .u32 d2)).set 0 (.int .u32 a2)
                have q2 : rst p [h0, h1, h2, h3, h4, h5, h6, h7] (k + 1) = ⟨a2, a, b', c, d2, e, f, g⟩ := by
                  rw [HS.out.2.2.2.2, HB4.out.2.2.1, HB4.out.2.2.2, HT.out.1, HT.out.2]; rfl
                have q3 := HB4.out.2.1
                refine ⟨k + 1, by omega, by go_num, ?_, ?_, ?_, ?_⟩
                · exact (((drawn_below (drawn_below HS.out.1 _) _).drew.trans (q3.below HS.out.1.size (by intro j hj; omega))).setCell (by simp; omega) _).setCell (by simp; omega) _
                · exact ((q3.blk HS.out.2.1 (by omega)).setOther _ _ (by simp; omega)).setOther _ _ (by simp; omega)
                · rw [q2]; exact q1
                · exact ((q3.blk HS.out.2.2.2.1 (by omega)).setOther _ _ (by simp; omega)).setOther _ _ (by simp; omega)
              case measure => simp [intOf]; omega
              -- }
            · have hk : k = 64 := by omega
              rw [hk] at hvb
              have hhb := HK.out.below hbel HK.out.lt
              have hlb := HK.out.lt
              have HB5 := Lib.hid (And.intro hbel (And.intro hvb hhb))
              clear hbel hkb hvb hwb hk hhb
              generalize hV : ofSt (rst p [h0, h1, h2, h3, h4, h5, h6, h7] 64) = V at *
              have HV := Lib.hid hV
              clear hV
              go_wp2
              go_loopw [188] (fun i wr => ∃ j : Nat, j ≤ 8 ∧ i = .int .i64 j ∧ But (fun k => k = hb) w wr ∧ IsBlk wr vb (nv .u32 V) 133 ∧ IsBlk wr hb (hashC (addRow [h0, h1, h2, h3, h4, h5, h6, h7] V j) v n) 135) (fun i _ => 8 - (intOf i).toNat)
              case atStart => exact ⟨0, by omega, rfl, But.of_below HB5.out.1 (Nat.le_refl _), HB5.out.2.1, by rw [addRow_zero _ _ rfl]; exact HB5.out.2.2⟩
              case round =>
                clear HB5
                obtain ⟨j, hj8, rfl, hbut, hvb, hhb⟩ := hrel
                by_cases hlt : j < 8
                · have hV8 : V.length = 8 := by rw [← HV.out]; rfl
                  have r0 := hhb.cell j (hashC_get _ v n j (by rw [addRow_length]; exact hlt))
                  rw [addRow_get _ _ _ _ hlt, if_neg (by omega)] at r0
                  have r1 := hvb.cell j (nv_get .u32 V j (by omega))
                  have r2 := hhb.fz j
                  have hset := hashC_set (addRow [h0, h1, h2, h3, h4, h5, h6, h7] V j) v n j (([h0, h1, h2, h3, h4, h5, h6, h7].getD j 0 + V.getD j 0) % 4294967296) (by rw [addRow_length]; exact hlt)
                  rw [addRow_set _ _ _ hlt] at hset
                  obtain ⟨y, hy⟩ : ∃ y, y = ([h0, h1, h2, h3, h4, h5, h6, h7].getD j 0 + V.getD j 0) % 4294967296 := ⟨_, rfl⟩
                  rw [← hy] at hset
                  have HE := Lib.hid (And.intro hbut (And.intro hvb (And.intro hhb hset)))
                  clear hbut hvb hhb hset hV8
                  generalize [h0, h1, h2, h3, h4, h5, h6, h7].getD j 0 = x0 at *
                  generalize V.getD j 0 = x1 at *
                  have X := mod2_v x0 x1
                  rw [← hy] at X
                  have HY := Lib.hid hy
                  have b0 : (0 : Int) ≤ (j : Int) := by omega
                  have b1 : (j : Int) < 8 := by omega
                  have hne : vb ≠ hb := by omega
                  clear hy
                  go_wp2
                  go_region
                  all_goals
                    go_wp2
                    go_roundw
                    case rel =>
                      have h1 := HE.out.2.2.1.set j (.int .u32 (y : Int))
                      rw [HE.out.2.2.2] at h1
                      exact ⟨j + 1, by omega, by go_num, (HE.out.1.setCell (p := ⟨hb, j, none⟩) rfl _).drew, HE.out.2.1.setOther ⟨hb, j, none⟩ _ hne, h1⟩
                    case measure => simp [intOf]; omega
                · have hj : j = 8 := by omega
                  rw [hj, addRow_end, ← HV.out] at hhb
                  clear hvb hj
                  have HE := Lib.hid (And.intro hbut hhb)
                  clear hbut hhb
                  go_wp2
                  go_end0
                  exact ⟨rfl, by rw [comp_rst]; exact HE.out.2, HE.out.1⟩
end Go.Proofs.YtkabkehfckbhcaaDoor

namespace Go.Proofs.YtkabkehfckbhcaaDoor
set_option linter.unusedVariables false
set_option linter.unusedSimpArgs false
open Go.RowKit

/-- A row of uint64 that the call owns: from base on; the value v holds l. -/
def OwnN (w : World) (base : Nat) (v : Value) (l : List Nat) : Prop := w.ownsRow base 22 1 v l.length (nv .u64 l).toList
theorem OwnN.nil (w : World) (base : Nat) : OwnN w base (.slice none 0 0) [] := World.ownsRow_nil w base _ 1
theorem OwnN.form {w : World} {base : Nat} {v : Value} {l : List Nat} (h : OwnN w base v l) : ∃ a cap, v = .slice a l.length cap ∧ l.length ≤ cap ∧ cap ≤ maxLen ∧
    (l = [] ∨ ∃ g, a = some ⟨g, 0, none⟩ ∧ base ≤ g ∧ g < w.heap.size ∧ ∀ i, i < l.length → w.cell? ⟨g, i, none⟩ = some (.int .u64 ((l.getD i 0 : Nat) : Int))) := by
  obtain ⟨h1, h2⟩ := h
  rcases h2 with ⟨rfl, h0⟩ | ⟨g, cap, cur, rfl, hg, hh, hn, hcap, hsz, htake⟩
  · have : l = [] := List.length_eq_zero_iff.1 h0
    subst this
    exact ⟨none, 0, rfl, by simp, by unfold maxLen; omega, .inl rfl⟩
  · refine ⟨some ⟨g, 0, none⟩, cap, rfl, hn, hcap, ?_⟩
    by_cases hl : l = []
    · exact .inl hl
    · refine .inr ⟨g, rfl, hg, ?_, fun i hi => ?_⟩
      · by_cases hb : g < w.heap.size
        · exact hb
        · rw [Array.getElem?_eq_none (by omega)] at hh; cases hh
      · have hc : w.cell? ⟨g, i, none⟩ = cur[i]? := by unfold World.cell?; rw [hh]; simp
        rw [hc]
        have : (cur.toList.take (l.length * 1))[i]? = (nv .u64 l).toList[i]? := by rw [htake]
        rw [List.getElem?_take, if_pos (by omega)] at this
        rw [← Array.getElem?_toList, this, Array.getElem?_toList, nv_get .u64 l i hi]
theorem OwnN.grown {w w' : World} {base : Nat} {v : Value} {l : List Nat} {row : Option Nat} (h : OwnN w base v l) (hg : w.grownBy w' row) (hr : v.ownBlock = none ∨ v.ownBlock ≠ row) : OwnN w' base v l := h.kept hg hr
theorem OwnN.alloc {w : World} {base : Nat} {v : Value} {l : List Nat} (h : OwnN w base v l) (o : Obj) : OwnN (w.alloc o) base v l := World.ownsRow.alloc h o
theorem OwnN.drew {w : World} {base : Nat} {v : Value} {l : List Nat} (h : OwnN w base v l) : OwnN w.drew base v l := h
theorem OwnN.base_le {w : World} {base : Nat} {v : Value} {l : List Nat} (h : OwnN w base v l) : ∀ k, v.ownBlock = some k → base ≤ k := fun k hk => (World.ownsRow.lt h k hk).1
theorem Tryd.info64 : (Tryd.prog.info? 22).map (fun i => (i.zero, i.size, i.bytes)) = some (some (.int .u64 0), 1, 8) := by kernel_rfl

/-- A world with one block more, whatever has been drawn. -/
structure Pushed (w W : World) (o : Obj) : Prop where
  heap : W.heap = w.heap.push o
  os : W.os = w.os
  tape : W.tape = w.tape
  output : W.output = w.output
theorem Pushed.below {w W : World} {o : Obj} (h : Pushed w W o) : Below w.heap.size w W :=
  ⟨h.os, h.tape, h.output, by rw [h.heap]; simp, fun k hk => by rw [h.heap, Array.getElem?_push, if_neg (by omega)]⟩
theorem Pushed.new {w W : World} {cs : Array Value} {t : TypeId} (h : Pushed w W (.cells cs t)) : IsBlk W w.heap.size cs t := by
  show W.heap[w.heap.size]? = _
  rw [h.heap]; simp
theorem Pushed.cell0 {w W : World} {x : Value} {t : TypeId} (h : Pushed w W (.cells #[x] t)) : W.cell? ⟨w.heap.size, 0, none⟩ = some x := h.new.cell 0 rfl
theorem OwnN.below {w w' : World} {base : Nat} {v : Value} {l : List Nat} (h : OwnN w base v l) (hb : Below w.heap.size w w') : OwnN w' base v l :=
  h.grown (row := none) ⟨hb.os, hb.tape, hb.output, hb.size, fun k hk _ => hb.block k hk⟩ (by cases hv : v.ownBlock <;> simp)

/-- Behind append the row lies where it lay, or nothing that was there has turned. -/
theorem append_where {P : Program} (w : World) (base : Nat) (t ty e : TypeId) (i : TypeInfo) (z : Value) (size bytes : Nat) (ht : P.underlying t = some (.slice e)) (hi : P.info? e = some i) (hz : i.zero = some z)
    (hsize : i.size = size) (hby : i.bytes = bytes) (hzs : z.cells.size = size) (hsz : 0 < size)
    (g n cap : Nat) (xs : List Value) (hown : w.ownsRow base e size (.slice (some ⟨g, 0, none⟩) n cap) n xs)
    (a : Addr) (m c : Nat) (news : List Value) (hl : news.length = m * size) (hnews : ∀ j u, news[j]? = some u → w.cell? (a.add j) = some u) (h1 : ∀ u ∈ news, u.oneCell' = true)
    (h63 : n + m ≤ maxLen) (hbytes : (n + m) * bytes ≤ 140737488355328) (v' : Value) (w' : World) (hr : (Builtin.append_ #[t, t] ty #[.slice (some ⟨g, 0, none⟩) n cap, .slice (some a) m c]).run P w = .ok v' w') :
    v'.ownBlock = some g ∨ w.grownBy w' none := by
  subst hsize
  subst hby
  rcases hown.2 with ⟨h0, _⟩ | ⟨g', cap', cur, h0, hbg, hg, hnc, hcm, hcs, htake⟩
  · cases h0
  · cases h0
    by_cases hroom : n + m ≤ cap
    · have hfit : n * i.size + news.length ≤ cur.size := by rw [hl, hcs, ← Nat.add_mul]; exact Nat.mul_le_mul_right _ hroom
      have hr2 := run_append_room (P := P) w t ty e i ht hi g n cap cur hg a m c news hl hnews h1 hroom hfit
      rw [hr] at hr2
      cases hr2
      exact .inl rfl
    · have hm : n + m ≤ 9223372036854775807 := by simp only [maxLen] at h63; omega
      have hr2 := run_append_grow (P := P) w t ty e i z ht hi hz ⟨g, 0, none⟩ n cap xs hown.1 (World.ownsRow.cells hown (g := g) rfl) a m c news hl hnews (by omega) (by omega) (growslice_fits (by omega) hbytes)
      rw [hr] at hr2
      cases hr2
      exact .inr ⟨rfl, rfl, rfl, by simp, fun k hk _ => Below.heap_alloc w.drew _ k hk⟩

/-- append of one number, at a step of a region that draws its order: the number lies in a block of its own. -/
theorem step_num {ops : Array Oper} {o : Oper} {a : Act} {w : World} {K : Act → World → Prop} {Q : Exit → Act → World → Prop} {E : Prop} (hgd : o.guard = none) (s x : Operand)
    (ho : o.op = .call { callee := .builtin .append, args := #[s, x], argTypes := #[118, 118] })
    (base : Nat) (v : Value) (l : List Nat) (hs : a.eval s = v) (hown : OwnN w base v l) (b c y : Nat) (hx : a.eval x = .slice (some ⟨b, 0, none⟩) 1 c) (hb : w.cell? ⟨b, 0, none⟩ = some (.int .u64 (y : Int)))
    (hlen : l.length + 1 ≤ 1000000) (hbase : base ≤ w.heap.size)
    (h : ∀ v' w', OwnN w' base v' (l ++ [y]) → Below base w w' → (∀ g i, v.ownBlock = some g → i < l.length → w'.cell? ⟨g, i, none⟩ = w.cell? ⟨g, i, none⟩) → K (a.put o.dst v') w') :
    if Region.wanted o (yielded ops a.tmps) = true then Oper.wp Tryd.prog o a w K Q else E := by
  obtain ⟨i0, hi, hz0, hz1, hz2⟩ := info_parts Tryd.info64
  have hnews : ∀ j u, [Value.int .u64 (y : Int)][j]? = some u → w.cell? ((⟨b, 0, none⟩ : Addr).add j) = some u := by
    intro j u hu
    have hj : j = 0 := by have := (List.getElem?_eq_some_iff.1 hu).1; simp at this; omega
    subst hj
    rw [Go.WideShapes.add_plain, ← hu]
    exact hb
  have hlen' : (nv .u64 l).toList.length = l.length := by simp [nv]
  obtain ⟨v', w', hrun, h2, h3, -, -⟩ := run_append_own_at (P := Tryd.prog) w base 118 o.type 22 i0 (.int .u64 0) 1 8 Tryd.underlying118 hi hz0 hz1 hz2 rfl (by decide) v l.length (nv .u64 l).toList hown ⟨b, 0, none⟩ 1 c [.int .u64 (y : Int)] rfl hnews (by simp [Value.oneCell']) (by unfold maxLen; omega) (by omega) hbase
  have e : (nv .u64 (l ++ [y])).toList = (nv .u64 l).toList ++ [.int .u64 (y : Int)] := by simp [nv]
  rw [if_pos (by simp [Region.wanted, hgd])]
  have hk : OwnN w' base v' (l ++ [y]) := by
    show w'.ownsRow base 22 1 v' (l ++ [y]).length (nv .u64 (l ++ [y])).toList
    rw [e, List.length_append]
    exact h2
  have hkeep : ∀ g i, v.ownBlock = some g → i < l.length → w'.cell? ⟨g, i, none⟩ = w.cell? ⟨g, i, none⟩ := by
    intro g i hg hi'
    rcases hown.2 with ⟨hv, _⟩ | ⟨g', cap', cur, hv, hbg, hg', hnc, hcm, hcs, htake⟩
    · rw [hv] at hg; simp [Value.ownBlock] at hg
    · have hgg : g' = g := by rw [hv] at hg; simpa [Value.ownBlock] using hg
      subst hgg
      have hown' := hown
      unfold OwnN at hown'
      rw [hv] at hown' hrun
      rcases append_where (P := Tryd.prog) w base 118 o.type 22 i0 (.int .u64 0) 1 8 Tryd.underlying118 hi hz0 hz1 hz2 rfl (by decide) g' l.length cap' (nv .u64 l).toList hown' ⟨b, 0, none⟩ 1 c [.int .u64 (y : Int)] rfl hnews (by simp [Value.oneCell']) (by unfold maxLen; omega) (by omega) v' w' hrun with hw | hw
      · have c1 := World.ownsRow.cells h2 hw i (.int .u64 ((l.getD i 0 : Nat) : Int)) (by rw [List.getElem?_append_left (by omega), Array.getElem?_toList, nv_get .u64 l i hi'])
        have c2 := World.ownsRow.cells hown' (g := g') rfl i (.int .u64 ((l.getD i 0 : Nat) : Int)) (by rw [Array.getElem?_toList, nv_get .u64 l i hi'])
        rw [Go.WideShapes.add_plain, Nat.zero_add] at c1 c2
        rw [c1, c2]
      · refine World.cell?_of_block (w := w) (hw.block g' ?_ (by simp))
        by_cases hb : g' < w.heap.size
        · exact hb
        · rw [Array.getElem?_eq_none (by omega)] at hg'; cases hg'
  unfold Oper.wp
  simp [execOp, ho, resolve, invoke, builtin, hs, hx, hrun, Result.andThen]
  exact h v' w' hk ((Below.refl base w).grown h3 hbase hown.base_le) hkeep
end Go.Proofs.YtkabkehfckbhcaaDoor

namespace Go.Proofs.YtkabkehfckbhcaaDoor
set_option linter.unusedVariables false
set_option linter.unusedSimpArgs false
open Go.RowKit
attribute [local go_sem ↓] Go.wp_at_zero Go.wp_at_succ

/-- Eight numbers of 32 bits. -/
structure H8 (h : List Nat) : Prop where
  len : h.length = 8
  lt : ∀ i, h.getD i 0 < 4294967296
theorem H8.start : H8 h8 := ⟨rfl, fun i => by
  have h : ∀ c ∈ h8, c < 4294967296 := by decide
  by_cases hi : i < h8.length
  · exact h _ (by simp [List.getD, List.getElem?_eq_getElem hi])
  · simp [List.getD, List.getElem?_eq_none (show h8.length ≤ i by omega)]⟩
theorem H8.comp (h p : List Nat) : H8 (comp h p) := by
  refine ⟨by rw [comp_rst]; simp [addTo], fun i => ?_⟩
  rw [comp_rst]
  unfold addTo
  by_cases hi : i < 8
  · simp [List.getD, hi]; omega
  · simp [List.getD, List.getElem?_eq_none, hi]
theorem H8.feed {h : List Nat} (hh : H8 h) (l : List Nat) : H8 (feed h l).1 := by
  induction hn : l.length using Nat.strongRecOn generalizing h l with
  | _ n ih =>
    by_cases hl : 64 ≤ l.length
    · rw [feed_long h l hl]
      exact ih (l.drop 64).length (by simp; omega) (H8.comp h _) _ rfl
    · rw [feed_short h l (by omega)]; exact hh
theorem hashC_size (h : List Nat) (v : Value) (n : Nat) : (hashC h v n).size = h.length + 2 := by simp [hashC, nv_size]
theorem hashC_rest (h : List Nat) (v : Value) (n : Nat) (hh : h.length = 8) : (hashC h v n)[8]? = some v := by
  unfold hashC
  rw [Array.getElem?_push, if_neg (by simp [nv_size]; omega), Array.getElem?_push, if_pos (by simp [nv_size]; omega)]
theorem hashC_n (h : List Nat) (v : Value) (n : Nat) (hh : h.length = 8) : (hashC h v n)[9]? = some (.int .u64 (n : Int)) := by
  unfold hashC
  rw [Array.getElem?_push, if_pos (by simp [nv_size]; omega)]
theorem hashC_setRest (h : List Nat) (v u : Value) (n : Nat) (hh : h.length = 8) : (hashC h v n).setIfInBounds 8 u = hashC h u n := by
  obtain ⟨h0, h1, h2, h3, h4, h5, h6, h7, rfl⟩ := list8 h hh
  rfl
theorem hashC_setN (h : List Nat) (v : Value) (n m : Nat) (hh : h.length = 8) : (hashC h v n).setIfInBounds 9 (.int .u64 (m : Int)) = hashC h v m := by
  obtain ⟨h0, h1, h2, h3, h4, h5, h6, h7, rfl⟩ := list8 h hh
  rfl

/-- A hash at block hb; the bytes that wait in the value v. -/
structure IsHash (w : World) (base hb : Nat) (v : Value) (h rest : List Nat) (n : Nat) : Prop where
  blk : IsBlk w hb (hashC h v n) 135
  own : Own w base v rest
  ne : v.ownBlock ≠ some hb
  hfb : base ≤ hb
  h8 : H8 h
/-- The blocks that Write may turn. -/
def HashS (hb : Nat) (v : Value) : Nat → Prop := fun k => k = hb ∨ v.ownBlock = some k
theorem IsHash.but {w w' : World} {base hb : Nat} {v : Value} {h rest : List Nat} {n : Nat} {S : Nat → Prop} (hi : IsHash w base hb v h rest n) (hb' : But S w w') (h1 : ¬ S hb) (h2 : ∀ k, v.ownBlock = some k → ¬ S k) : IsHash w' base hb v h rest n :=
  ⟨hb'.blk hi.blk h1, hb'.own hi.own h2, hi.ne, hi.hfb, hi.h8⟩

theorem blockIs (w : World) (hb : Nat) (h : List Nat) (v : Value) (n : Nat) (a : Option Addr) (p : List Nat) (cap : Nat) (hk : IsBlk w hb (hashC h v n) 135) (hp : IsBytes w a p) (hl : p.length = 64) (hh : H8 h) :
    Calls Tryd.prog 56 #[.pointer (some ⟨hb, 0, none⟩), .slice a 64 cap] w fun e w' => e = .returned (.tuple #[]) ∧ IsBlk w' hb (hashC (comp h p) v n) 135 ∧ But (fun k => k = hb) w w' :=
  block_any hb h v n a p cap w hk hp hl hh.len hh.lt

theorem isBytes_take {w : World} {a : Option Addr} {l : List Nat} (h : IsBytes w a l) (k : Nat) (hk : 0 < k) (hl : k ≤ l.length) : IsBytes w a (l.take k) := by
  refine ⟨fun c hc => h.1 c (List.mem_of_mem_take hc), .inr ?_⟩
  obtain ⟨b, off, rfl, hc⟩ := h.2.resolve_left (by rintro rfl; simp at hl; omega)
  refine ⟨b, off, rfl, fun i hi => ?_⟩
  rw [List.length_take] at hi
  rw [hc i (by omega)]
  simp [List.getD, List.getElem?_take, show i < k by omega]
theorem isBytes_drop {w : World} {g : Nat} {l : List Nat} (h : IsBytes w (some ⟨g, 0, none⟩) l) (k : Nat) : IsBytes w (some ⟨g, k, none⟩) (l.drop k) := by
  refine ⟨fun c hc => h.1 c (List.mem_of_mem_drop hc), ?_⟩
  by_cases hl : l.length ≤ k
  · exact .inl (List.drop_of_length_le hl)
  · obtain ⟨b, off, he, hc⟩ := h.2.resolve_left (by rintro rfl; simp at hl)
    cases he
    refine .inr ⟨g, k, rfl, fun i hi => ?_⟩
    rw [List.length_drop] at hi
    have := hc (k + i) (by omega)
    rw [Nat.zero_add] at this
    rw [this]
    simp [List.getD, List.getElem?_drop]

set_option maxRecDepth 100000 in
set_option maxHeartbeats 4000000 in
theorem shaWrite_any (w : World) (base hb : Nat) (v : Value) (h rest : List Nat) (n : Nat) (A : Option Addr) (k c : Nat) (m : List Nat)
    (hi : IsHash w base hb v h rest n) (HL : Hid (k = m.length)) (hm : IsBytes w A m) (hc0 : A = none → c = 0) (hlen : rest.length + k ≤ 140737488355328) (hn : n < 18446744073709551616) (hbase : base ≤ w.heap.size)
    (hsep : ∀ x, A = some x → m ≠ [] → x.block ≠ hb) :
    Calls Tryd.prog 46 #[.pointer (some ⟨hb, 0, none⟩), .slice A k c] w fun e w' => e = .returned (.tuple #[]) ∧ ∃ v', IsHash w' base hb v' (feed h (rest ++ m)).1 (feed h (rest ++ m)).2 ((n + k) % 18446744073709551616) ∧ But (HashS hb v) w w' ∧
      (∀ j, v'.ownBlock = some j → v.ownBlock = some j ∨ w.heap.size ≤ j) := by
  obtain ⟨hblk, hown, hne, hfb, hh⟩ := hi
  have e8 := hblk.cell 8 (hashC_rest h v n hh.len)
  have e9 := hblk.cell 9 (hashC_n h v n hh.len)
  have hfz := hblk.fz
  have hlt := hblk.lt
  have HK1 := hblk.set 9 (.int .u64 (((n + k) % 18446744073709551616 : Nat) : Int))
  rw [hashC_setN h v n _ hh.len] at HK1
  have hb1 : But (fun j => j = hb) w (w.setCell ⟨hb, 9, none⟩ (.int .u64 (((n + k) % 18446744073709551616 : Nat) : Int))) := (But.refl (fun j => j = hb) w).setCell (p := ⟨hb, 9, none⟩) rfl _
  have HO1 := hb1.own hown (fun j hj e => hne (by rw [hj, e]))
  have HM1 := hb1.bytes hm (fun x hx he => hsep x hx he)
  obtain ⟨sa, scap, rfl, -, -, hcm, -⟩ := hown.form
  have HD := Lib.hid (And.intro HK1 (And.intro HO1 (And.intro HM1 (And.intro hb1 (And.intro hh (And.intro hne hown.capz))))))
  have HLE := Lib.hid (And.intro hlen (And.intro hbase (And.intro hfb hlt)))
  clear hblk hown hm HK1 HO1 HM1 hb1 hh hne
  unfold maxLen at hcm
  have hk6 : k < 9223372036854775808 := by omega
  have X : IntKind.u64.wrap ((n : Int) + (k : Int)) = (((n + k) % 18446744073709551616 : Nat) : Int) := by rw [IntKind.wrap_u64]; omega
  obtain ⟨n2, hn2⟩ : ∃ x, x = (n + k) % 18446744073709551616 := ⟨_, rfl⟩
  rw [← hn2] at X HD ⊢
  have HN := Lib.hid hn2
  clear hn2 hlen hbase
  go_enter Tryd.func46, Tryd.ntmps46
  go_wp2_with (first
    | (at_builtin; refine wpList_app' rfl (.tmp 20) (.tmp 21) rfl base (.slice sa rest.length scap) rest rfl HD.out.2.1 A k c m rfl HL.out HD.out.2.2.1 hc0 (by have := HL.out; have := HLE.out.1; omega) (by have := HLE.out.2.1; simp; omega) ?_; intro v1 w2 ho2 hb2 hg2 hv2; obtain ⟨a2, len2, cap2, rfl, hlen2⟩ := ho2.slice; have hk1 := HD.out.1.grown hg2 HD.out.2.2.2.2.2.1; have e8' := hk1.cell 8 (hashC_rest h _ n2 HD.out.2.2.2.2.1.len); have hfz1 := hk1.fz; have HQ := Lib.hid (And.intro ho2 (And.intro hb2 (And.intro hg2 (And.intro hv2 hk1)))); clear ho2 hb2 hg2 hv2 hk1))
  have hS : But (HashS hb (.slice sa rest.length scap)) w (w2.setCell ⟨hb, 8, none⟩ (.slice a2 len2 cap2)) :=
    (((HD.out.2.2.2.1.mono fun j hj => .inl hj).grown HQ.out.2.2.1 (fun j hj => .inr hj)).setCell (p := ⟨hb, 8, none⟩) (.inl rfl) _)
  have hk2 := HQ.out.2.2.2.2.set 8 (.slice a2 len2 cap2)
  rw [hashC_setRest h _ _ _ HD.out.2.2.2.2.1.len] at hk2
  have hv2 : ∀ j, (Value.slice a2 len2 cap2).ownBlock = some j → (Value.slice sa rest.length scap).ownBlock = some j ∨ w.heap.size ≤ j := by
    intro j hj
    rcases HQ.out.2.2.2.1 with hx | hx
    · left; rw [← hx]; exact hj
    · right; rw [hx] at hj; simp at hj; omega
  have hne2 : (Value.slice a2 len2 cap2).ownBlock ≠ some hb := by
    intro e
    rcases hv2 _ e with hx | hx
    · exact HD.out.2.2.2.2.2.1 hx
    · have := HLE.out.2.2.2; omega
  have hb3 : But (fun j => j = hb) w2 (w2.setCell ⟨hb, 8, none⟩ (.slice a2 len2 cap2)) := (But.refl (fun j => j = hb) w2).setCell (p := ⟨hb, 8, none⟩) rfl _
  have ho3 := hb3.own HQ.out.1 (fun j hj e => hne2 (by rw [hj, e]))
  have hsz2 : w.heap.size ≤ (w2.setCell ⟨hb, 8, none⟩ (.slice a2 len2 cap2)).heap.size := hS.size
  have hlm : (rest ++ m).length = rest.length + k := by rw [List.length_append, HL.out]
  have HR := Lib.hid (And.intro hS (And.intro hk2 (And.intro hv2 (And.intro hne2 (And.intro ho3 (And.intro HD.out.2.2.2.2.1 hlm))))))
  clear hS hk2 hv2 hne2 hb3 ho3 hsz2 hlm HQ e8 e9 e8' hfz1 hfz
  go_wp2
  generalize w2.setCell ⟨hb, 8, none⟩ (.slice a2 len2 cap2) = w3 at *
  go_loopg [25] (rest.length + k) (fun g s25 wr => ∃ (v : Value) (rs hs : List Nat), g = rs.length ∧ rs.length ≤ rest.length + k ∧ IsBlk wr hb (hashC hs v n2) 135 ∧ Own wr base v rs ∧ v.ownBlock ≠ some hb ∧ H8 hs ∧ feed hs rs = feed h (rest ++ m) ∧ But (HashS hb (.slice sa rest.length scap)) w wr ∧
    (∀ j, v.ownBlock = some j → (Value.slice sa rest.length scap).ownBlock = some j ∨ w.heap.size ≤ j))
  case atStart => exact ⟨_, _, _, HR.out.2.2.2.2.2.2.symm, by rw [HR.out.2.2.2.2.2.2]; exact Nat.le_refl _, HR.out.2.1, HR.out.2.2.2.2.1, HR.out.2.2.2.1, HR.out.2.2.2.2.2.1, rfl, HR.out.1, HR.out.2.2.1⟩
  case round =>
    clear HR
    obtain ⟨v, rs, hs, hg, hrs, hblk, hown, hne, hh, hfe, hbut, hv⟩ := hrel
    by_cases hlt : 64 ≤ rs.length
    · obtain ⟨gb, cap3, rfl, hbs, -, hgb, hgw, hcl, hcm3⟩ := hown.block (by rintro rfl; simp at hlt)
      unfold maxLen at hcm3
      have e8 := hblk.cell 8 (hashC_rest hs _ n2 hh.len)
      have hfe2 := feed_long hs rs hlt
      have ht64 : (rs.take 64).length = 64 := by simp; omega
      have hbt := isBytes_take hbs 64 (by omega) hlt
      have hgne : gb ≠ hb := fun e => hne (by rw [e]; rfl)
      have HG := Lib.hid (And.intro hblk (And.intro hbt (And.intro ht64 (And.intro hh (And.intro hbs (And.intro hbut (And.intro hv hfe2)))))))
      have HD2 : Hid ((rs.drop 64).length = rs.length - 64) := List.length_drop
      have HGN := Lib.hid hgne
      have HFE := Lib.hid hfe
      have HGK := Lib.hid hg
      have hws := hbut.size
      clear hblk hbs hown hh hbut hv hfe hfe2 ht64 hbt hne hgne hg
      by_cases hc64 : cap3 = 64
      case' pos =>
        have hl64 : rs.length = 64 := by omega
        subst hc64
        rw [hl64] at e8
        rw [hl64] at HG
        have HL64 := Lib.hid hl64
        clear hl64
        go_wp2_with (first
          | (go_at_call 56; refine (blockIs _ hb hs _ n2 _ (rs.take 64) _ HG.out.1 HG.out.2.1 HG.out.2.2.1 HG.out.2.2.2.1).mono ?_; rintro e w4 ⟨rfl, hk4, hb4⟩; have e8 := hk4.cell 8 (hashC_rest (comp hs (rs.take 64)) _ n2 (H8.comp _ _).len); have hfz4 := hk4.fz; have hsz4 := hb4.size; have HB4 := Lib.hid (And.intro hk4 hb4); clear hk4 hb4)
          | (at_builtin; refine wpList_app' rfl _ _ rfl base (.slice none 0 0) [] rfl (Own.nil _ _) (some ⟨gb, 0, none⟩) 0 _ (rs.drop 64) rfl (by have := HL64.out; have := HD2.out; omega) ⟨by rw [List.drop_of_length_le (by have := HL64.out; omega)]; simp, .inl (List.drop_of_length_le (by have := HL64.out; omega))⟩ (by intro hx; cases hx) (by have := HLE.out.1; have := HD2.out; simp; omega) (by have := HLE.out.2.1; omega) ?_; intro v5 w5 ho5 hb5 hg5 hv5; obtain ⟨a5, len5, cap5, rfl, hlen5⟩ := ho5.slice; have hk5 := HB4.out.1.grown hg5 (by simp [Value.ownBlock]); have e8' := hk5.cell 8 (hashC_rest (comp hs (rs.take 64)) _ n2 (H8.comp _ _).len); have hfz5 := hk5.fz; have HQ := Lib.hid (And.intro ho5 (And.intro hg5 (And.intro hv5 hk5))); clear ho5 hb5 hg5 hv5 hk5))
      case' neg =>
        go_wp2_with (first
          | (go_at_call 56; refine (blockIs _ hb hs _ n2 _ (rs.take 64) _ HG.out.1 HG.out.2.1 HG.out.2.2.1 HG.out.2.2.2.1).mono ?_; rintro e w4 ⟨rfl, hk4, hb4⟩; have e8 := hk4.cell 8 (hashC_rest (comp hs (rs.take 64)) _ n2 (H8.comp _ _).len); have hfz4 := hk4.fz; have hsz4 := hb4.size; have HB4 := Lib.hid (And.intro hk4 hb4); clear hk4 hb4)
          | (at_builtin; refine wpList_app' rfl _ _ rfl base (.slice none 0 0) [] rfl (Own.nil _ _) (some ⟨gb, 64, none⟩) (rs.length - 64) _ (rs.drop 64) rfl (by have := HD2.out; omega) (isBytes_drop (HB4.out.2.bytes HG.out.2.2.2.2.1 (fun x hx _ => by cases hx; exact HGN.out)) 64) (by intro hx; cases hx) (by have := HLE.out.1; have := HD2.out; simp; omega) (by have := HLE.out.2.1; omega) ?_; intro v5 w5 ho5 hb5 hg5 hv5; obtain ⟨a5, len5, cap5, rfl, hlen5⟩ := ho5.slice; have hk5 := HB4.out.1.grown hg5 (by simp [Value.ownBlock]); have e8' := hk5.cell 8 (hashC_rest (comp hs (rs.take 64)) _ n2 (H8.comp _ _).len); have hfz5 := hk5.fz; have HQ := Lib.hid (And.intro ho5 (And.intro hg5 (And.intro hv5 hk5))); clear ho5 hb5 hg5 hv5 hk5))
      all_goals
        go_roundg (rs.length - 64)
        case measure => have := HGK.out; omega
        case rel =>
          have hk6 := HQ.out.2.2.2.set 8 (.slice a5 len5 cap5)
          rw [hashC_setRest _ _ _ _ (H8.comp _ _).len] at hk6
          have hv6 : ∀ j, (Value.slice a5 len5 cap5).ownBlock = some j → wr.heap.size ≤ j := by
            intro j hj
            rcases HQ.out.2.2.1 with hx | hx
            · rw [hx] at hj; simp [Value.ownBlock] at hj
            · rw [hx] at hj; simp at hj; omega
          have hbwr : hb < wr.heap.size := by have := HLE.out.2.2.2; omega
          have hne6 : (Value.slice a5 len5 cap5).ownBlock ≠ some hb := fun e => by have := hv6 _ e; omega
          have hb6 : But (fun j => j = hb) w5 (w5.setCell ⟨hb, 8, none⟩ (.slice a5 len5 cap5)) := (But.refl (fun j => j = hb) w5).setCell (p := ⟨hb, 8, none⟩) rfl _
          have hb7 : But (fun j => j = hb) wr (w5.setCell ⟨hb, 8, none⟩ (.slice a5 len5 cap5)) := (HB4.out.2.grown HQ.out.2.1 (by simp [Value.ownBlock])).trans hb6
          refine ⟨_, rs.drop 64, comp hs (rs.take 64), HD2.out.symm, by have := HD2.out; omega, hk6, ?_, hne6, H8.comp _ _, ?_, HG.out.2.2.2.2.2.1.trans (hb7.mono fun j hj => .inl hj), fun j hj => .inr (by have := hv6 j hj; omega)⟩
          · have := hb6.own HQ.out.1 (fun j hj e => hne6 (by rw [hj, e]))
            simpa using this
          · rw [← HFE.out, HG.out.2.2.2.2.2.2.2]
    · obtain ⟨a3, cap3, rfl, -, -, -, -⟩ := hown.form
      have e8 := hblk.cell 8 (hashC_rest hs _ n2 hh.len)
      have hfe2 := feed_short hs rs (by omega)
      have hE : IsHash wr base hb (.slice a3 rs.length cap3) (feed h (rest ++ m)).1 (feed h (rest ++ m)).2 n2 := by
        rw [← hfe, hfe2]; exact ⟨hblk, hown, hne, HLE.out.2.2.1, hh⟩
      have HE := Lib.hid (And.intro hE (And.intro hbut hv))
      clear hblk hown hne hh hfe hbut hv hfe2 hE
      go_wp2
      go_end0
      exact ⟨rfl, _, HE.out.1, HE.out.2.1, HE.out.2.2⟩
end Go.Proofs.YtkabkehfckbhcaaDoor

namespace Go.Proofs.YtkabkehfckbhcaaDoor
set_option linter.unusedVariables false
set_option linter.unusedSimpArgs false
open Go.RowKit

theorem new_any (w : World) : Calls Tryd.prog 45 #[] w fun e w' => e = .returned (.pointer (some ⟨w.heap.size, 0, none⟩)) ∧ w' = w.alloc (.cells (hashC h8 (.slice none 0 0) 0) 135) := by
  go_enter Tryd.func45, Tryd.ntmps45
  go_wp2
  go_ret
  exact ⟨rfl, rfl⟩

theorem zeros_last (n j : Nat) (hj : j ≤ zeros n) : (n + 1 + j) % 64 = 56 ↔ j = zeros n := by unfold zeros at *; omega
theorem zeros_lt (n : Nat) : zeros n < 64 := Nat.mod_lt _ (by decide)
theorem be8_take (N j : Nat) (hj : j < 8) : (be8 N).take (j + 1) = (be8 N).take j ++ [N / 2 ^ (56 - 8 * j) % 256] := by
  rw [List.take_succ_eq_append_getElem (by simp [be8]; omega)]
  simp [be8]
theorem be8_length (N : Nat) : (be8 N).length = 8 := by simp [be8]
/-- The bytes of a digest, j of the thirty-two laid. -/
def orow (D : List Nat) (j : Nat) : List Nat := (List.range 32).map fun i => if i < j then D.getD i 0 else 0
theorem orow_length (D : List Nat) (j : Nat) : (orow D j).length = 32 := by simp [orow]
theorem orow_end (D : List Nat) (h : D.length = 32) : orow D 32 = D := by
  apply List.ext_getElem?; intro i
  by_cases hi : i < 32
  · simp [orow, hi, List.getD, List.getElem?_eq_getElem (show i < D.length by omega)]
  · rw [List.getElem?_eq_none (by rw [orow_length]; omega), List.getElem?_eq_none (by omega)]
theorem orow_get (D : List Nat) (j i : Nat) (h : i < 32) : (orow D j).getD i 0 = if i < j then D.getD i 0 else 0 := by simp [orow, List.getD, h]
theorem orow_set (D : List Nat) (j : Nat) (hj : j < 32) : (orow D j).set j (D.getD j 0) = orow D (j + 1) := by
  apply List.ext_getElem?; intro i
  rw [List.getElem?_set]
  by_cases hi : i < 32
  · by_cases he : j = i
    · subst he; simp [orow, hi]
    · rw [if_neg he]
      simp [orow, hi]
      have : (i < j + 1) ↔ (i < j) := by omega
      simp [this]
  · rw [List.getElem?_eq_none (by rw [orow_length]; omega), if_neg (by omega), List.getElem?_eq_none (by rw [orow_length]; omega)]
theorem zero_32' (w : World) : (zeroValue 23).run Tryd.prog w = .ok (.agg (nv .u8 (List.replicate 32 0))) w := by kernel_rfl
theorem zero_32 (D : List Nat) (w : World) : (zeroValue 23).run Tryd.prog w = .ok (.agg (nv .u8 (orow D 0))) w := by
  have e : orow D 0 = List.replicate 32 0 := by
    have e : ∀ n : Nat, ((List.range n).map fun i => if i < 0 then D.getD i 0 else 0) = List.replicate n 0 := by
      intro n
      apply List.ext_getElem?; intro i
      by_cases h : i < n <;> simp [List.getElem?_replicate, h]
    exact e 32
  rw [e]
  exact zero_32' w
theorem outOf_get (h : List Nat) (i : Nat) (hi : i < 32) : (outOf h).getD i 0 = h.getD (i / 4) 0 / 2 ^ (24 - 8 * (i % 4)) % 256 := by simp [outOf, List.getD, hi]

/-- One byte in a block of its own. -/
theorem one_byte (w : World) (c : Nat) (hc : c < 256) : IsBytes (w.alloc (.cells #[.int .u8 (c : Int)] 5)) (some ⟨w.heap.size, 0, none⟩) [c] :=
  ⟨by simpa using hc, .inr ⟨_, 0, rfl, fun i hi => by
    have hi0 : i = 0 := by simpa using hi
    subst hi0
    exact (IsBlk.new w #[.int .u8 (c : Int)] 5).cell 0 rfl⟩⟩
theorem run_index_ints {P : Program} {t e : TypeId} {n : Nat} {k : IntKind} (ht : P.underlying t = some (.array n e)) (he : P.underlying e = some (.int k)) (hs : ∀ w, (sizeOf e).run P w = .ok 1 w) (l : List Nat) (hl : l.length = n) (i : Nat) (hi : i < n) (w : World) :
    (Instr.index t (.agg (nv k l)) (.int .i64 (i : Int))).run P w = .ok (.int k ((l.getD i 0 : Nat) : Int)) w := by
  unfold Instr.index
  simp only [asIntOf, Sem.run_bind, Sem.run_pure, Result.andThen_ok, run_underlying ht]
  rw [if_pos ⟨by omega, by omega⟩]
  simp only [Sem.run_bind, hs, Result.andThen_ok]
  exact run_part_int he _ _ _ (by rw [Int.toNat_natCast, Nat.mul_one]; exact nv_get k l i (by omega)) w
theorem hashC_range {w : World} {hb : Nat} {h : List Nat} {v : Value} {n : Nat} (hk : IsBlk w hb (hashC h v n) 135) (hh : h.length = 8) : w.rangeAt hb 0 (nv .u32 h).toList := by
  intro j x hj
  rw [Nat.zero_add]
  have hj8 : j < h.length := by have := (List.getElem?_eq_some_iff.1 hj).1; simpa [nv_size] using this
  refine hk.cell j ?_
  rw [hashC_get h v n j hj8]
  rw [Array.getElem?_toList, nv_get .u32 h j hj8] at hj
  exact hj
theorem not_hashS {hb k : Nat} (h : k ≠ hb) : ¬ HashS hb (.slice none 0 0) k := by
  rintro (e | e)
  · exact h e
  · simp [Value.ownBlock] at e
theorem hashS_is {hb k : Nat} (h : HashS hb (.slice none 0 0) k) : k = hb := by
  rcases h with e | e
  · exact e
  · simp [Value.ownBlock] at e
theorem u8w (x : Nat) : IntKind.u8.wrap (x : Int) = ((x % 256 : Nat) : Int) := by rw [IntKind.wrap_u8]; omega

/-- What Sum adds behind the bytes that wait. -/
def tailOf (r n : Nat) : List Nat := 128 :: List.replicate (zeros r) 0 ++ be8 n

set_option maxRecDepth 100000 in
set_option maxHeartbeats 4000000 in
theorem sumH_any (w : World) (base hb : Nat) (v : Value) (h rest : List Nat) (n : Nat) (hi : IsHash w base hb v h rest n) (hr : rest.length < 64) (hn : n < 18446744073709551616) (hbase : base ≤ w.heap.size) (D : List Nat) (hD : D = outOf (feed h (rest ++ tailOf rest.length (n * 8 % 18446744073709551616))).1) :
    Calls Tryd.prog 47 #[.pointer (some ⟨hb, 0, none⟩)] w fun e w' => e = .returned (.agg (nv .u8 D)) ∧ Below w.heap.size w w' := by
  obtain ⟨hblk, hown, hne, hfb, hh⟩ := hi
  have e8 := hblk.cell 8 (hashC_rest h v n hh.len)
  have e9 := hblk.cell 9 (hashC_n h v n hh.len)
  have hlt := hblk.lt
  obtain ⟨h0, h1, h2, h3, h4, h5, h6, h7, rfl⟩ := list8 h hh.len
  have hc0 := hblk.cell 0 (v := .int .u32 h0) rfl
  have hc1 := hblk.cell 1 (v := .int .u32 h1) rfl
  have hc2 := hblk.cell 2 (v := .int .u32 h2) rfl
  have hc3 := hblk.cell 3 (v := .int .u32 h3) rfl
  have hc4 := hblk.cell 4 (v := .int .u32 h4) rfl
  have hc5 := hblk.cell 5 (v := .int .u32 h5) rfl
  have hc6 := hblk.cell 6 (v := .int .u32 h6) rfl
  have hc7 := hblk.cell 7 (v := .int .u32 h7) rfl
  obtain ⟨sa, scap, rfl, hbs, -, -, -⟩ := hown.form
  have HO := Lib.hid (And.intro hown.capz (And.intro hbs (And.intro hh hD)))
  have hz := zero_32 D
  have f8 : ∀ X Y Z, (((w.alloc X).alloc Y).alloc Z).cell? ⟨hb, 8, none⟩ = some (Value.slice sa rest.length scap) := fun X Y Z => by
    rw [World.cell?_alloc_lt _ _ _ (by simp; omega), World.cell?_alloc_lt _ _ _ (by simp; omega), World.cell?_alloc_lt _ _ _ (by omega)]; exact e8
  clear e8
  clear hown hblk hne hfb hh hbs hD
  go_enter Tryd.func47, Tryd.ntmps47
  go_wp2_with (first
    | (at_builtin; refine wpList_app rfl (.const (.slice none 0 0)) (.tmp 20) rfl (w.heap.size + 3) (.slice none 0 0) [] rfl (Own.nil _ _) sa scap rest rfl (by exact IsBytes.alloc (IsBytes.alloc (IsBytes.alloc HO.out.2.1 _) _) _) HO.out.1 (by simp; omega) (by simp) ?_; intro v1 w2 ho2 hb2 hg2 hv2; simp only [Nat.zero_add, List.nil_append] at ho2; obtain ⟨a2, len2, cap2, rfl, hlen2⟩ := ho2.slice; have hs2 : w.heap.size + 3 ≤ w2.heap.size := (by have := hb2.size; simpa using this); have HQ := Lib.hid (And.intro ho2 hb2); clear ho2 hb2 hg2 hv2)
    | (at_builtin; refine wpList_app rfl (.tmp 21) (.tmp 22) rfl (w.heap.size + 3) (.slice a2 len2 cap2) rest rfl (HQ.out.1.alloc _) (some ⟨w2.heap.size, 0, none⟩) 1 [128] rfl (by exact one_byte w2 128 (by decide)) (by simp) (by simp; omega) (by simp; omega) ?_; intro v3 w3 ho3 hb3 hg3 hv3; obtain ⟨a3, len3, cap3, rfl, hlen3⟩ := ho3.slice; have HR := Lib.hid (And.intro ho3 hb3); clear ho3 hb3 hg3 hv3))
  have hB : Below (w.heap.size + 3) (((w.alloc (.cells (nv .u8 (orow D 0)) 23)).alloc (.cells (nv .u8 (orow D 0)) 23)).alloc (.cells #[.int .u32 h0, .int .u32 h1, .int .u32 h2, .int .u32 h3, .int .u32 h4, .int .u32 h5, .int .u32 h6, .int .u32 h7, .slice none 0 0, .int .u64 0] 135)) w3 :=
    HQ.out.2.trans (((Below.refl _ _).alloc hs2 _).trans HR.out.2)
  have kR : IsBlk (((w.alloc (.cells (nv .u8 (orow D 0)) 23)).alloc (.cells (nv .u8 (orow D 0)) 23)).alloc (.cells #[.int .u32 h0, .int .u32 h1, .int .u32 h2, .int .u32 h3, .int .u32 h4, .int .u32 h5, .int .u32 h6, .int .u32 h7, .slice none 0 0, .int .u64 0] 135)) w.heap.size (nv .u8 (orow D 0)) 23 :=
    ((IsBlk.new w _ _).alloc _).alloc _
  have kO : IsBlk (((w.alloc (.cells (nv .u8 (orow D 0)) 23)).alloc (.cells (nv .u8 (orow D 0)) 23)).alloc (.cells #[.int .u32 h0, .int .u32 h1, .int .u32 h2, .int .u32 h3, .int .u32 h4, .int .u32 h5, .int .u32 h6, .int .u32 h7, .slice none 0 0, .int .u64 0] 135)) (w.heap.size + 1) (nv .u8 (orow D 0)) 23 := by
    have := (IsBlk.new (w.alloc (.cells (nv .u8 (orow D 0)) 23)) (nv .u8 (orow D 0)) 23).alloc (.cells #[.int .u32 h0, .int .u32 h1, .int .u32 h2, .int .u32 h3, .int .u32 h4, .int .u32 h5, .int .u32 h6, .int .u32 h7, .slice none 0 0, .int .u64 0] 135)
    rwa [World.size_alloc] at this
  have kT : IsBlk (((w.alloc (.cells (nv .u8 (orow D 0)) 23)).alloc (.cells (nv .u8 (orow D 0)) 23)).alloc (.cells #[.int .u32 h0, .int .u32 h1, .int .u32 h2, .int .u32 h3, .int .u32 h4, .int .u32 h5, .int .u32 h6, .int .u32 h7, .slice none 0 0, .int .u64 0] 135)) (w.heap.size + 1 + 1) (hashC [h0, h1, h2, h3, h4, h5, h6, h7] (.slice none 0 0) 0) 135 := by
    have := IsBlk.new ((w.alloc (.cells (nv .u8 (orow D 0)) 23)).alloc (.cells (nv .u8 (orow D 0)) 23)) (hashC [h0, h1, h2, h3, h4, h5, h6, h7] (.slice none 0 0) 0) 135
    rw [World.size_alloc, World.size_alloc] at this
    exact this
  have kW : Below w.heap.size w (((w.alloc (.cells (nv .u8 (orow D 0)) 23)).alloc (.cells (nv .u8 (orow D 0)) 23)).alloc (.cells #[.int .u32 h0, .int .u32 h1, .int .u32 h2, .int .u32 h3, .int .u32 h4, .int .u32 h5, .int .u32 h6, .int .u32 h7, .slice none 0 0, .int .u64 0] 135)) :=
    (((Below.refl _ _).alloc (Nat.le_refl _) _).alloc (by simp) _).alloc (by simp; omega) _
  have kS : (((w.alloc (.cells (nv .u8 (orow D 0)) 23)).alloc (.cells (nv .u8 (orow D 0)) 23)).alloc (.cells #[.int .u32 h0, .int .u32 h1, .int .u32 h2, .int .u32 h3, .int .u32 h4, .int .u32 h5, .int .u32 h6, .int .u32 h7, .slice none 0 0, .int .u64 0] 135)).heap.size = w.heap.size + 3 := by simp
  generalize (((w.alloc (.cells (nv .u8 (orow D 0)) 23)).alloc (.cells (nv .u8 (orow D 0)) 23)).alloc (.cells #[.int .u32 h0, .int .u32 h1, .int .u32 h2, .int .u32 h3, .int .u32 h4, .int .u32 h5, .int .u32 h6, .int .u32 h7, .slice none 0 0, .int .u64 0] 135)) = W at *
  have c9 := (kW.cell (p := ⟨hb, 9, none⟩) hlt).trans e9
  have hownS : Own w3 (w.heap.size + 3) (.slice a3 len3 cap3) (rest ++ [128]) := HR.out.1
  have HW := Lib.hid (And.intro hB (And.intro kR (And.intro kO (And.intro kT (And.intro kW (And.intro c9 (And.intro hownS kS)))))))
  clear hB kR kO kT kW c9 hownS HQ HR hlen2 hlen3 hs2 f8 e9 hc0 hc1 hc2 hc3 hc4 hc5 hc6 hc7 kS
  go_loopg [5] (zeros rest.length) (fun g s5 wr => ∃ j : Nat, g = zeros rest.length - j ∧ j ≤ zeros rest.length ∧ Own wr (w.heap.size + 3) s5 (rest ++ 128 :: List.replicate j 0) ∧ Below (w.heap.size + 3) W wr)
  case atStart => exact ⟨0, rfl, by omega, HW.out.2.2.2.2.2.2.1, HW.out.1⟩
  case round =>
    obtain ⟨j, hg, hj, hown, hbel⟩ := hrel
    have hz64 := zeros_lt rest.length
    obtain ⟨a4, cap4, rfl, -, -, -, -⟩ := hown.form
    have hL : (rest ++ 128 :: List.replicate j 0).length = rest.length + 1 + j := by simp; omega
    obtain ⟨L, hLe⟩ : ∃ L, L = (rest ++ 128 :: List.replicate j 0).length := ⟨_, rfl⟩
    rw [← hLe] at hown ⊢
    have hL2 : L = rest.length + 1 + j := by omega
    have hlast := zeros_last rest.length j hj
    have hbw : w.heap.size + 3 ≤ wr.heap.size := by have := hbel.size; have := HW.out.2.2.2.2.2.2.2; omega
    by_cases hje : j = zeros rest.length
    · have ht : (((L : Int) % 64) != 56) = false := by simp; omega
      subst hje
      obtain ⟨T, hT⟩ : ∃ T, T = rest ++ 128 :: List.replicate (zeros rest.length) 0 := ⟨_, rfl⟩
      obtain ⟨N, hN⟩ : ∃ N, N = n * 8 % 18446744073709551616 := ⟨_, rfl⟩
      rw [← hT] at hown hLe
      have hTL : T.length ≤ 200 := by omega
      have HO4 := Lib.hid (And.intro hown (And.intro hbel (And.intro hT (And.intro hN (And.intro hTL hLe)))))
      clear hown hbel hLe hL hL2 hlast hj hg hT hTL hbw
      have X : IntKind.u64.wrap ((n : Int) * 8) = (N : Int) := by rw [IntKind.wrap_u64]; omega
      have hN6 : N < 18446744073709551616 := by omega
      clear hN
      go_wp2
      go_loopg [5, 6] 8 (fun g s5 s6 wr => ∃ i : Int, s6 = .int .i64 i ∧ -1 ≤ i ∧ i ≤ 7 ∧ g = (i + 1).toNat ∧ Own wr (w.heap.size + 3) s5 (T ++ (be8 N).take (7 - i).toNat) ∧ Below (w.heap.size + 3) W wr)
      case atStart => exact ⟨7, rfl, by omega, by omega, rfl, by simpa using HO4.out.1, HO4.out.2.1⟩
      case round =>
        obtain ⟨i, rfl, hi1, hi2, hg, hown, hbel⟩ := hrel
        have hbw : w.heap.size + 3 ≤ wr.heap.size := by have := hbel.size; have := HW.out.2.2.2.2.2.2.2; omega
        obtain ⟨a5, cap5, rfl, -, -, -, -⟩ := hown.form
        obtain ⟨L2, hLe⟩ : ∃ L2, L2 = (T ++ (be8 N).take (7 - i).toNat).length := ⟨_, rfl⟩
        rw [← hLe] at hown ⊢
        have hLs : L2 ≤ 1000 := by rw [hLe]; simp [be8_length]; have := HO4.out.2.2.2.2.1; omega
        by_cases hi0 : 0 ≤ i
        · obtain ⟨q, rfl⟩ := Int.eq_ofNat_of_zero_le hi0
          have c9 := (hbel.cell (p := ⟨hb, 9, none⟩) (show hb < w.heap.size + 3 by omega)).trans HW.out.2.2.2.2.2.1
          obtain ⟨y, hy⟩ : ∃ y, y = N / 2 ^ (8 * q) % 256 := ⟨_, rfl⟩
          have hyv : (N : Int) / 2 ^ (8 * q) % 256 = (y : Int) := by rw [hy]; simp
          have hy256 : y < 256 := by omega
          have hq : (7 - (q : Int)).toNat = 7 - q := by omega
          have hnew : T ++ (be8 N).take (7 - ((q : Int) - 1)).toNat = (T ++ (be8 N).take (7 - (q : Int)).toNat) ++ [y] := by
            have e1 : (7 - ((q : Int) - 1)).toNat = (7 - q) + 1 := by omega
            rw [e1, hq, be8_take N (7 - q) (by omega), hy, show 56 - 8 * (7 - q) = 8 * q by omega, List.append_assoc]
          have HO5 := Lib.hid (And.intro hown (And.intro hbel (And.intro hLe (And.intro hg hnew))))
          clear hown hbel hLe hg hnew hy hq
          go_wp2_with (at_builtin; refine wpList_app rfl (.tmp 35) (.tmp 45) rfl (w.heap.size + 3) (.slice a5 L2 cap5) (T ++ (be8 N).take (7 - (q : Int)).toNat) rfl (HO5.out.1.alloc _) (some ⟨wr.heap.size, 0, none⟩) 1 [y] rfl (by exact one_byte wr y hy256) (by simp) (by have := HO5.out.2.2.1; simp only [List.length_singleton]; omega) (by simp; omega) ?_; intro v5 w5 ho5 hb5 hg5 hv5; have HR5 := Lib.hid (And.intro ho5 hb5); clear ho5 hb5 hg5 hv5)
          go_roundg q
          case measure => have := HO5.out.2.2.2.1; omega
          case rel => exact ⟨(q : Int) - 1, rfl, by omega, by omega, by omega, by rw [HO5.out.2.2.2.2]; exact HR5.out.1, HO5.out.2.1.trans (((Below.refl _ _).alloc hbw _).trans HR5.out.2)⟩
        · obtain rfl : i = -1 := by omega
          have htk : (be8 N).take (7 - (-1 : Int)).toNat = be8 N := List.take_of_length_le (by rw [be8_length]; decide)
          rw [htk] at hown hLe
          obtain ⟨a6, cap6, he6, hbs6, -, -, hb6⟩ := hown.form
          injection he6 with he1 he2 he3
          subst he1
          subst he3
          clear he2
          have kT2 : IsBlk wr (w.heap.size + 1 + 1) (hashC [h0, h1, h2, h3, h4, h5, h6, h7] (.slice none 0 0) 0) 135 := HW.out.2.2.2.1.below hbel (by omega)
          have hHash : IsHash wr (w.heap.size + 1 + 1) (w.heap.size + 1 + 1) (.slice none 0 0) [h0, h1, h2, h3, h4, h5, h6, h7] [] 0 := ⟨kT2, Own.nil _ _, by simp [Value.ownBlock], Nat.le_refl _, HO.out.2.2.1⟩
          have kR2 := HW.out.2.1.below hbel (by omega)
          have kO2 := HW.out.2.2.1.below hbel (by omega)
          have hWr : Below w.heap.size w wr := HW.out.2.2.2.2.1.trans (hbel.mono (by omega))
          have HO5 := Lib.hid (And.intro hbs6 (And.intro hown.capz (And.intro hHash (And.intro kR2 (And.intro kO2 hWr)))))
          have HLe := Lib.hid hLe
          have HSep : Hid (∀ x, a5 = some x → T ++ be8 N ≠ [] → x.block ≠ w.heap.size + 1 + 1) := fun x hx _ => by have := (hb6 x hx).1; omega
          clear hown hbel hLe hbs6 hb6 kT2 hHash kR2 kO2 hWr htk hg
          go_wp2_with fail
          refine (shaWrite_any wr (w.heap.size + 1 + 1) (w.heap.size + 1 + 1) (.slice none 0 0) [h0, h1, h2, h3, h4, h5, h6, h7] [] 0 a5 L2 cap5 (T ++ be8 N) HO5.out.2.2.1 HLe.out HO5.out.1 HO5.out.2.1 (by simp; omega) (by decide) (by omega) HSep.out).mono ?_
          rintro e w4 ⟨rfl, v4, hh4, hb4, -⟩
          have hD2 : D = outOf (feed [h0, h1, h2, h3, h4, h5, h6, h7] ([] ++ (T ++ be8 N))).1 := by
            rw [HO.out.2.2.2, HO4.out.2.2.1, HO4.out.2.2.2.1]; simp [tailOf]
          generalize (feed [h0, h1, h2, h3, h4, h5, h6, h7] ([] ++ (T ++ be8 N))).1 = S at *
          have hrow := hashC_range hh4.blk hh4.h8.len
          have hidx := fun i (hi : i < 8) (w : World) => run_index_ints (P := Tryd.prog) (t := 133) (e := 92) (n := 8) (k := .u32) (by kernel_rfl) (by kernel_rfl) (fun w => by kernel_rfl) S hh4.h8.len i hi w
          have hSl := hh4.h8.lt
          have hS8 := hh4.h8.len
          have kR4 := hb4.blk HO5.out.2.2.2.1 (not_hashS (by omega))
          have kO4 := hb4.blk HO5.out.2.2.2.2.1 (not_hashS (by omega))
          have hB4 : Below w.heap.size w w4 := HO5.out.2.2.2.2.2.trans ((hb4.below (B := w.heap.size) (by omega) (by intro k hk; have := hashS_is hk; omega)))
          have H4 := Lib.hid (And.intro hrow (And.intro hidx (And.intro hSl (And.intro kR4 (And.intro kO4 (And.intro hB4 (And.intro hD2 hS8)))))))
          clear hrow hidx hSl kR4 kO4 hB4 hD2 hh4 hb4 hS8
          go_wp2_with (refine wpList_load_mid (by rfl) 133 (.tmp 49) (by rfl) (w.heap.size + 1 + 1) 0 (by rfl) (nv .u32 S).toList (.array 8 92) H4.out.1 (by kernel_rfl) (by rfl) (by rw [Array.length_toList, nv_size, H4.out.2.2.2.2.2.2.2]; kernel_rfl) ?_)
          go_loopg [51] 8 (fun g s51 wr => ∃ k : Nat, g = 8 - k ∧ k ≤ 8 ∧ s51 = .int .i64 k ∧ IsBlk wr (w.heap.size + 1) (nv .u8 (orow D (4 * k))) 23 ∧ IsBlk wr w.heap.size (nv .u8 (orow D 0)) 23 ∧ Below w.heap.size w wr)
          case atStart => exact ⟨0, rfl, by omega, rfl, H4.out.2.2.2.2.1, H4.out.2.2.2.1, H4.out.2.2.2.2.2.1⟩
          case round =>
            obtain ⟨k, hg, hk8, rfl, hblk, hkr, hbel⟩ := hrel
            by_cases hlt : k < 8
            · have hx := H4.out.2.2.1 k
              have hix := H4.out.2.1 k hlt
              have c0 := hblk.cell (4 * k) (nv_get .u8 _ (4 * k) (by rw [orow_length]; omega))
              have c1 := hblk.cell (4 * k + 1) (nv_get .u8 _ (4 * k + 1) (by rw [orow_length]; omega))
              have c2 := hblk.cell (4 * k + 2) (nv_get .u8 _ (4 * k + 2) (by rw [orow_length]; omega))
              have c3 := hblk.cell (4 * k + 3) (nv_get .u8 _ (4 * k + 3) (by rw [orow_length]; omega))
              have hfz := hblk.fz
              have HE := Lib.hid (And.intro hblk (And.intro hkr (And.intro hbel hg)))
              clear hblk hkr hbel hg
              have hDS := H4.out.2.2.2.2.2.2.1
              have d0 : D.getD (4 * k) 0 = S.getD k 0 / 16777216 % 256 := by rw [hDS, outOf_get _ _ (by omega), show 4 * k / 4 = k by omega, show 4 * k % 4 = 0 by omega]
              have d1 : D.getD (4 * k + 1) 0 = S.getD k 0 / 65536 % 256 := by rw [hDS, outOf_get _ _ (by omega), show (4 * k + 1) / 4 = k by omega, show (4 * k + 1) % 4 = 1 by omega]
              have d2 : D.getD (4 * k + 2) 0 = S.getD k 0 / 256 % 256 := by rw [hDS, outOf_get _ _ (by omega), show (4 * k + 2) / 4 = k by omega, show (4 * k + 2) % 4 = 2 by omega]
              have d3 : D.getD (4 * k + 3) 0 = S.getD k 0 % 256 := by rw [hDS, outOf_get _ _ (by omega), show (4 * k + 3) / 4 = k by omega, show (4 * k + 3) % 4 = 3 by omega]; simp
              have HDS := Lib.hid (And.intro d0 (And.intro d1 (And.intro d2 d3)))
              clear hDS d0 d1 d2 d3
              generalize S.getD k 0 = x at *
              go_wp2_with fail
              go_roundg (8 - (k + 1))
              case measure => have := HE.out.2.2.2; omega
              case rel =>
                have hs := (((HE.out.1.set (4 * k) (.int .u8 (D.getD (4 * k) 0 : Nat))).set (4 * k + 1) (.int .u8 (D.getD (4 * k + 1) 0 : Nat))).set (4 * k + 2) (.int .u8 (D.getD (4 * k + 2) 0 : Nat))).set (4 * k + 3) (.int .u8 (D.getD (4 * k + 3) 0 : Nat))
                rw [nv_set, nv_set, nv_set, nv_set, orow_set _ _ (by omega), orow_set _ _ (by omega), orow_set _ _ (by omega), orow_set _ _ (by omega)] at hs
                have v0 : (x : Int) / 16777216 = ((D.getD (4 * k) 0 : Nat) : Int) := by rw [HDS.out.1]; omega
                have v1 : (x : Int) / 65536 % 256 = ((D.getD (4 * k + 1) 0 : Nat) : Int) := by rw [HDS.out.2.1]; omega
                have v2 : (x : Int) / 256 % 256 = ((D.getD (4 * k + 2) 0 : Nat) : Int) := by rw [HDS.out.2.2.1]; omega
                have v3 : (x : Int) % 256 = ((D.getD (4 * k + 3) 0 : Nat) : Int) := by rw [HDS.out.2.2.2]; omega
                rw [v0, v1, v2, v3]
                exact ⟨k + 1, rfl, by omega, by go_num, hs, (((HE.out.2.1.setOther ⟨w.heap.size + 1, 4 * k, none⟩ _ (by simp)).setOther ⟨w.heap.size + 1, 4 * k + 1, none⟩ _ (by simp)).setOther ⟨w.heap.size + 1, 4 * k + 2, none⟩ _ (by simp)).setOther ⟨w.heap.size + 1, 4 * k + 3, none⟩ _ (by simp),
                  (((HE.out.2.2.1.setCell (p := ⟨w.heap.size + 1, 4 * k, none⟩) (by simp) _).setCell (p := ⟨w.heap.size + 1, 4 * k + 1, none⟩) (by simp) _).setCell (p := ⟨w.heap.size + 1, 4 * k + 2, none⟩) (by simp) _).setCell (p := ⟨w.heap.size + 1, 4 * k + 3, none⟩) (by simp) _⟩
            · obtain rfl : k = 8 := by omega
              have hD32 : D.length = 32 := by rw [H4.out.2.2.2.2.2.2.1]; simp [outOf]
              have ho32 : orow D (4 * 8) = D := orow_end D hD32
              rw [ho32] at hblk
              have HE := Lib.hid (And.intro hblk (And.intro hkr (And.intro hbel hD32)))
              clear hblk hkr hbel hg ho32 hD32
              go_wp2_with (first
                | (refine wpList_load_row (by rfl) 23 (.tmp 3) (by rfl) (w.heap.size + 1) (by rfl) 23 (nv .u8 D) (0, 0) (.array 32 5) HE.out.1 (by kernel_rfl) rfl (by rw [nv_size, HE.out.2.2.2]; kernel_rfl) ?_)
                | (refine wpList_store_row (by rfl) 23 (.tmp 2) (.tmp 82) (by rfl) w.heap.size (nv .u8 D) (by rfl) (by rfl) 23 (nv .u8 (orow D 0)) HE.out.2.1 (by rw [nv_size, HE.out.2.2.2]; kernel_rfl) (by rw [nv_size, nv_size, orow_length, HE.out.2.2.2]) (nv_one _ _) ?_))
              refine bodyPost_ret (v := .agg (nv .u8 D)) (results_cell_row Tryd.results47 _ _ w.heap.size 23 (nv .u8 D) (0, 0) (.array 32 5) (by rfl) ?_ (by kernel_rfl) rfl (by rw [nv_size, HE.out.2.2.2]; kernel_rfl)) rfl ⟨rfl, ?_⟩
              · exact isBlk_setRow HE.out.2.1 _
              · exact below_setRow HE.out.2.2.1 _ (Nat.le_refl _) _
    · have ht : (((L : Int) % 64) != 56) = true := by simp; omega
      have hLs : L ≤ 1000 := by omega
      have HO4 := Lib.hid (And.intro hown (And.intro hbel (And.intro hLe (And.intro hj (And.intro hg hje)))))
      clear hown hbel hLe hL hL2 hlast hg hj hje
      go_wp2_with (at_builtin; refine wpList_app rfl (.tmp 28) (.tmp 29) rfl (w.heap.size + 3) (.slice a4 L cap4) (rest ++ 128 :: List.replicate j 0) rfl (HO4.out.1.alloc _) (some ⟨wr.heap.size, 0, none⟩) 1 [0] rfl (by exact one_byte wr 0 (by decide)) (by simp) (by have := HO4.out.2.2.1; simp only [List.length_singleton]; omega) (by simp; omega) ?_; intro v5 w5 ho5 hb5 hg5 hv5; have HR5 := Lib.hid (And.intro ho5 hb5); clear ho5 hb5 hg5 hv5)
      go_roundg (zeros rest.length - (j + 1))
      case measure => have := HO4.out.2.2.2; omega
      case rel =>
        refine ⟨j + 1, rfl, by have := HO4.out.2.2.2; omega, ?_, HO4.out.2.1.trans (((Below.refl _ _).alloc hbw _).trans HR5.out.2)⟩
        have := HR5.out.1
        rw [List.append_assoc, List.cons_append, ← List.replicate_succ'] at this
        exact this
end Go.Proofs.YtkabkehfckbhcaaDoor

namespace Go.Proofs.YtkabkehfckbhcaaDoor
set_option linter.unusedVariables false
set_option linter.unusedSimpArgs false
open Go.RowKit

theorem feed_mod (h l : List Nat) : (feed h l).2.length = l.length % 64 := by
  induction hn : l.length using Nat.strongRecOn generalizing h l with
  | _ n ih =>
    by_cases hl : 64 ≤ l.length
    · rw [feed_long h l hl, ih (l.drop 64).length (by simp; omega) _ _ rfl, List.length_drop]
      omega
    · rw [feed_short h l (by omega)]
      show l.length = n % 64
      omega
theorem zeros_mod (n m : Nat) (h : n % 64 = m % 64) : zeros n = zeros m := by unfold zeros; rw [h]
theorem tail_pad (l : List Nat) : tailOf (feed h8 l).2.length (l.length % 18446744073709551616 * 8 % 18446744073709551616) = pad l.length := by
  unfold tailOf pad
  rw [zeros_mod _ l.length (by rw [feed_mod]; omega), show l.length % 18446744073709551616 * 8 % 18446744073709551616 = l.length * 8 % 18446744073709551616 by omega]
theorem digest_feed (l : List Nat) : digest l = outOf (feed (feed h8 l).1 ((feed h8 l).2 ++ tailOf (feed h8 l).2.length (l.length % 18446744073709551616 * 8 % 18446744073709551616))).1 := by
  rw [tail_pad, ← feed_append]; rfl

/-- A hash to which the bytes l were written. -/
def IsSum (w : World) (base hb : Nat) (v : Value) (l : List Nat) : Prop := IsHash w base hb v (feed h8 l).1 (feed h8 l).2 (l.length % 18446744073709551616)
theorem IsSum.but {w w' : World} {base hb : Nat} {v : Value} {l : List Nat} {S : Nat → Prop} (hi : IsSum w base hb v l) (hb' : But S w w') (h1 : ¬ S hb) (h2 : ∀ k, v.ownBlock = some k → ¬ S k) : IsSum w' base hb v l := IsHash.but hi hb' h1 h2
theorem IsSum.below {w w' : World} {base hb : Nat} {v : Value} {l : List Nat} (hi : IsSum w base hb v l) (h : Below w.heap.size w w') : IsSum w' base hb v l :=
  hi.but (S := fun _ => False) ⟨h.os, h.tape, h.output, h.size, fun k hk _ => h.block k hk⟩ (fun e => e) (fun _ _ e => e)
theorem isSum_new (w : World) : IsSum (w.alloc (.cells (hashC h8 (.slice none 0 0) 0) 135)) w.heap.size w.heap.size (.slice none 0 0) [] := by
  have e : feed h8 [] = (h8, []) := feed_short _ _ (by decide)
  unfold IsSum
  rw [e]
  exact ⟨IsBlk.new w _ _, Own.nil _ _, by simp [Value.ownBlock], Nat.le_refl _, H8.start⟩
theorem newS (w : World) : Calls Tryd.prog 45 #[] w fun e w' => e = .returned (.pointer (some ⟨w.heap.size, 0, none⟩)) ∧ Below w.heap.size w w' ∧ w.heap.size < w'.heap.size ∧ IsSum w' w.heap.size w.heap.size (.slice none 0 0) [] :=
  (new_any w).mono fun _ _ ⟨he, hw⟩ => ⟨he, by subst hw; exact ⟨(Below.refl _ _).alloc (Nat.le_refl _) _, by simp, isSum_new w⟩⟩
theorem writeS {w : World} {base hb : Nat} {v : Value} {l : List Nat} {A : Option Addr} {k c : Nat} {m : List Nat} (hi : IsSum w base hb v l) (hL : k = m.length) (hm : IsBytes w A m) (hc0 : A = none → c = 0) (hlen : k ≤ 140737488355000) (hbase : base ≤ w.heap.size)
    (hsep : ∀ x, A = some x → m ≠ [] → x.block ≠ hb) :
    Calls Tryd.prog 46 #[.pointer (some ⟨hb, 0, none⟩), .slice A k c] w fun e w' => e = .returned (.tuple #[]) ∧ ∃ v', IsSum w' base hb v' (l ++ m) ∧ But (HashS hb v) w w' ∧ (∀ j, v'.ownBlock = some j → v.ownBlock = some j ∨ w.heap.size ≤ j) := by
  refine (shaWrite_any w base hb v _ _ _ A k c m hi (Lib.hid hL) hm hc0 (by have := feed_rest h8 l; omega) (Nat.mod_lt _ (by decide)) hbase hsep).mono ?_
  rintro e w' ⟨he, v', h1, h2, h3⟩
  refine ⟨he, v', ?_, h2, h3⟩
  rw [← feed_append] at h1
  unfold IsSum
  have e2 : (l ++ m).length % 18446744073709551616 = (l.length % 18446744073709551616 + k) % 18446744073709551616 := by rw [List.length_append, hL]; omega
  rw [e2]
  exact h1
theorem sumS {w : World} {base hb : Nat} {v : Value} {l : List Nat} (hi : IsSum w base hb v l) (hbase : base ≤ w.heap.size) :
    Calls Tryd.prog 47 #[.pointer (some ⟨hb, 0, none⟩)] w fun e w' => e = .returned (.agg (nv .u8 (digest l))) ∧ Below w.heap.size w w' :=
  sumH_any w base hb v _ _ _ hi (feed_rest _ _) (Nat.mod_lt _ (by decide)) hbase _ (digest_feed l)

theorem writeNone (w : World) (x : Value) : Calls Tryd.prog 46 #[.pointer none, x] w fun e w' => e = .returned (.tuple #[]) ∧ w = w' := by
  go_enter Tryd.func46, Tryd.ntmps46
  go_wp2
  refine bodyPost_ret (results_none rfl _ _ _) rfl ?_
  exact ⟨rfl, rfl⟩

theorem nv_zeros (k : IntKind) (n : Nat) : (nv k (List.replicate n 0)).size = n := by rw [nv_size, List.length_replicate]
set_option maxRecDepth 100000 in
set_option maxHeartbeats 2000000 in
theorem sumNone (w : World) (D : List Nat) (hD : D = List.replicate 32 0) : Calls Tryd.prog 47 #[.pointer none] w fun e w' => e = .returned (.agg (nv .u8 D)) ∧ Below w.heap.size w w' := by
  have hz : ∀ w : World, (zeroValue 23).run Tryd.prog w = .ok (.agg (nv .u8 D)) w := fun w => by rw [hD]; exact zero_32' w
  have hl : (nv .u8 D).size = 32 := by rw [hD]; exact nv_zeros _ _
  have HL := Lib.hid hl
  clear hl hD
  go_enter Tryd.func47, Tryd.ntmps47
  have kO : IsBlk ((w.alloc (.cells (nv .u8 D) 23)).alloc (.cells (nv .u8 D) 23)) (w.heap.size + 1) (nv .u8 D) 23 := by
    have := IsBlk.new (w.alloc (.cells (nv .u8 D) 23)) (nv .u8 D) 23
    rwa [World.size_alloc] at this
  have kR : IsBlk ((w.alloc (.cells (nv .u8 D) 23)).alloc (.cells (nv .u8 D) 23)) w.heap.size (nv .u8 D) 23 := (IsBlk.new w _ _).alloc _
  have HE := Lib.hid (And.intro kO kR)
  clear kO kR
  go_wp2_with (first
    | (refine wpList_load_row (by rfl) 23 (.tmp 3) (by rfl) (w.heap.size + 1) (by rfl) 23 (nv .u8 D) (0, 0) (.array 32 5) HE.out.1 (by kernel_rfl) rfl (by rw [HL.out]; kernel_rfl) ?_)
    | (refine wpList_store_row (by rfl) 23 (.tmp 2) (.tmp 11) (by rfl) w.heap.size (nv .u8 D) (by rfl) (by rfl) 23 (nv .u8 D) HE.out.2 (by rw [HL.out]; kernel_rfl) rfl (nv_one _ _) ?_))
  refine bodyPost_ret (v := .agg (nv .u8 D)) (results_cell_row Tryd.results47 _ _ w.heap.size 23 (nv .u8 D) (0, 0) (.array 32 5) (by rfl) ?_ (by kernel_rfl) rfl (by rw [HL.out]; kernel_rfl)) rfl ⟨rfl, ?_⟩
  · exact isBlk_setRow HE.out.2 _
  · exact below_setRow (((Below.refl _ _).alloc (Nat.le_refl _) _).alloc (by simp) _) _ (Nat.le_refl _) _

end Go.Proofs.YtkabkehfckbhcaaDoor
