/-
  sha: the digest, in plain numbers.
-/
import Derived.KernelRfl
namespace Go.Proofs.Ytiakkjdkbpbejaa
set_option linter.unusedVariables false
set_option linter.unusedSimpArgs false

def m32 : Nat := 4294967296
/-- To the right, around. -/
def rot (x n : Nat) : Nat := (x / 2 ^ n + x * 2 ^ (32 - n)) % 4294967296
def sg0 (x : Nat) : Nat := rot x 7 ^^^ rot x 18 ^^^ (x / 8)
def sg1 (x : Nat) : Nat := rot x 17 ^^^ rot x 19 ^^^ (x / 1024)
def S0 (x : Nat) : Nat := rot x 2 ^^^ rot x 13 ^^^ rot x 22
def S1 (x : Nat) : Nat := rot x 6 ^^^ rot x 11 ^^^ rot x 25
def ch (e f g : Nat) : Nat := (e &&& f) ^^^ ((4294967295 - e) &&& g)
def mj (a b c : Nat) : Nat := (a &&& b) ^^^ (a &&& c) ^^^ (b &&& c)

def kw : List Nat := [
    0x428a2f98, 0x71374491, 0xb5c0fbcf, 0xe9b5dba5, 0x3956c25b, 0x59f111f1, 0x923f82a4, 0xab1c5ed5,
    0xd807aa98, 0x12835b01, 0x243185be, 0x550c7dc3, 0x72be5d74, 0x80deb1fe, 0x9bdc06a7, 0xc19bf174,
    0xe49b69c1, 0xefbe4786, 0x0fc19dc6, 0x240ca1cc, 0x2de92c6f, 0x4a7484aa, 0x5cb0a9dc, 0x76f988da,
    0x983e5152, 0xa831c66d, 0xb00327c8, 0xbf597fc7, 0xc6e00bf3, 0xd5a79147, 0x06ca6351, 0x14292967,
    0x27b70a85, 0x2e1b2138, 0x4d2c6dfc, 0x53380d13, 0x650a7354, 0x766a0abb, 0x81c2c92e, 0x92722c85,
    0xa2bfe8a1, 0xa81a664b, 0xc24b8b70, 0xc76c51a3, 0xd192e819, 0xd6990624, 0xf40e3585, 0x106aa070,
    0x19a4c116, 0x1e376c08, 0x2748774c, 0x34b0bcb5, 0x391c0cb3, 0x4ed8aa4a, 0x5b9cca4f, 0x682e6ff3,
    0x748f82ee, 0x78a5636f, 0x84c87814, 0x8cc70208, 0x90befffa, 0xa4506ceb, 0xbef9a3f7, 0xc67178f2]
def h8 : List Nat := [0x6a09e667, 0xbb67ae85, 0x3c6ef372, 0xa54ff53a, 0x510e527f, 0x9b05688c, 0x1f83d9ab, 0x5be0cd19]

/-- The i-th word of four bytes. -/
def word (p : List Nat) (i : Nat) : Nat := p.getD (4 * i) 0 * 16777216 + p.getD (4 * i + 1) 0 * 65536 + p.getD (4 * i + 2) 0 * 256 + p.getD (4 * i + 3) 0
/-- The first 16 + k words of a block's schedule. -/
def ws (p : List Nat) : Nat → List Nat
  | 0 => (List.range 16).map (word p)
  | k + 1 => ws p k ++ [((ws p k).getD k 0 + sg0 ((ws p k).getD (k + 1) 0) + (ws p k).getD (k + 9) 0 + sg1 ((ws p k).getD (k + 14) 0)) % 4294967296]

/-- The eight numbers under way. -/
structure St where
  a : Nat
  b : Nat
  c : Nat
  d : Nat
  e : Nat
  f : Nat
  g : Nat
  l : Nat
def tOf (s : St) (k w : Nat) : Nat := (s.l + S1 s.e + ch s.e s.f s.g + k + w) % 4294967296
def uOf (s : St) : Nat := (S0 s.a + mj s.a s.b s.c) % 4294967296
def step (s : St) (k w : Nat) : St := ⟨(tOf s k w + uOf s) % 4294967296, s.a, s.b, s.c, (s.d + tOf s k w) % 4294967296, s.e, s.f, s.g⟩
def toSt (h : List Nat) : St := ⟨h.getD 0 0, h.getD 1 0, h.getD 2 0, h.getD 3 0, h.getD 4 0, h.getD 5 0, h.getD 6 0, h.getD 7 0⟩
def ofSt (s : St) : List Nat := [s.a, s.b, s.c, s.d, s.e, s.f, s.g, s.l]
/-- The state behind i rounds over the words w. -/
def rounds (w : List Nat) (s : St) : Nat → St
  | 0 => s
  | i + 1 => step (rounds w s i) (kw.getD i 0) (w.getD i 0)
def addTo (h v : List Nat) : List Nat := (List.range 8).map fun i => (h.getD i 0 + v.getD i 0) % 4294967296
/-- A block of 64 bytes taken in. -/
def comp (h p : List Nat) : List Nat := addTo h (ofSt (rounds (ws p 48) (toSt h) 64))

/-- All whole blocks taken in; what is left. -/
def feed (h l : List Nat) : List Nat × List Nat :=
  if hl : 64 ≤ l.length then feed (comp h (l.take 64)) (l.drop 64) else (h, l)
termination_by l.length
decreasing_by simp; omega
theorem feed_short (h l : List Nat) (hl : l.length < 64) : feed h l = (h, l) := by
  rw [feed]; simp; omega
theorem feed_long (h l : List Nat) (hl : 64 ≤ l.length) : feed h l = feed (comp h (l.take 64)) (l.drop 64) := by
  rw [feed]; simp [hl]
theorem feed_rest (h l : List Nat) : (feed h l).2.length < 64 := by
  induction hn : l.length using Nat.strongRecOn generalizing h l with
  | _ n ih =>
    by_cases hl : 64 ≤ l.length
    · rw [feed_long h l hl]
      exact ih (l.drop 64).length (by simp; omega) _ _ rfl
    · rw [feed_short h l (by omega)]; simp; omega
theorem feed_append (h l m : List Nat) : feed h (l ++ m) = feed (feed h l).1 ((feed h l).2 ++ m) := by
  induction hn : l.length using Nat.strongRecOn generalizing h l with
  | _ n ih =>
    by_cases hl : 64 ≤ l.length
    · rw [feed_long h (l ++ m) (by simp; omega), feed_long h l hl, List.take_append_of_le_length hl, List.drop_append_of_le_length hl]
      exact ih (l.drop 64).length (by simp; omega) _ _ rfl
    · rw [feed_short h l (by omega)]

/-- How many zeros follow the first padding byte. -/
def zeros (n : Nat) : Nat := (119 - n % 64) % 64
def be8 (n : Nat) : List Nat := (List.range 8).map fun i => n / 2 ^ (56 - 8 * i) % 256
def pad (n : Nat) : List Nat := 128 :: List.replicate (zeros n) 0 ++ be8 (n * 8 % 18446744073709551616)
def outOf (h : List Nat) : List Nat := (List.range 32).map fun i => h.getD (i / 4) 0 / 2 ^ (24 - 8 * (i % 4)) % 256
def digest (l : List Nat) : List Nat := outOf (feed h8 (l ++ pad l.length)).1

theorem zeros_ok (n : Nat) : (n + 1 + zeros n) % 64 = 56 := by unfold zeros; omega
theorem pad_len (n : Nat) : (n + (pad n).length) % 64 = 0 := by
  have := zeros_ok n
  simp [pad, be8]; omega
theorem comp_abc : (feed h8 ([97, 98, 99] ++ pad 3)).1 = comp h8 ([97, 98, 99] ++ pad 3) := by
  have hl : ([97, 98, 99] ++ pad 3).length = 64 := by decide
  generalize [97, 98, 99] ++ pad 3 = l at *
  rw [feed_long _ _ (by omega), feed_short _ _ (by simp; omega), List.take_of_length_le (by omega)]
theorem abc_known : (outOf (comp h8 ([97, 98, 99] ++ pad 3))).getD 0 0 = 186 ∧ (outOf (comp h8 ([97, 98, 99] ++ pad 3))).getD 1 0 = 120 ∧ (outOf (comp h8 ([97, 98, 99] ++ pad 3))).getD 31 0 = 173 := ⟨by kernel_rfl, by kernel_rfl, by kernel_rfl⟩
theorem digest_abc : (digest [97, 98, 99]).getD 0 0 = 186 ∧ (digest [97, 98, 99]).getD 1 0 = 120 ∧ (digest [97, 98, 99]).getD 31 0 = 173 := by
  have e : digest [97, 98, 99] = outOf (comp h8 ([97, 98, 99] ++ pad 3)) := by
    unfold digest
    exact congrArg outOf comp_abc
  rw [e]
  exact abc_known
theorem digest_length (l : List Nat) : (digest l).length = 32 := by simp [digest, outOf]

theorem rot_lt (x n : Nat) : rot x n < 4294967296 := Nat.mod_lt _ (by decide)
theorem xor_lt {a b : Nat} (ha : a < 4294967296) (hb : b < 4294967296) : a ^^^ b < 4294967296 := Nat.xor_lt_two_pow (n := 32) ha hb
theorem and_lt {a b : Nat} (hb : b < 4294967296) : a &&& b < 4294967296 := Nat.and_lt_two_pow (n := 32) a hb
theorem sg0_lt {x : Nat} (hx : x < 4294967296) : sg0 x < 4294967296 := xor_lt (xor_lt (rot_lt _ _) (rot_lt _ _)) (by omega)
theorem sg1_lt {x : Nat} (hx : x < 4294967296) : sg1 x < 4294967296 := xor_lt (xor_lt (rot_lt _ _) (rot_lt _ _)) (by omega)
theorem S0_lt (x : Nat) : S0 x < 4294967296 := xor_lt (xor_lt (rot_lt _ _) (rot_lt _ _)) (rot_lt _ _)
theorem S1_lt (x : Nat) : S1 x < 4294967296 := xor_lt (xor_lt (rot_lt _ _) (rot_lt _ _)) (rot_lt _ _)
theorem ch_lt {e f g : Nat} (hf : f < 4294967296) (hg : g < 4294967296) : ch e f g < 4294967296 := xor_lt (and_lt hf) (and_lt hg)
theorem mj_lt {a b c : Nat} (hb : b < 4294967296) (hc : c < 4294967296) : mj a b c < 4294967296 := xor_lt (xor_lt (and_lt hb) (and_lt hc)) (and_lt hc)
theorem ws_length (p : List Nat) : ∀ k, (ws p k).length = 16 + k
  | 0 => by simp [ws]
  | k + 1 => by have := ws_length p k; simp [ws]; omega
/-- A word once laid stays. -/
theorem ws_get (p : List Nat) (i : Nat) : ∀ k m, k ≤ m → i < 16 + k → (ws p m).getD i 0 = (ws p k).getD i 0 := by
  intro k m
  induction m with
  | zero => intro hk hi; obtain rfl : k = 0 := by omega
            rfl
  | succ m ih =>
    intro hk hi
    by_cases he : k = m + 1
    · subst he; rfl
    · rw [← ih (by omega) hi]
      simp only [ws, List.getD]
      rw [List.getElem?_append_left (by rw [ws_length]; omega)]
end Go.Proofs.Ytiakkjdkbpbejaa
