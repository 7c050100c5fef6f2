/-
  CRC: plain law of bursts; no program in sight.
-/
import Derived.Test.YtjgmfbpdnjapkaaCrcPlain
namespace Go.Proofs.Ytjgmfbpdnjapkaa
set_option linter.unusedVariables false

/-- Bytes as one number, the lowest first. -/
def num : List Nat → Nat
  | [] => 0
  | c :: l => c + 256 * num l

theorem add_xor (c y : Nat) (hc : c < 256) : c + 256 * y = c ^^^ (y * 256) := by
  have h := split256 (c + 256 * y)
  rw [show (c + 256 * y) % 256 = c by omega, show (c + 256 * y) / 256 = y by omega] at h
  exact h
theorem halves_add (x m : Nat) : ∀ n, halves x (m + n) = halves (halves x m) n
  | 0 => rfl
  | n + 1 => by
    show halve (halves x (m + n)) = halve (halves (halves x m) n)
    rw [halves_add x m n]
theorem run_num (l : List Nat) (h : ∀ c ∈ l, c < 256) : ∀ x, l.foldl stepPlain x = halves (x ^^^ num l) (8 * l.length) := by
  induction l with
  | nil => intro x; simp [num, halves]
  | cons c l ih =>
    intro x
    simp only [List.foldl_cons, List.length_cons]
    rw [ih (fun d hd => h d (by simp [hd])), num, add_xor _ _ (h c (by simp)), show 8 * (l.length + 1) = 8 + 8 * l.length by omega, halves_add, ← Nat.xor_assoc, halves_xor (x ^^^ c) (num l * 256) 8]
    have := halves_high 8 (num l)
    simp only [show (2:Nat)^8 = 256 from rfl] at this
    rw [this]; rfl

theorem xor_zero_eq {a b : Nat} (h : a ^^^ b = 0) : a = b := by
  have h2 : (a ^^^ b) ^^^ b = 0 ^^^ b := by rw [h]
  rwa [Nat.xor_assoc, Nat.xor_self, Nat.xor_zero, Nat.zero_xor] at h2
theorem halve_zero {x : Nat} (hx : x < 4294967296) (h : halve x = 0) : x = 0 := by
  unfold halve at h
  split at h
  · have h2 : x / 2 = 2197175160 := xor_zero_eq h
    omega
  · omega
theorem halves_zero {x : Nat} (hx : x < 4294967296) : ∀ n, halves x n = 0 → x = 0
  | 0, h => h
  | n + 1, h => halves_zero hx n (halve_zero (halves_lt hx n) h)
theorem halves_of_zero : ∀ n, halves 0 n = 0
  | 0 => rfl
  | n + 1 => by show halve (halves 0 n) = 0; rw [halves_of_zero n]; rfl

theorem mul_xor (a b k : Nat) : (a ^^^ b) * 2 ^ k = a * 2 ^ k ^^^ b * 2 ^ k := by
  rw [← Nat.shiftLeft_eq, ← Nat.shiftLeft_eq, ← Nat.shiftLeft_eq, Nat.shiftLeft_xor_distrib]

theorem num_flip : ∀ (l : List Nat) (p q : Nat), (∀ c ∈ l, c < 256) → p < l.length → q < 8 → num (l.set p (l.getD p 0 ^^^ 2 ^ q)) = num l ^^^ 2 ^ (8 * p + q)
  | [], p, q, _, hp, _ => by simp at hp
  | c :: l, 0, q, h, _, hq => by
    have hc := h c (by simp)
    have h2 : c ^^^ 2 ^ q < 256 := Nat.xor_lt_two_pow (n := 8) hc (Nat.pow_lt_pow_right (by decide) hq)
    simp only [List.set_cons_zero, num, List.getD_cons_zero]
    rw [add_xor _ _ h2, add_xor _ _ hc, Nat.mul_zero, Nat.zero_add, Nat.xor_assoc, Nat.xor_comm (2 ^ q), ← Nat.xor_assoc]
  | c :: l, p + 1, q, h, hp, hq => by
    have hc := h c (by simp)
    simp only [List.set_cons_succ, num, List.getD_cons_succ]
    rw [num_flip l p q (fun d hd => h d (by simp [hd])) (by simpa using hp) hq, add_xor _ _ hc, add_xor _ _ hc]
    have := mul_xor (num l) (2 ^ (8 * p + q)) 8
    simp only [show (2:Nat)^8 = 256 from rfl] at this
    rw [this, ← Nat.xor_assoc, show 8 * (p + 1) + q = 8 * p + q + 8 by omega, Nat.pow_add 2 (8 * p + q) 8]

theorem num_lt : ∀ (l : List Nat), (∀ c ∈ l, c < 256) → num l < 256 ^ l.length
  | [], _ => by simp [num]
  | c :: l, h => by
    have h1 := num_lt l (fun d hd => h d (by simp [hd]))
    have hc := h c (by simp)
    simp only [num, List.length_cons, Nat.pow_succ]
    omega

/-- Four bytes are those of their number. -/
def fourD (x : Nat) : List Nat := [x % 256, x / 256 % 256, x / 65536 % 256, x / 16777216 % 256]
theorem fourD_num (T : List Nat) (h : ∀ c ∈ T, c < 256) (hl : T.length = 4) : fourD (num T) = T := by
  match T, hl, h with
  | [a, b, c, d], _, h =>
    have ha := h a (by simp)
    have hb := h b (by simp)
    have hc := h c (by simp)
    have hd := h d (by simp)
    simp only [fourD, num, List.cons.injEq, and_true]
    omega
theorem num_fourD (x : Nat) (hx : x < 4294967296) : num (fourD x) = x := by
  simp only [fourD, num]
  omega

theorem xor_not (x : Nat) (hx : x < 4294967296) : 4294967295 - x = x ^^^ 4294967295 := by
  have h1 : (x ^^^ 4294967295) = 2 ^ 32 - (x + 1) := by
    apply Nat.eq_of_testBit_eq
    intro i
    rw [Nat.testBit_two_pow_sub_succ hx, Nat.testBit_xor]
    have : (4294967295 : Nat).testBit i = decide (i < 32) := Nat.testBit_two_pow_sub_one 32 i
    rw [this]
    by_cases hi : i < 32
    · simp [hi]
    · simp [hi]
      exact Nat.testBit_lt_two_pow (Nat.lt_of_lt_of_le hx (Nat.pow_le_pow_right (n := 2) (by decide) (show 32 ≤ i by omega)))
  rw [h1]
  simp only [show (2 : Nat) ^ 32 = 4294967296 from rfl]
  omega

theorem xor_cancel {a b c : Nat} (h : a ^^^ b = a ^^^ c) : b = c := by
  have := congrArg (a ^^^ ·) h
  simpa [← Nat.xor_assoc] using this

/-- Bytes fit just if what is left of all of them is what is left of a sum. -/
theorem fits_iff (A T : List Nat) (hA : ∀ c ∈ A, c < 256) (hT : ∀ c ∈ T, c < 256) (hl : T.length = 4) :
    fourD (sumPlain A) = T ↔ runPlain (A ++ T) = halves 4294967295 32 := by
  have hrA : runPlain A < 4294967296 := foldPlain_lt A hA _ (by decide)
  have hs : sumPlain A = runPlain A ^^^ 4294967295 := xor_not _ hrA
  have hsl : sumPlain A < 4294967296 := by unfold sumPlain; omega
  have hr : runPlain (A ++ T) = halves (runPlain A ^^^ num T) 32 := by
    unfold runPlain
    rw [List.foldl_append, run_num T hT, hl]
  have hnT : num T < 4294967296 := by
    have := num_lt T hT
    rw [hl] at this
    exact this
  rw [hr]
  constructor
  · intro h
    rw [← h, num_fourD _ hsl, hs, ← Nat.xor_assoc, Nat.xor_self, Nat.zero_xor]
  · intro h
    have hy : runPlain A ^^^ num T < 4294967296 := Nat.xor_lt_two_pow (n := 32) hrA hnT
    have h0 : halves ((runPlain A ^^^ num T) ^^^ 4294967295) 32 = 0 := by rw [halves_xor, h, Nat.xor_self]
    have h1 := halves_zero (Nat.xor_lt_two_pow (n := 32) hy (by decide)) 32 h0
    have h2 : runPlain A ^^^ num T = 4294967295 := xor_zero_eq h1
    have h3 : num T = sumPlain A := by
      rw [hs]
      refine xor_cancel (a := runPlain A) ?_
      rw [h2, ← Nat.xor_assoc, Nat.xor_self, Nat.zero_xor]
    rw [← h3, fourD_num T hT hl]

/-- The bits of a burst that lie within n bits from 'at' on: the first i of them. -/
def burstBits (burst pos n : Nat) : Nat → Nat
  | 0 => 0
  | i + 1 => if burst / 2 ^ i % 2 = 1 ∧ pos + i < n then burstBits burst pos n i ^^^ 2 ^ i else burstBits burst pos n i

theorem burstBits_lt (burst pos n : Nat) : ∀ i, burstBits burst pos n i < 2 ^ i
  | 0 => by simp [burstBits]
  | i + 1 => by
    have h := burstBits_lt burst pos n i
    unfold burstBits
    have h2 : 2 ^ i < 2 ^ (i + 1) := Nat.pow_lt_pow_right (by decide) (by omega)
    split
    · exact Nat.xor_lt_two_pow (n := i + 1) (Nat.lt_trans h h2) h2
    · exact Nat.lt_trans h h2
theorem burstBits_lt' (burst pos n : Nat) : ∀ i, burstBits burst pos n i < 2 ^ (n - pos)
  | 0 => by simp only [burstBits]; exact Nat.two_pow_pos _
  | i + 1 => by
    have h := burstBits_lt' burst pos n i
    unfold burstBits
    split
    · rename_i hc
      exact Nat.xor_lt_two_pow h (Nat.pow_lt_pow_right (by decide) (by omega))
    · exact h
theorem burstBits_flip {burst pos n i : Nat} (h : burst / 2 ^ i % 2 = 1 ∧ pos + i < n) : burstBits burst pos n (i + 1) = burstBits burst pos n i ^^^ 2 ^ i := if_pos h
theorem burstBits_keep {burst pos n i : Nat} (h : ¬ (burst / 2 ^ i % 2 = 1 ∧ pos + i < n)) : burstBits burst pos n (i + 1) = burstBits burst pos n i := if_neg h
theorem burstBits_ne {burst pos n i : Nat} (h : burst / 2 ^ i % 2 = 1 ∧ pos + i < n) : burstBits burst pos n (i + 1) ≠ 0 := by
  rw [burstBits_flip h]
  intro h0
  have h1 := xor_zero_eq h0
  have := burstBits_lt burst pos n i
  omega

/-- Behind a burst the bytes fit just if no bit was turned. -/
theorem burst_law (C C' : List Nat) (hC : ∀ c ∈ C, c < 256) (hC' : ∀ c ∈ C', c < 256) (hl : C'.length = C.length) (pos B : Nat) (hB : B < 4294967296) (hB2 : B < 2 ^ (8 * C.length - pos)) (hp : pos ≤ 8 * C.length)
    (hn : num C' = num C ^^^ B * 2 ^ pos) (hr : runPlain C = halves 4294967295 32) : runPlain C' = halves 4294967295 32 ↔ B = 0 := by
  have h1 : runPlain C' = runPlain C ^^^ halves B (8 * C.length - pos) := by
    unfold runPlain
    rw [run_num C' hC', run_num C hC, hl, hn, ← Nat.xor_assoc, halves_xor]
    congr 1
    have := halves_add (B * 2 ^ pos) pos (8 * C.length - pos)
    rw [show pos + (8 * C.length - pos) = 8 * C.length by omega, halves_high] at this
    exact this
  rw [h1, hr]
  constructor
  · intro h
    refine halves_zero hB (8 * C.length - pos) ?_
    refine xor_cancel (a := halves 4294967295 32) ?_
    rw [h, Nat.xor_zero]
  · rintro rfl
    rw [halves_of_zero, Nat.xor_zero]

end Go.Proofs.Ytjgmfbpdnjapkaa
