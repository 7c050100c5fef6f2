/-
  CRC: plain law of the check sum; no program in sight.
-/
namespace Go.Proofs.Ytaehaclmagnncaa
set_option linter.unusedVariables false
set_option linter.unusedSimpArgs false
set_option linter.unnecessarySimpa false

/-- One halving. -/
def halve (x : Nat) : Nat := if x % 2 = 1 then x / 2 ^^^ 2197175160 else x / 2
/-- So many halvings. -/
def halves (x : Nat) : Nat → Nat
  | 0 => x
  | n + 1 => halve (halves x n)
/-- The table. -/
def tab (i : Nat) : Nat := halves i 8
/-- One byte taken in, by a table. -/
def stepBy (t : Nat → Nat) (x c : Nat) : Nat := t ((x ^^^ c) % 256) ^^^ x / 256
def stepPlain (x c : Nat) : Nat := halves (x ^^^ c) 8
def runBy (t : Nat → Nat) (l : List Nat) : Nat := l.foldl (stepBy t) 4294967295
def runPlain (l : List Nat) : Nat := l.foldl stepPlain 4294967295
/-- The sum. -/
def sumBy (t : Nat → Nat) (l : List Nat) : Nat := 4294967295 - runBy t l
def sumPlain (l : List Nat) : Nat := 4294967295 - runPlain l

theorem halve_lt {x : Nat} (h : x < 4294967296) : halve x < 4294967296 := by
  unfold halve
  split
  · exact Nat.xor_lt_two_pow (n := 32) (by omega) (by decide)
  · omega
theorem halves_lt {x : Nat} (h : x < 4294967296) (n : Nat) : halves x n < 4294967296 := by
  induction n with
  | zero => exact h
  | succ n ih => exact halve_lt ih

theorem xor_mod2 (a b : Nat) : (a ^^^ b) % 2 = (a % 2 + b % 2) % 2 := by
  have := Nat.xor_mod_two_pow (a := a) (b := b) (n := 1)
  simp only [Nat.pow_one] at this
  rw [this]
  have ha : a % 2 < 2 := Nat.mod_lt _ (by decide)
  have hb : b % 2 < 2 := Nat.mod_lt _ (by decide)
  generalize a % 2 = p at *
  generalize b % 2 = q at *
  match p, q, ha, hb with
  | 0, 0, _, _ => rfl
  | 0, 1, _, _ => rfl
  | 1, 0, _, _ => rfl
  | 1, 1, _, _ => rfl
theorem xor_div2 (a b : Nat) : (a ^^^ b) / 2 = a / 2 ^^^ b / 2 := by
  have := Nat.xor_div_two_pow (a := a) (b := b) (n := 1)
  simpa using this
theorem xor_div256 (a b : Nat) : (a ^^^ b) / 256 = a / 256 ^^^ b / 256 := by
  have := Nat.xor_div_two_pow (a := a) (b := b) (n := 8)
  simpa using this

/-- Halving is linear. -/
theorem halve_xor (a b : Nat) : halve (a ^^^ b) = halve a ^^^ halve b := by
  have ha : a % 2 < 2 := Nat.mod_lt _ (by decide)
  have hb : b % 2 < 2 := Nat.mod_lt _ (by decide)
  unfold halve
  rw [xor_mod2, xor_div2]
  by_cases h1 : a % 2 = 1 <;> by_cases h2 : b % 2 = 1
  · rw [if_neg (by omega), if_pos h1, if_pos h2]
    rw [Nat.xor_assoc, Nat.xor_comm 2197175160, Nat.xor_assoc, Nat.xor_self, Nat.xor_zero]
  · rw [if_pos (by omega), if_pos h1, if_neg h2]
    rw [Nat.xor_assoc, Nat.xor_assoc, Nat.xor_comm (b / 2)]
  · rw [if_pos (by omega), if_neg h1, if_pos h2]
    rw [Nat.xor_assoc]
  · rw [if_neg (by omega), if_neg h1, if_neg h2]
theorem halves_xor (a b n : Nat) : halves (a ^^^ b) n = halves a n ^^^ halves b n := by
  induction n with
  | zero => rfl
  | succ n ih => simp only [halves, ih, halve_xor]
theorem halve_even (k : Nat) : halve (2 * k) = k := by
  unfold halve
  rw [if_neg (by omega)]
  omega
theorem halves_high (n : Nat) : ∀ k, halves (k * 2 ^ n) n = k := by
  induction n with
  | zero => intro k; simp [halves]
  | succ n ih =>
    intro k
    have e : k * 2 ^ (n + 1) = (2 * k) * 2 ^ n := by rw [Nat.pow_succ]; rw [Nat.mul_comm 2 k, Nat.mul_assoc, Nat.mul_comm 2]
    simp only [halves]
    rw [e, ih, halve_even]
theorem split256 (y : Nat) : y = (y % 256) ^^^ ((y / 256) * 256) := by
  have h : (y / 256) * 256 + y % 256 = (y / 256) * 256 ||| y % 256 := by
    have := Nat.two_pow_add_eq_or_of_lt (b := y % 256) (i := 8) (Nat.mod_lt _ (by decide)) (y / 256)
    rw [Nat.mul_comm] at this
    exact this
  have h2 : (y % 256) ^^^ ((y / 256) * 256) = (y % 256) ||| ((y / 256) * 256) := by
    apply Nat.eq_of_testBit_eq
    intro i
    simp only [Nat.testBit_xor, Nat.testBit_or]
    by_cases hi : i < 8
    · have : ((y / 256) * 256).testBit i = false := by
        have e : (y / 256) * 256 = 2 ^ 8 * (y / 256) := by rw [Nat.mul_comm]
        rw [e, Nat.testBit_two_pow_mul]
        simp; omega
      simp [this]
    · have : (y % 256).testBit i = false := by
        have := Nat.testBit_mod_two_pow y 8 i
        simp only [show (2:Nat)^8 = 256 from rfl] at this
        rw [this]; simp; omega
      simp [this]
  rw [h2, Nat.or_comm, ← h]
  omega
theorem tab_step (y : Nat) : halves y 8 = tab (y % 256) ^^^ y / 256 := by
  have h : halves y 8 = halves ((y % 256) ^^^ ((y / 256) * 256)) 8 := congrArg (fun z => halves z 8) (split256 y)
  rw [h, halves_xor]
  have := halves_high 8 (y / 256)
  simp only [show (2:Nat)^8 = 256 from rfl] at this
  rw [this]; rfl

theorem step_same {x c : Nat} (hc : c < 256) : stepBy tab x c = stepPlain x c := by
  unfold stepBy stepPlain
  rw [tab_step, xor_div256, Nat.div_eq_of_lt hc, Nat.xor_zero]

theorem foldl_same (l : List Nat) (h : ∀ c ∈ l, c < 256) : ∀ x, l.foldl (stepBy tab) x = l.foldl stepPlain x := by
  induction l with
  | nil => intro x; rfl
  | cons c l ih =>
    intro x
    simp only [List.foldl_cons]
    rw [step_same (h c (by simp)), ih (fun d hd => h d (by simp [hd]))]
theorem sum_same (l : List Nat) (h : ∀ c ∈ l, c < 256) : sumBy tab l = sumPlain l := by
  unfold sumBy sumPlain runBy runPlain
  rw [foldl_same l h]

theorem stepBy_lt {t : Nat → Nat} (ht : ∀ i, i < 256 → t i < 4294967296) {x c : Nat} (hx : x < 4294967296) : stepBy t x c < 4294967296 :=
  Nat.xor_lt_two_pow (n := 32) (ht _ (Nat.mod_lt _ (by decide))) (by omega)
theorem stepPlain_lt {x c : Nat} (hx : x < 4294967296) (hc : c < 256) : stepPlain x c < 4294967296 :=
  halves_lt (Nat.xor_lt_two_pow (n := 32) hx (by omega)) 8
theorem foldBy_lt {t : Nat → Nat} (ht : ∀ i, i < 256 → t i < 4294967296) (l : List Nat) : ∀ x, x < 4294967296 → l.foldl (stepBy t) x < 4294967296 := by
  induction l with
  | nil => intro x h; exact h
  | cons c l ih => intro x h; exact ih _ (stepBy_lt ht h)
theorem foldPlain_lt (l : List Nat) (h : ∀ c ∈ l, c < 256) : ∀ x, x < 4294967296 → l.foldl stepPlain x < 4294967296 := by
  induction l with
  | nil => intro x h; exact h
  | cons c l ih => intro x hx; exact ih (fun d hd => h d (by simp [hd])) _ (stepPlain_lt hx (h c (by simp)))
theorem tab_lt (i : Nat) (h : i < 256) : tab i < 4294967296 := halves_lt (by omega) 8
theorem runBy_lt {t : Nat → Nat} (ht : ∀ i, i < 256 → t i < 4294967296) (l : List Nat) : runBy t l < 4294967296 := foldBy_lt ht l _ (by decide)
theorem sumBy_lt (t : Nat → Nat) (l : List Nat) : sumBy t l < 4294967296 := by unfold sumBy; omega

end Go.Proofs.Ytaehaclmagnncaa
