/-
  disk: a disk in memory.
-/
import Derived.Test.YtjmjfgbpjecgfaaDoorDiskPlain
import Derived.Test.YtjmjfgbpjecgfaaDoorRowF
import Derived.Test.YtjmjfgbpjecgfaaDoorIntMap2
import Derived.Test.YtjmjfgbpjecgfaaDoorWoeFn
namespace Go.Proofs.YtjmjfgbpjecgfaaDoor
set_option linter.unusedVariables false
set_option linter.unusedSimpArgs false
open Go.RowKit

/-- A sector's cells; a pending write's. -/
def pgF (p : List Nat) : List Value := bv p
def wrF (x : Nat × List Nat) : List Value := .int .i64 ((x.1 : Nat) : Int) :: bv x.2
theorem pgF_length (p : List Nat) : (pgF p).length = p.length := bv_length p
theorem wrF_length (x : Nat × List Nat) : (wrF x).length = x.2.length + 1 := by simp [wrF, bv_length]

/-- The place of the last pending write to a sector, counted from k on. -/
def lastFrom : List (Nat × List Nat) → Nat → Nat → Option Nat
  | [], _, _ => none
  | x :: r, n, k => match lastFrom r n (k + 1) with
    | some j => some j
    | none => if x.1 = n then some k else none
theorem lastFrom_snoc (l : List (Nat × List Nat)) (x : Nat × List Nat) (n : Nat) : ∀ k, lastFrom (l ++ [x]) n k = if x.1 = n then some (k + l.length) else lastFrom l n k := by
  induction l with
  | nil => intro k; simp [lastFrom]
  | cons y r ih =>
    intro k
    rw [List.cons_append, lastFrom, ih]
    by_cases h : x.1 = n
    · simp only [h, if_true, List.length_cons]
      congr 1
      omega
    · simp only [h, if_false]
      rfl
theorem lastFrom_some {l : List (Nat × List Nat)} {n : Nat} : ∀ {k j : Nat} {firm : List (List Nat)}, (∀ x ∈ l, x.1 < firm.length) → lastFrom l n k = some j → k ≤ j ∧ ∃ x, l[j - k]? = some x ∧ x.1 = n ∧ (applyP firm l).getD n zeroPg = x.2 := by
  induction l with
  | nil => intro k j firm _ h; simp [lastFrom] at h
  | cons y r ih =>
    intro k j firm hl h
    have hr : ∀ x ∈ r, x.1 < (firm.set y.1 y.2).length := fun x hx => by rw [List.length_set]; exact hl x (List.mem_cons_of_mem _ hx)
    rw [lastFrom] at h
    rw [applyP_cons]
    cases hq : lastFrom r n (k + 1) with
    | some q =>
      simp only [hq] at h
      obtain rfl : q = j := Option.some.inj h
      obtain ⟨h1, x, h2, h3, h4⟩ := ih hr hq
      exact ⟨by omega, x, by rw [show q - k = (q - (k + 1)) + 1 by omega]; simpa using h2, h3, h4⟩
    | none =>
      simp only [hq] at h
      by_cases hy : y.1 = n
      · rw [if_pos hy] at h
        obtain rfl : k = j := Option.some.inj h
        refine ⟨Nat.le_refl _, y, by simp, hy, ?_⟩
        have key : ∀ (l : List (Nat × List Nat)) (k : Nat) (g : List (List Nat)), (∀ x ∈ l, x.1 < g.length) → lastFrom l n k = none → (applyP g l).getD n zeroPg = g.getD n zeroPg := by
          intro l
          induction l with
          | nil => intro k g _ _; rfl
          | cons z l ih2 =>
            intro k g hg hn
            rw [lastFrom] at hn
            cases hq2 : lastFrom l n (k + 1) with
            | some q => simp [hq2] at hn
            | none =>
              simp only [hq2] at hn
              have hz : z.1 ≠ n := by intro e; rw [if_pos e] at hn; cases hn
              rw [applyP_cons, ih2 (k + 1) _ (fun x hx => by rw [List.length_set]; exact hg x (List.mem_cons_of_mem _ hx)) hq2, getD_set _ _ _ _ (hg z (by simp)), if_neg hz]
        rw [key r (k + 1) _ hr hq, getD_set _ _ _ _ (hl y (by simp)), if_pos hy]
      · rw [if_neg hy] at h; cases h
theorem lastFrom_none {l : List (Nat × List Nat)} {n : Nat} : ∀ {k : Nat} {firm : List (List Nat)}, (∀ x ∈ l, x.1 < firm.length) → lastFrom l n k = none → (applyP firm l).getD n zeroPg = firm.getD n zeroPg := by
  induction l with
  | nil => intro k firm _ _; rfl
  | cons y r ih =>
    intro k firm hl h
    rw [lastFrom] at h
    cases hq : lastFrom r n (k + 1) with
    | some q => simp [hq] at h
    | none =>
      simp only [hq] at h
      have hy : y.1 ≠ n := by intro e; rw [if_pos e] at h; cases h
      rw [applyP_cons, ih (fun x hx => by rw [List.length_set]; exact hl x (List.mem_cons_of_mem _ hx)) hq, getD_set _ _ _ _ (hl y (by simp)), if_neg hy]
/-- What the map of last writes holds. -/
def lastM (l : List (Nat × List Nat)) (n : Int) : Option Value := if 0 ≤ n then (lastFrom l n.toNat 0).map (fun (j : Nat) => Value.int .i64 (j : Int)) else none
theorem lastM_nil : lastM [] = fun _ => none := by funext n; simp [lastM, lastFrom]
theorem lastM_snoc (l : List (Nat × List Nat)) (x : Nat × List Nat) : lastM (l ++ [x]) = fun m => if m = (x.1 : Int) then some (Value.int .i64 ((l.length : Nat) : Int)) else lastM l m := by
  funext m
  unfold lastM
  by_cases h0 : 0 ≤ m
  · rw [if_pos h0, if_pos h0, lastFrom_snoc]
    by_cases h : x.1 = m.toNat
    · rw [if_pos h, if_pos (by omega)]; simp
    · rw [if_neg h, if_neg (by omega)]
  · rw [if_neg h0, if_neg h0, if_neg (by omega)]

/-- A disk, block by block. -/
structure IsDk (w : World) (base db fb mb cap : Nat) (cv : Value) (d : DK) : Prop where
  blk : IsBlk w db #[.slice (some ⟨fb, 0, none⟩) d.firm.length cap, cv, .map (some mb), .int .i64 d.fuel, .bool d.off] 65
  firm : RowF w base 33 64 pgF (.slice (some ⟨fb, 0, none⟩) d.firm.length cap) d.firm
  cache : RowF w base 67 65 wrF cv d.pend
  map : IntMap w mb .i64 (lastM d.pend)
  pend : ∀ x ∈ d.pend, x.1 < d.firm.length
  n1 : 1 ≤ d.firm.length
  n2 : d.firm.length ≤ 4096
  f1 : -1 ≤ d.fuel
  f2 : d.fuel ≤ 9223372036854775807
  bdb : base ≤ db
  bmb : base ≤ mb
section
variable {w w' : World} {base db fb mb cap : Nat} {cv : Value} {d : DK}
theorem IsDk.fb_ne (h : IsDk w base db fb mb cap cv d) : fb ≠ db := by
  intro e
  obtain ⟨cur, hc⟩ := h.firm.tag fb rfl
  have := h.blk
  unfold IsBlk at this
  rw [← e, hc] at this
  injection this with this
  injection this with _ h2
  exact absurd h2 (by decide)
theorem IsDk.mb_ne (h : IsDk w base db fb mb cap cv d) : mb ≠ db ∧ mb ≠ fb := by
  obtain ⟨es, clock, hb, _⟩ := h.map
  constructor
  · intro e
    have := h.blk
    unfold IsBlk at this
    rw [← e, hb] at this
    cases this
  · intro e
    obtain ⟨cur, hc⟩ := h.firm.tag fb rfl
    rw [← e, hb] at hc
    cases hc
theorem IsDk.cv_ne (h : IsDk w base db fb mb cap cv d) {k : Nat} (hk : cv.ownBlock = some k) : k ≠ db ∧ k ≠ fb ∧ k ≠ mb := by
  obtain ⟨cur, hc⟩ := h.cache.tag k hk
  refine ⟨?_, ?_, ?_⟩
  · intro e
    have := h.blk
    unfold IsBlk at this
    rw [← e, hc] at this
    injection this with this
    injection this with _ h2
    exact absurd h2 (by decide)
  · intro e
    obtain ⟨cur2, hc2⟩ := h.firm.tag fb rfl
    rw [← e, hc] at hc2
    injection hc2 with hc2
    injection hc2 with _ h2
    exact absurd h2 (by decide)
  · intro e
    obtain ⟨es, clock, hb, _⟩ := h.map
    rw [← e, hc] at hb
    cases hb
/-- The disk's own struct has turned, nothing else. -/
theorem IsDk.turn (h : IsDk w base db fb mb cap cv d) {d' : DK} (hf : d'.firm = d.firm) (hp : d'.pend = d.pend) (h1 : -1 ≤ d'.fuel) (h2 : d'.fuel ≤ 9223372036854775807)
    (hb : IsBlk w' db #[.slice (some ⟨fb, 0, none⟩) d.firm.length cap, cv, .map (some mb), .int .i64 d'.fuel, .bool d'.off] 65) (hw : But (fun k => k = db) w w') : IsDk w' base db fb mb cap cv d' where
  blk := by rw [hf]; exact hb
  firm := by rw [hf]; exact h.firm.but hw (fun k hk e => h.fb_ne (by simp [Value.ownBlock] at hk; omega))
  cache := by rw [hp]; exact h.cache.but hw (fun k hk e => (h.cv_ne hk).1 e)
  map := by rw [hp]; exact h.map.of_block (hw.block mb h.map.lt h.mb_ne.1)
  pend := by rw [hf, hp]; exact h.pend
  n1 := by rw [hf]; exact h.n1
  n2 := by rw [hf]; exact h.n2
  f1 := h1
  f2 := h2
  bdb := h.bdb
  bmb := h.bmb
/-- Nothing of it has turned. -/
theorem IsDk.same (h : IsDk w base db fb mb cap cv d) {S : Nat → Prop} (hw : But S w w') (h1 : ¬ S db) (h2 : ¬ S fb) (h3 : ¬ S mb) (h4 : ∀ k, cv.ownBlock = some k → ¬ S k) : IsDk w' base db fb mb cap cv d where
  blk := hw.blk h.blk h1
  firm := h.firm.but hw (fun k hk => by simp [Value.ownBlock] at hk; subst hk; exact h2)
  cache := h.cache.but hw h4
  map := h.map.of_block (hw.block mb h.map.lt h3)
  pend := h.pend
  n1 := h.n1
  n2 := h.n2
  f1 := h.f1
  f2 := h.f2
  bdb := h.bdb
  bmb := h.bmb
theorem IsDk.below (h : IsDk w base db fb mb cap cv d) (hw : Below w.heap.size w w') : IsDk w' base db fb mb cap cv d :=
  h.same (S := fun _ => False) (But.of_below hw (Nat.le_refl _)) id id id (fun _ _ => id)
theorem IsDk.fb_lt (h : IsDk w base db fb mb cap cv d) : fb < w.heap.size := h.firm.lt fb rfl
theorem IsDk.fb_base (h : IsDk w base db fb mb cap cv d) : base ≤ fb := h.firm.base_le fb rfl
end
end Go.Proofs.YtjmjfgbpjecgfaaDoor
