/-
  cdb: the law CdbForms.
-/
import Derived.Test.YtpcgnffkhkdkhaaCdbFits
import Derived.Deep.QuietTactic
import Derived.BigQuiet
namespace Go.Proofs.Ytpcgnffkhkdkhaa
set_option linter.unusedVariables false
set_option linter.unusedSimpArgs false
open Go.RowKit
attribute [local go_sem ↓] Go.wp_at_zero Go.wp_at_succ

def tenF (o f x n : Nat) : List Nat := [o, f, x / 16777216, x / 65536 % 256, x / 256 % 256, x % 256, 0, n / 256, n % 256, 0, 0, 0, 0, 0, 0, 0]
def sixF (o f x n : Nat) : List Nat := [o, f, 0, 0, 0, 0, x / 16777216, x / 65536 % 256, x / 256 % 256, x % 256, 0, 0, n / 256, n % 256, 0, 0]
theorem blkP_told (o f l n : Nat) : (blkP o f l n).2 = 0 → (blkP o f l n).1.lba = l ∧ (blkP o f l n).1.n = n := by
  obtain ⟨r, hr⟩ : ∃ r, r = blkP o f l n := ⟨_, rfl⟩
  rw [← hr]
  unfold blkP at hr
  (repeat' split at hr) <;> subst hr <;> simp [no]
theorem forms (o1 o2 f x n : Nat) (hx : x < 4294967296) (hn : n < 65536) (h : (o1 = 40 ∧ o2 = 136) ∨ (o1 = 42 ∧ o2 = 138) ∨ (o1 = 65 ∧ o2 = 147) ∨ (o1 = 53 ∧ o2 = 145)) :
    ∃ t c, decP (tenF o1 f x n) = (t, c) ∧ decP (sixF o2 f x n) = (t, c) ∧ (c = 0 → t.lba = x ∧ t.n = n) := by
  have e1 : at_ (tenF o1 f x n) 2 4 = x := by simp [at_, tenF, numOf]; omega
  have e2 : at_ (tenF o1 f x n) 7 2 = n := by simp [at_, tenF, numOf]; omega
  have e3 : at_ (sixF o2 f x n) 2 8 = x := by simp [at_, sixF, numOf]; omega
  have e4 : at_ (sixF o2 f x n) 10 4 = n := by simp [at_, sixF, numOf]; omega
  have f1 : (tenF o1 f x n).getD 0 0 = o1 := rfl
  have f2 : (sixF o2 f x n).getD 0 0 = o2 := rfl
  have f3 : (tenF o1 f x n).getD 1 0 = f := rfl
  have f4 : (sixF o2 f x n).getD 1 0 = f := rfl
  have h1 : decP (tenF o1 f x n) = blkP o1 f x n := by
    unfold decP blocksP lbaP nP
    rw [e1, e2, f1, f3]
    rcases h with ⟨rfl, rfl⟩ | ⟨rfl, rfl⟩ | ⟨rfl, rfl⟩ | ⟨rfl, rfl⟩ <;> rfl
  have h2 : decP (sixF o2 f x n) = blkP o1 f x n := by
    unfold decP blocksP lbaP nP
    rw [e3, e4, f2, f4]
    rcases h with ⟨rfl, rfl⟩ | ⟨rfl, rfl⟩ | ⟨rfl, rfl⟩ | ⟨rfl, rfl⟩ <;> rfl
  have h3 := blkP_told o1 f x n
  exact ⟨(blkP o1 f x n).1, (blkP o1 f x n).2, h1, h2, h3⟩
theorem tenF_ok (o f x n : Nat) (ho : o < 256) (hf : f < 256) (hx : x < 4294967296) (hn : n < 65536) : ∀ c ∈ tenF o f x n, c < 256 := by
  simp only [tenF, List.mem_cons, List.not_mem_nil, or_false, forall_eq_or_imp, forall_eq]; omega
theorem sixF_ok (o f x n : Nat) (ho : o < 256) (hf : f < 256) (hx : x < 4294967296) (hn : n < 65536) : ∀ c ∈ sixF o f x n, c < 256 := by
  simp only [sixF, List.mem_cons, List.not_mem_nil, or_false, forall_eq_or_imp, forall_eq]; omega
theorem idx_4 (i : Int) : ∃ j : Nat, j < 4 ∧ (i.tmod 4 + 4) % 4 = (j : Int) ∧ -4 ≤ i.tmod 4 ∧ i.tmod 4 ≤ 4 := by
  have h1 := Int.tmod_lt_of_pos i (show (0 : Int) < 4 by omega)
  have h2 : -4 < i.tmod 4 := by have := Int.lt_tmod_of_pos i (show (0 : Int) < 4 by omega); omega
  exact ⟨((i.tmod 4 + 4) % 4).toNat, by omega, by omega, by omega, by omega⟩
/-- Decode of a literal row, the result under names. -/
theorem dec_row (b : List Nat) (hl : b.length = 16) (hb : ∀ c ∈ b, c < 256) (t : TK) (c : Nat) (h : decP b = (t, c)) (w : World) : Calls Try.prog 8 #[.agg (nv .u8 b)] w
    fun e w' => e = .returned (.tuple #[.agg t.cells, .int .i64 (c : Nat)]) ∧ Below w.heap.size w w' := by
  have k := dec_any b hl hb w
  rw [h] at k
  exact k

end Go.Proofs.Ytpcgnffkhkdkhaa
