/-
  cdb: the law CdbForms.
-/
import Derived.Test.YtpcgnffkhkdkhaaCdbF0
import Derived.Test.YtpcgnffkhkdkhaaCdbF1
import Derived.Test.YtpcgnffkhkdkhaaCdbF2
import Derived.Test.YtpcgnffkhkdkhaaCdbF3
namespace Go.Proofs.Ytpcgnffkhkdkhaa
set_option linter.unusedVariables false
set_option linter.unusedSimpArgs false
open Go.RowKit
attribute [local go_sem ↓] Go.wp_at_zero Go.wp_at_succ

theorem u32_nat {z : Int} (h : (Lit.int .u32 z).wf = true) : ∃ n : Nat, z = n ∧ n < 4294967296 := nat_of_u32 h
theorem cdbForms_law (v0 v1 v2 : Value) (D0 D1 D2 : D) (W : World) (r0 : RdV Try.prog W 22 v0 D0) (r1 : RdV Try.prog W 23 v1 D1) (r2 : RdV Try.prog W 5 v2 D2) :
    Calls Try.prog 3 #[v0, v1, v2] W fun e w' => e = .returned (.bool true) ∧ Below W.heap.size W w' := by
  obtain ⟨zs, rfl, _, hl, hz⟩ := r0.intArray (e := 3) (n := 2) (k := .i64) Try.underlying22 Try.underlying3 (by kernel_rfl) (by kernel_rfl)
  obtain ⟨x, rfl, _, hx⟩ := r1.int Try.underlying23
  obtain ⟨f, rfl, _, hf⟩ := r2.int Try.underlying5
  obtain ⟨x, rfl, hx2⟩ := nat_of_u32 hx
  obtain ⟨f, rfl, hf2⟩ := nat_of_u8 hf
  obtain ⟨k, q, rfl⟩ : ∃ k q, zs = [k, q] := by
    rcases zs with _ | ⟨k, _ | ⟨q, _ | ⟨_, _⟩⟩⟩ <;> simp at hl
    exact ⟨k, q, rfl⟩
  obtain ⟨j, hj, hj1, hj2, hj3⟩ := idx_4 k
  obtain ⟨n, hn, hn1⟩ : ∃ n : Nat, n < 65536 ∧ IntKind.u16.wrap q = (n : Int) := ⟨(IntKind.u16.wrap q).toNat, by rw [IntKind.wrap_u16]; omega, by rw [IntKind.wrap_u16]; omega⟩
  rcases (by omega : j = 0 ∨ j = 1 ∨ j = 2 ∨ j = 3) with rfl | rfl | rfl | rfl
  · exact forms_0 k q x f hx2 hf2 W hj1 hj2 hj3 n hn hn1
  · exact forms_1 k q x f hx2 hf2 W hj1 hj2 hj3 n hn hn1
  · exact forms_2 k q x f hx2 hf2 W hj1 hj2 hj3 n hn hn1
  · exact forms_3 k q x f hx2 hf2 W hj1 hj2 hj3 n hn hn1
end Go.Proofs.Ytpcgnffkhkdkhaa
