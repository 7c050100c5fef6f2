/-
  cdb: num, at a place of sixteen bytes that lie in a block.
-/
import Derived.Test.YtpcgnffkhkdkhaaCdbPlain
import Derived.Test.YtpcgnffkhkdkhaaNv
import Derived.Test.YtpcgnffkhkdkhaaCut
namespace Go.Proofs.Ytpcgnffkhkdkhaa
set_option linter.unusedVariables false
set_option linter.unusedSimpArgs false
open Go.RowKit

theorem numAt {W : World} {A : Nat} {b : List Nat} {t : TypeId} (hk : IsBlk W A (nv .u8 b) t) (hb : ∀ c ∈ b, c < 256) (o n c : Nat) (ho : o + n ≤ b.length) (hn : n ≤ 8) (h0 : 0 < n) :
    Calls Try.prog 11 #[.slice (some ⟨A, o, none⟩) n c] W fun e w' => e = .returned (.int .u64 (at_ b o n : Nat)) ∧ W = w' := by
  have h := isBytes_cut (isBytes_row hk hb) (b.length + 1) o (o + n) (by omega) ho (by omega)
  have e : cutA (some ⟨A, 0, none⟩) (b.length + 1) o = some ⟨A, o, none⟩ := by
    unfold cutA; rw [if_neg (by omega)]; simp [Go.WideShapes.add_plain]
  rw [e, Nat.add_sub_cancel_left] at h
  have hl : ((b.drop o).take n).length = n := by rw [List.length_take, List.length_drop]; omega
  have := num_any (some ⟨A, o, none⟩) ((b.drop o).take n) c W h (by omega)
  rw [hl] at this
  exact this
end Go.Proofs.Ytpcgnffkhkdkhaa
