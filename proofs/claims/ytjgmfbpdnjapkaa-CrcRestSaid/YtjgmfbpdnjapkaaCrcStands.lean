/-
  CRC: the anchor.
-/
import Derived.Test.YtjgmfbpdnjapkaaCrcFits
import Derived.Lib.SlBytesConst
namespace Go.Proofs.Ytjgmfbpdnjapkaa
set_option linter.unusedVariables false
set_option linter.unusedSimpArgs false
set_option linter.unnecessarySimpa false
open Go.RowKit

theorem known_sum : sumBy tab [49, 50, 51, 52, 53, 54, 55, 56, 57] = 3808858755 := by decide +kernel

def nine : Array Value := #[.int .u8 49, .int .u8 50, .int .u8 51, .int .u8 52, .int .u8 53, .int .u8 54, .int .u8 55, .int .u8 56, .int .u8 57]

theorem sum_nine (W : World) (bt b : Nat) (ht : IsTab W bt tab) (hb : W.heap[b]? = some (.cells nine 5 (9, 10))) :
    Calls Try.prog 11 #[.pointer (some ⟨bt, 0, none⟩), .slice (some ⟨b, 0, none⟩) 9 9] W fun e w' => e = .returned (.int .u32 3808858755) ∧ W = w' := by
  have h := sum_tab bt tab (some ⟨b, 0, none⟩) [49, 50, 51, 52, 53, 54, 55, 56, 57] 9 W ht
    ⟨by decide, .inr ⟨b, 0, rfl, fun i hi => by
      unfold World.cell?
      rw [hb]
      simp only [List.length_cons, List.length_nil] at hi
      match i, hi with
      | 0, _ => rfl
      | 1, _ => rfl
      | 2, _ => rfl
      | 3, _ => rfl
      | 4, _ => rfl
      | 5, _ => rfl
      | 6, _ => rfl
      | 7, _ => rfl
      | 8, _ => rfl⟩⟩ (by unfold maxLen; decide)
  rw [known_sum] at h
  exact h

theorem eq_known (w : World) : (Op.equalIn 10000 36 (.agg (fourV 16909060)) (.agg #[.int .u8 4, .int .u8 3, .int .u8 2, .int .u8 1])).run Try.prog w = .ok true w := by
  have := run_eq4 16909060 4 3 2 1 w
  exact this

theorem table_below (w : World) : Calls Try.prog 9 #[] w fun e w' => e = .returned (.pointer (some ⟨w.heap.size, 0, none⟩)) ∧ Below w.heap.size w w' ∧ IsTab w' w.heap.size tab ∧ w.heap.size < w'.heap.size :=
  (table_any w).mono fun _ _ ⟨he, hw⟩ => ⟨he, by subst hw; exact ⟨(Below.refl _ _).alloc (Nat.le_refl _) _, isTab_new w, by simp⟩⟩

set_option maxHeartbeats 1000000 in
set_option maxRecDepth 100000 in
theorem stands_any (w : World) : Calls Try.prog 8 #[] w fun e w' => e = .returned (.bool true) ∧ Below w.heap.size w w' := by
  have hq := eq_known
  have kc := fun (w : World) (C : Array Value) (n c : Nat) => Lib.run_convert_bytes_const (P := Try.prog) w 29 5 C n c (by kernel_rfl) (by kernel_rfl)
  go_enter Try.func8, Try.ntmps8
  go_wp2_with fail
  refine (table_below _).mono ?_
  rintro e w1 ⟨rfl, hb1, ht1, hs1⟩
  have ht2 := ht1.below (((Below.refl w1.heap.size w1).alloc (Nat.le_refl _) (.cells nine 5 (9, 10)))) hs1
  have hh2 : (w1.alloc (.cells nine 5 (9, 10))).heap[w1.heap.size]? = some (.cells nine 5 (9, 10)) := heap_alloc_new w1 _
  go_wp2_with fail
  refine (sum_nine _ w.heap.size w1.heap.size ht2 hh2).mono ?_
  rintro e w2 ⟨rfl, rfl⟩
  go_wp2_with fail
  refine (bytes_below _ (by decide) _).mono ?_
  rintro e w2 ⟨rfl, hb2⟩
  go_wp2
  go_ret
  exact ⟨rfl, hb1.trans (((Below.refl w1.heap.size w1).alloc (Nat.le_refl _) (.cells nine 5 (9, 10))).mono hb1.size |>.trans (hb2.mono (by simp; omega)))⟩

end Go.Proofs.Ytjgmfbpdnjapkaa
