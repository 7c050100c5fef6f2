/-
  CRC: the law CrcTable: for every input it returns true.
-/
import Derived.Test.YtjgmfbpdnjapkaaCrcStands
import Derived.Test.YtjgmfbpdnjapkaaRead2
namespace Go.Proofs.Ytjgmfbpdnjapkaa
set_option linter.unusedVariables false
set_option linter.unusedSimpArgs false
set_option linter.unnecessarySimpa false
open Go.RowKit

theorem table_new (w : World) : Calls Try.prog 9 #[] w fun e w' => e = .returned (.pointer (some ⟨w.heap.size, 0, none⟩)) ∧ Below w.heap.size w w' ∧ IsTab w' w.heap.size tab ∧ w.heap.size < w'.heap.size ∧ ∀ i, w'.frozen? ⟨w.heap.size, i, none⟩ = false :=
  (table_any w).mono fun _ _ ⟨he, hw⟩ => ⟨he, by subst hw; exact ⟨(Below.refl _ _).alloc (Nat.le_refl _) _, isTab_new w, by simp, fun i => World.frozen?_alloc_new w _ _ i⟩⟩

theorem idx_256 (i : Int) : ∃ j : Nat, j < 256 ∧ (i.tmod 256 + 256) % 256 = (j : Int) ∧ -256 ≤ i.tmod 256 ∧ i.tmod 256 ≤ 256 := by
  have h1 : i.tmod 256 < 256 := Int.tmod_lt_of_pos i (by decide)
  have h2 : -256 < i.tmod 256 := Int.lt_tmod_of_pos i (by decide)
  exact ⟨((i.tmod 256 + 256) % 256).toNat, by omega, by omega, by omega, by omega⟩

set_option maxHeartbeats 2000000 in
set_option maxRecDepth 100000 in
theorem crcTable_walk (i x : Int) (w : World) :
    Calls Try.prog 3 #[.int .i64 i, .int .u32 x] w fun e w' => e = .returned (.bool true) ∧ Below w.heap.size w w' := by
  obtain ⟨j, hj, hij, hij1, hij2⟩ := idx_256 i
  go_enter Try.func3, Try.ntmps3
  go_wp2_with fail
  refine (stands_any _).mono ?_
  rintro e w1 ⟨rfl, hb1⟩
  go_wp2_with fail
  refine (table_new _).mono ?_
  rintro e w2 ⟨rfl, hb2, ht2, hs2, hf2⟩
  go_wp2_with fail
  refine (table_new _).mono ?_
  rintro e w3 ⟨rfl, hb3, ht3, hs3, _⟩
  have hbel : Below w.heap.size w w3 := hb1.trans ((hb2.mono hb1.size).trans (hb3.mono (Nat.le_trans hb1.size hb2.size)))
  have ht := ht2.below hb3 hs2
  have hf : w3.frozen? ⟨w1.heap.size, j, none⟩ = false := (hb3.frozen (p := ⟨w1.heap.size, j, none⟩) hs2).trans (hf2 j)
  have hc := (ht j hj).2
  have hbase := hb1.size
  have hne : w1.heap.size ≠ w2.heap.size := by omega
  generalize w1.heap.size = t at *
  generalize w2.heap.size = u at *
  clear hb1 hb2 hb3 hf2 ht2 ht
  have htu : IsTab (w3.setCell ⟨t, j, none⟩ (.int .u32 x)) u tab := fun k hk => ⟨(ht3 k hk).1, by
    rw [World.cell?_setCell_other _ _ _ _ (by intro h; injection h with h; omega)]
    exact (ht3 k hk).2⟩
  have hB : Below w.heap.size w (w3.setCell ⟨t, j, none⟩ (.int .u32 x)) := hbel.setCell hbase _
  clear hbel ht3
  go_wp2
  go_loopw [27] (fun i wr => ∃ k : Nat, k ≤ 256 ∧ i = .int .i64 k ∧ IsTab wr u tab ∧ Below w.heap.size w wr) (fun i _ => 256 - (intOf i).toNat)
  case atStart => exact ⟨0, by omega, rfl, htu, hB⟩
  case round =>
    obtain ⟨k, hk, rfl, htu, hB⟩ := hrel
    by_cases hlt : k < 256
    · have hck := (htu k hlt).2
      have hk32 : k < 4294967296 := by omega
      have hk0 : (0 : Int) ≤ (k : Int) := by omega
      have hk1 : (k : Int) < 256 := by omega
      have hbne : (((tab k : Nat) : Int) != ((halves k 8 : Nat) : Int)) = false := by simp [tab]
      go_wp2
      go_quiet ((go_at_call 10; refine Calls.quiet_of_same ((halve_any k hk32 8 (by omega) _).mono fun e w' h => ⟨h.1, h.2.symm⟩)))
      go_wp2
      go_roundw
      case rel => exact ⟨k + 1, by omega, by go_num, htu, below_drewN hB _⟩
      case measure => simp [intOf]; omega
    · obtain rfl : k = 256 := by omega
      go_wp2
      go_ret
      exact ⟨rfl, hB⟩

theorem crcTable_law (v0 v1 : Value) (D0 D1 : D) (W : World) (r0 : RdV Try.prog W 3 v0 D0) (r1 : RdV Try.prog W 22 v1 D1) :
    Calls Try.prog 3 #[v0, v1] W fun e w' => e = .returned (.bool true) ∧ Below W.heap.size W w' := by
  obtain ⟨i, rfl, _, _⟩ := r0.int Try.underlying3
  obtain ⟨x, rfl, _, _⟩ := r1.int Try.underlying22
  exact crcTable_walk i x W

end Go.Proofs.Ytjgmfbpdnjapkaa
