/-
  sha: the anchor; ShaSums.
-/
import Derived.Test.YtiakkjdkbpbejaaShaRef
import Derived.Lib.SlBytesConst
namespace Go.Proofs.Ytiakkjdkbpbejaa
set_option linter.unusedVariables false
set_option linter.unusedSimpArgs false
open Go.RowKit

theorem nv_map (k : IntKind) (l : List Nat) : nv k l = ((l.map fun (c : Nat) => (c : Int)).map (Value.int k)).toArray := by simp [nv, Function.comp_def]
theorem eq_digest (D E : List Nat) (hD : D.length = 32) (hE : E.length = 32) (w : World) : (Op.equalIn 10000 24 (.agg (nv .u8 D)) (.agg (nv .u8 E))).run Try.prog w = .ok (decide (D = E)) w := by
  have h := run_equalIn_array (P := Try.prog) (t := 24) (e := 5) (n := 32) (k := .u8) 9998 (by kernel_rfl) (by kernel_rfl) (fun w => by kernel_rfl) (D.map fun (c : Nat) => (c : Int)) (E.map fun (c : Nat) => (c : Int)) (by simp [hD]) (by simp [hE]) w
  rw [nv_map, nv_map, h]
  congr 1
  rw [Bool.eq_iff_iff]
  simp only [beq_iff_eq, decide_eq_true_eq]
  constructor
  · intro he
    exact List.map_inj_right (f := fun (c : Nat) => (c : Int)) (fun a b h => by exact Int.ofNat.inj h) |>.1 he
  · rintro rfl; rfl
theorem eq_same (D : List Nat) (hD : D.length = 32) (w : World) : (Op.equalIn 10000 24 (.agg (nv .u8 D)) (.agg (nv .u8 D))).run Try.prog w = .ok true w := by
  rw [eq_digest D D hD hD]; simp

set_option maxRecDepth 100000 in
set_option maxHeartbeats 2000000 in
theorem stands_any (w : World) : Calls Try.prog 8 #[] w fun e w' => e = .returned (.bool true) ∧ Below w.heap.size w w' := by
  have kc := fun (w : World) (C : Array Value) (n c : Nat) => Lib.run_convert_bytes_const (P := Try.prog) w 22 5 C n c (by kernel_rfl) (by kernel_rfl)
  have hq := eq_same (digest []) (digest_length _)
  go_enter Try.func8, Try.ntmps8
  go_wp2_with fail
  have hb0 : Below w.heap.size w (w.alloc (.cells #[.int .u8 97, .int .u8 98, .int .u8 99] 5 (3, 4))) := (Below.refl _ _).alloc (Nat.le_refl _) _
  have hm0 : IsBytes (w.alloc (.cells #[.int .u8 97, .int .u8 98, .int .u8 99] 5 (3, 4))) (some ⟨w.heap.size, 0, none⟩) [97, 98, 99] := by
    refine ⟨by decide, .inr ⟨_, 0, rfl, fun i hi => ?_⟩⟩
    have hh := heap_alloc_new w (.cells #[.int .u8 97, .int .u8 98, .int .u8 99] 5 (3, 4))
    unfold World.cell?
    rw [hh]
    match i, hi with
    | 0, _ => rfl
    | 1, _ => rfl
    | 2, _ => rfl
  refine (sum_any _ (some ⟨w.heap.size, 0, none⟩) 3 3 [97, 98, 99] (Lib.hid rfl) hm0 (by intro h; cases h) (by decide)).mono ?_
  rintro e w1 ⟨rfl, hb1⟩
  have hB1 := Lib.hid (hb0.trans (hb1.mono (by simp)))
  have hw1 : w.heap.size ≤ w1.heap.size := hB1.out.size
  clear hb0 hm0 hb1
  have hz := zero_32 (digest [97, 98, 99])
  obtain ⟨D0, hD0⟩ : ∃ D, D = digest [97, 98, 99] := ⟨_, rfl⟩
  have h32 := digest_length [97, 98, 99]
  have hab := digest_abc
  rw [← hD0] at hz h32 hab ⊢
  have HD := Lib.hid (And.intro h32 hab)
  clear hD0 h32 hab
  go_wp2_with (refine wpList_store_row (by rfl) 24 (.tmp 1) (.tmp 4) (by rfl) w1.heap.size (nv .u8 D0) (by rfl) (by rfl) 24 (nv .u8 (orow D0 0)) (heap_alloc_new w1 _) (by rw [nv_size, HD.out.1]; kernel_rfl) (by rw [nv_size, nv_size, orow_length, HD.out.1]) (nv_one _ _) ?_; have k3 := isBlk_setRow (IsBlk.new w1 (nv .u8 (orow D0 0)) 24) (nv .u8 D0); have hb3 := Lib.hid (below_setRow (hB1.out.alloc hw1 _) w1.heap.size hw1 (nv .u8 D0) : Below w.heap.size w ((w1.alloc (.cells (nv .u8 (orow D0 0)) 24)).setRow w1.heap.size (nv .u8 D0))); generalize (w1.alloc (.cells (nv .u8 (orow D0 0)) 24)).setRow w1.heap.size (nv .u8 D0) = w3 at *; have c0 := k3.cell 0 (nv_get .u8 D0 0 (by rw [HD.out.1]; decide)); have c1 := k3.cell 1 (nv_get .u8 D0 1 (by rw [HD.out.1]; decide)); have c31 := k3.cell 31 (nv_get .u8 D0 31 (by rw [HD.out.1]; decide)); rw [HD.out.2.1] at c0; rw [HD.out.2.2.1] at c1; rw [HD.out.2.2.2] at c31; clear k3)
  refine (newS _).mono ?_
  rintro e w4 ⟨rfl, hb4, hs4, hn4⟩
  have hB4 := Lib.hid (hb3.out.trans (hb4.mono hb3.out.size))
  have HN4 := Lib.hid hn4
  clear hb4 hn4 c0 c1 c31
  go_wp2_with fail
  refine (sumS HN4.out (by omega)).mono ?_
  rintro e w5 ⟨rfl, hb5⟩
  have hB5 := Lib.hid (hB4.out.trans (hb5.mono hB4.out.size))
  clear hb5
  go_wp2_with fail
  refine (sumR_any _ none 0 0 [] (Lib.hid rfl) ⟨by simp, .inl rfl⟩ (fun _ => rfl) (by decide)).mono ?_
  rintro e w6 ⟨rfl, hb6⟩
  have hB6 := Lib.hid (hB5.out.trans (hb6.mono hB5.out.size))
  clear hb6
  go_wp2
  go_ret
  exact ⟨rfl, hB6.out⟩
end Go.Proofs.Ytiakkjdkbpbejaa
