/-
  cdb: the anchor of the laws.
-/
import Derived.Test.YtpcgnffkhkdkhaaCdbDec
namespace Go.Proofs.Ytpcgnffkhkdkhaa
set_option linter.unusedVariables false
set_option linter.unusedSimpArgs false
open Go.RowKit
attribute [local go_sem ↓] Go.wp_at_zero Go.wp_at_succ

def stB : List Nat := [40, 0, 0, 0, 0, 5, 0, 0, 2, 0, 0, 0, 0, 0, 0, 0]
def stC : List Nat := [255, 0, 0, 0, 0, 0, 0, 0, 0, 0, 0, 0, 0, 0, 0, 0]
theorem dec_stB : decP stB = ({ act := 6, lba := 5, n := 2, alloc := 128 }, 0) := by decide +kernel
theorem dec_stC : decP stC = ({}, 8192) := by decide +kernel
theorem dec_first (w : World) : Calls Try.prog 8 #[.agg #[.int .u8 40, .int .u8 0, .int .u8 0, .int .u8 0, .int .u8 0, .int .u8 5, .int .u8 0, .int .u8 0, .int .u8 2, .int .u8 0, .int .u8 0, .int .u8 0, .int .u8 0, .int .u8 0, .int .u8 0, .int .u8 0]] w
    fun e w' => e = .returned (.tuple #[.agg #[.int .i64 6, .int .u64 5, .int .u64 2, .bool false, .bool false, .int .i64 0, .int .i64 0, .int .i64 0, .int .i64 128, .int .i64 0, .int .i64 0, .bool false], .int .i64 0]) ∧ Below w.heap.size w w' := by
  have h := dec_any stB rfl (by decide) w
  rw [dec_stB] at h
  exact h
theorem dec_second (w : World) : Calls Try.prog 8 #[.agg #[.int .u8 255, .int .u8 0, .int .u8 0, .int .u8 0, .int .u8 0, .int .u8 0, .int .u8 0, .int .u8 0, .int .u8 0, .int .u8 0, .int .u8 0, .int .u8 0, .int .u8 0, .int .u8 0, .int .u8 0, .int .u8 0]] w
    fun e w' => e = .returned (.tuple #[.agg #[.int .i64 0, .int .u64 0, .int .u64 0, .bool false, .bool false, .int .i64 0, .int .i64 0, .int .i64 0, .int .i64 0, .int .i64 0, .int .i64 0, .bool false], .int .i64 8192]) ∧ Below w.heap.size w w' := by
  have h := dec_any stC rfl (by decide) w
  rw [dec_stC] at h
  exact h
theorem eq_known (w : World) : (Op.equalIn 10000 32 (.agg #[.int .i64 6, .int .u64 5, .int .u64 2, .bool false, .bool false, .int .i64 0, .int .i64 0, .int .i64 0, .int .i64 128, .int .i64 0, .int .i64 0, .bool false]) (.agg #[.int .i64 6, .int .u64 5, .int .u64 2, .bool false, .bool false, .int .i64 0, .int .i64 0, .int .i64 0, .int .i64 128, .int .i64 0, .int .i64 0, .bool false])).run Try.prog w = .ok true w := eq_task { act := 6, lba := 5, n := 2, alloc := 128 } { act := 6, lba := 5, n := 2, alloc := 128 } w
theorem alloc_setRow (w : World) (cs ds : Array Value) (t : TypeId) : (w.alloc (.cells cs t)).setRow w.heap.size ds = w.alloc (.cells ds t) := by
  unfold World.setRow World.alloc
  congr 1
  apply Array.ext_getElem?
  intro i
  rw [Array.getElem?_modify]
  by_cases h : w.heap.size = i
  · subst h; simp
  · simp only [if_neg h, Array.getElem?_push]
    by_cases h2 : i = w.heap.size
    · exact absurd h2.symm h
    · simp [h2]

set_option maxRecDepth 100000 in
set_option maxHeartbeats 1000000 in
theorem stands_any (w : World) : Calls Try.prog 7 #[] w fun e w' => e = .returned (.bool true) ∧ Below w.heap.size w w' := by
  have qe := eq_known
  go_enter Try.func7, Try.ntmps7
  go_wp2_with fail
  refine (dec_first _).mono ?_
  rintro e w1 ⟨rfl, hb1⟩
  have HB1 := Lib.hid hb1
  clear hb1
  have K1 := Lib.hid (IsBlk.new w1 #[.int .i64 0, .int .u64 0, .int .u64 0, .bool false, .bool false, .int .i64 0, .int .i64 0, .int .i64 0, .int .i64 0, .int .i64 0, .int .i64 0, .bool false] 32)
  go_wp2_with fail
  have K1b := Lib.hid (IsBlk.new w1 #[.int .i64 6, .int .u64 5, .int .u64 2, .bool false, .bool false, .int .i64 0, .int .i64 0, .int .i64 0, .int .i64 128, .int .i64 0, .int .i64 0, .bool false] 32)
  have HB2 : Hid (Below w.heap.size w (w1.alloc (.cells #[.int .i64 6, .int .u64 5, .int .u64 2, .bool false, .bool false, .int .i64 0, .int .i64 0, .int .i64 0, .int .i64 128, .int .i64 0, .int .i64 0, .bool false] 32))) := Lib.hid (HB1.out.alloc HB1.out.size _)
  generalize hW : w1.alloc (.cells #[.int .i64 6, .int .u64 5, .int .u64 2, .bool false, .bool false, .int .i64 0, .int .i64 0, .int .i64 0, .int .i64 128, .int .i64 0, .int .i64 0, .bool false] 32) = W at *
  clear hW
  generalize w1.heap.size = T1 at *
  go_wp2_with fail
  refine (dec_second _).mono ?_
  rintro e w2 ⟨rfl, hb2⟩
  have K2 : Hid (IsBlk w2 T1 #[.int .i64 6, .int .u64 5, .int .u64 2, .bool false, .bool false, .int .i64 0, .int .i64 0, .int .i64 0, .int .i64 128, .int .i64 0, .int .i64 0, .bool false] 32 ∧ Below w.heap.size w w2) := Lib.hid ⟨K1b.out.below hb2 K1b.out.lt, HB2.out.trans (hb2.mono HB2.out.size)⟩
  clear hb2 K1b HB2 K1 HB1
  have K3 := Lib.hid (IsBlk.new w2 #[.int .i64 0, .int .u64 0, .int .u64 0, .bool false, .bool false, .int .i64 0, .int .i64 0, .int .i64 0, .int .i64 0, .int .i64 0, .int .i64 0, .bool false] 32)
  have K4 := Lib.hid (K2.out.1.alloc (.cells #[.int .i64 0, .int .u64 0, .int .u64 0, .bool false, .bool false, .int .i64 0, .int .i64 0, .int .i64 0, .int .i64 0, .int .i64 0, .int .i64 0, .bool false] 32))
  have ft := K4.out.fz
  have t0 := K4.out.cell 0 (v := .int .i64 6) rfl
  have t1 := K4.out.cell 1 (v := .int .u64 5) rfl
  have t2 := K4.out.cell 2 (v := .int .u64 2) rfl
  have t3 := K4.out.cell 3 (v := .bool false) rfl
  have t4 := K4.out.cell 4 (v := .bool false) rfl
  have t5 := K4.out.cell 5 (v := .int .i64 0) rfl
  have t6 := K4.out.cell 6 (v := .int .i64 0) rfl
  have t7 := K4.out.cell 7 (v := .int .i64 0) rfl
  have t8 := K4.out.cell 8 (v := .int .i64 128) rfl
  have t9 := K4.out.cell 9 (v := .int .i64 0) rfl
  have t10 := K4.out.cell 10 (v := .int .i64 0) rfl
  have t11 := K4.out.cell 11 (v := .bool false) rfl
  go_wp2_with fail
  go_ret
  exact ⟨rfl, K2.out.2.alloc K2.out.2.size _⟩
end Go.Proofs.Ytpcgnffkhkdkhaa
