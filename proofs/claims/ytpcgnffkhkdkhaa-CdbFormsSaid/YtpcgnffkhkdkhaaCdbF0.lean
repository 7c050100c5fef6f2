/-
  cdb: the law CdbForms: one kind of pair.
-/
import Derived.Test.YtpcgnffkhkdkhaaCdbForms
namespace Go.Proofs.Ytpcgnffkhkdkhaa
set_option linter.unusedVariables false
set_option linter.unusedSimpArgs false
open Go.RowKit
attribute [local go_sem ↓] Go.wp_at_zero Go.wp_at_succ

set_option maxRecDepth 100000 in
set_option maxHeartbeats 8000000 in
theorem forms_0 (k q : Int) (x f : Nat) (hx : x < 4294967296) (hf : f < 256) (w : World) (hj1 : (k.tmod 4 + 4) % 4 = 0) (hj2 : -4 ≤ k.tmod 4) (hj3 : k.tmod 4 ≤ 4) (n : Nat) (hn : n < 65536) (hn1 : IntKind.u16.wrap q = (n : Int)) :
    Calls Try.prog 3 #[.agg #[.int .i64 k, .int .i64 q], .int .u32 x, .int .u8 f] w fun e w' => e = .returned (.bool true) ∧ Below w.heap.size w w' := by
  have HJ1 := Lib.hid hj1
  clear hj1
  obtain ⟨t, c, hr1, hr2, hr3⟩ := forms 40 136 f x n hx hn (by omega)
  have HR1 := Lib.hid (dec_row (tenF 40 f x n) rfl (tenF_ok 40 f x n (by omega) hf hx hn) t c hr1)
  have HR2 := Lib.hid (dec_row (sixF 136 f x n) rfl (sixF_ok 136 f x n (by omega) hf hx hn) t c hr2)
  have HR3 := Lib.hid hr3
  clear hr1 hr2 hr3
  go_enter Try.func3, Try.ntmps3
  go_wp2_with fail
  go_quiet (fail)
  go_wp2_with fail
  refine (stands_any _).mono ?_
  rintro e w1 ⟨rfl, hb1⟩
  have hj1 := HJ1.out
  have HB1 : Hid (Below w.heap.size w w1) := Lib.hid ((drawn_below ((Below.refl _ _).alloc (Nat.le_refl _) _) nq).trans (hb1.mono (by simp)))
  clear hb1
  go_upto_region 8 with fail
  clear hj1 HJ1
  have HW : Hid (IsBlk ((((w1.alloc (.cells #[.int .u8 40, .int .u8 136, .int .u8 42, .int .u8 138, .int .u8 65, .int .u8 147, .int .u8 53, .int .u8 145] 27)).alloc (.cells #[.int .u8 40, .int .u8 136] 26)).alloc (.cells #[.int .u8 40, .int .u8 f, .int .u8 ((x : Int) / 16777216), .int .u8 ((x : Int) / 65536 % 256), .int .u8 ((x : Int) / 256 % 256), .int .u8 ((x : Int) % 256), .int .u8 0, .int .u8 ((n : Int) / 256), .int .u8 ((n : Int) % 256), .int .u8 0, .int .u8 0, .int .u8 0, .int .u8 0, .int .u8 0, .int .u8 0, .int .u8 0] 29)).alloc (.cells #[.int .u8 136, .int .u8 f, .int .u8 0, .int .u8 0, .int .u8 0, .int .u8 0, .int .u8 ((x : Int) / 16777216), .int .u8 ((x : Int) / 65536 % 256), .int .u8 ((x : Int) / 256 % 256), .int .u8 ((x : Int) % 256), .int .u8 0, .int .u8 0, .int .u8 ((n : Int) / 256), .int .u8 ((n : Int) % 256), .int .u8 0, .int .u8 0] 29)) (w1.heap.size + 1 + 1) (nv .u8 (tenF 40 f x n)) 29 ∧ IsBlk ((((w1.alloc (.cells #[.int .u8 40, .int .u8 136, .int .u8 42, .int .u8 138, .int .u8 65, .int .u8 147, .int .u8 53, .int .u8 145] 27)).alloc (.cells #[.int .u8 40, .int .u8 136] 26)).alloc (.cells #[.int .u8 40, .int .u8 f, .int .u8 ((x : Int) / 16777216), .int .u8 ((x : Int) / 65536 % 256), .int .u8 ((x : Int) / 256 % 256), .int .u8 ((x : Int) % 256), .int .u8 0, .int .u8 ((n : Int) / 256), .int .u8 ((n : Int) % 256), .int .u8 0, .int .u8 0, .int .u8 0, .int .u8 0, .int .u8 0, .int .u8 0, .int .u8 0] 29)).alloc (.cells #[.int .u8 136, .int .u8 f, .int .u8 0, .int .u8 0, .int .u8 0, .int .u8 0, .int .u8 ((x : Int) / 16777216), .int .u8 ((x : Int) / 65536 % 256), .int .u8 ((x : Int) / 256 % 256), .int .u8 ((x : Int) % 256), .int .u8 0, .int .u8 0, .int .u8 ((n : Int) / 256), .int .u8 ((n : Int) % 256), .int .u8 0, .int .u8 0] 29)) (w1.heap.size + 1 + 1 + 1) (nv .u8 (sixF 136 f x n)) 29 ∧ Below w.heap.size w ((((w1.alloc (.cells #[.int .u8 40, .int .u8 136, .int .u8 42, .int .u8 138, .int .u8 65, .int .u8 147, .int .u8 53, .int .u8 145] 27)).alloc (.cells #[.int .u8 40, .int .u8 136] 26)).alloc (.cells #[.int .u8 40, .int .u8 f, .int .u8 ((x : Int) / 16777216), .int .u8 ((x : Int) / 65536 % 256), .int .u8 ((x : Int) / 256 % 256), .int .u8 ((x : Int) % 256), .int .u8 0, .int .u8 ((n : Int) / 256), .int .u8 ((n : Int) % 256), .int .u8 0, .int .u8 0, .int .u8 0, .int .u8 0, .int .u8 0, .int .u8 0, .int .u8 0] 29)).alloc (.cells #[.int .u8 136, .int .u8 f, .int .u8 0, .int .u8 0, .int .u8 0, .int .u8 0, .int .u8 ((x : Int) / 16777216), .int .u8 ((x : Int) / 65536 % 256), .int .u8 ((x : Int) / 256 % 256), .int .u8 ((x : Int) % 256), .int .u8 0, .int .u8 0, .int .u8 ((n : Int) / 256), .int .u8 ((n : Int) % 256), .int .u8 0, .int .u8 0] 29))) := by
    refine Lib.hid ⟨(IsBlk.alloc (?_ : IsBlk _ _ _ _) _), ?_, (((HB1.out.alloc HB1.out.size _).alloc (by simp; have := HB1.out.size; omega) _).alloc (by simp; have := HB1.out.size; omega) _).alloc (by simp; have := HB1.out.size; omega) _⟩
    · have := IsBlk.new ((w1.alloc (.cells #[.int .u8 40, .int .u8 136, .int .u8 42, .int .u8 138, .int .u8 65, .int .u8 147, .int .u8 53, .int .u8 145] 27)).alloc (.cells #[.int .u8 40, .int .u8 136] 26)) #[.int .u8 40, .int .u8 f, .int .u8 ((x : Int) / 16777216), .int .u8 ((x : Int) / 65536 % 256), .int .u8 ((x : Int) / 256 % 256), .int .u8 ((x : Int) % 256), .int .u8 0, .int .u8 ((n : Int) / 256), .int .u8 ((n : Int) % 256), .int .u8 0, .int .u8 0, .int .u8 0, .int .u8 0, .int .u8 0, .int .u8 0, .int .u8 0] 29
      rw [World.size_alloc, World.size_alloc] at this
      exact this
    · have := IsBlk.new (((w1.alloc (.cells #[.int .u8 40, .int .u8 136, .int .u8 42, .int .u8 138, .int .u8 65, .int .u8 147, .int .u8 53, .int .u8 145] 27)).alloc (.cells #[.int .u8 40, .int .u8 136] 26)).alloc (.cells #[.int .u8 40, .int .u8 f, .int .u8 ((x : Int) / 16777216), .int .u8 ((x : Int) / 65536 % 256), .int .u8 ((x : Int) / 256 % 256), .int .u8 ((x : Int) % 256), .int .u8 0, .int .u8 ((n : Int) / 256), .int .u8 ((n : Int) % 256), .int .u8 0, .int .u8 0, .int .u8 0, .int .u8 0, .int .u8 0, .int .u8 0, .int .u8 0] 29)) #[.int .u8 136, .int .u8 f, .int .u8 0, .int .u8 0, .int .u8 0, .int .u8 0, .int .u8 ((x : Int) / 16777216), .int .u8 ((x : Int) / 65536 % 256), .int .u8 ((x : Int) / 256 % 256), .int .u8 ((x : Int) % 256), .int .u8 0, .int .u8 0, .int .u8 ((n : Int) / 256), .int .u8 ((n : Int) % 256), .int .u8 0, .int .u8 0] 29
      rw [World.size_alloc, World.size_alloc, World.size_alloc] at this
      exact this
  generalize ((((w1.alloc (.cells #[.int .u8 40, .int .u8 136, .int .u8 42, .int .u8 138, .int .u8 65, .int .u8 147, .int .u8 53, .int .u8 145] 27)).alloc (.cells #[.int .u8 40, .int .u8 136] 26)).alloc (.cells #[.int .u8 40, .int .u8 f, .int .u8 ((x : Int) / 16777216), .int .u8 ((x : Int) / 65536 % 256), .int .u8 ((x : Int) / 256 % 256), .int .u8 ((x : Int) % 256), .int .u8 0, .int .u8 ((n : Int) / 256), .int .u8 ((n : Int) % 256), .int .u8 0, .int .u8 0, .int .u8 0, .int .u8 0, .int .u8 0, .int .u8 0, .int .u8 0] 29)).alloc (.cells #[.int .u8 136, .int .u8 f, .int .u8 0, .int .u8 0, .int .u8 0, .int .u8 0, .int .u8 ((x : Int) / 16777216), .int .u8 ((x : Int) / 65536 % 256), .int .u8 ((x : Int) / 256 % 256), .int .u8 ((x : Int) % 256), .int .u8 0, .int .u8 0, .int .u8 ((n : Int) / 256), .int .u8 ((n : Int) % 256), .int .u8 0, .int .u8 0] 29)) = W0 at *
  generalize w1.heap.size + 1 + 1 + 1 = B12 at *
  generalize w1.heap.size + 1 + 1 = B11 at *
  clear HB1
  go_wp2_with (refine wpList_load_row (by rfl) 29 (.tmp 11) (by rfl) B11 (by rfl) 29 (nv .u8 (tenF 40 f x n)) (0, 0) _ (by exact HW.out.1) Try.underlying29 rfl (by rw [nv_size]; kernel_rfl) ?_)
  refine (HR1.out _).mono ?_
  rintro e w2 ⟨rfl, hb2⟩
  have K2 : Hid (IsBlk w2 B12 (nv .u8 (sixF 136 f x n)) 29 ∧ IsBlk (w2.alloc (.cells ({} : TK).cells 32)) w2.heap.size ({} : TK).cells 32 ∧ Below w.heap.size w w2) := Lib.hid ⟨HW.out.2.1.below hb2 HW.out.2.1.lt, IsBlk.new _ _ _, HW.out.2.2.trans (hb2.mono HW.out.2.2.size)⟩
  clear hb2 HW HR1
  go_upto_region 9 with (refine wpList_store_row (by rfl) 32 (.tmp 13) (.tmp 78) (by rfl) w2.heap.size t.cells (by rfl) (by rfl) 32 ({} : TK).cells (by exact K2.out.2.1) (by kernel_rfl) (by rfl) (tk_one _) ?_)
  have K3 : Hid (IsBlk ((w2.alloc (.cells #[.int .i64 0, .int .u64 0, .int .u64 0, .bool false, .bool false, .int .i64 0, .int .i64 0, .int .i64 0, .int .i64 0, .int .i64 0, .int .i64 0, .bool false] 32)).setRow w2.heap.size t.cells) B12 (nv .u8 (sixF 136 f x n)) 29 ∧ IsBlk ((w2.alloc (.cells #[.int .i64 0, .int .u64 0, .int .u64 0, .bool false, .bool false, .int .i64 0, .int .i64 0, .int .i64 0, .int .i64 0, .int .i64 0, .int .i64 0, .bool false] 32)).setRow w2.heap.size t.cells) w2.heap.size t.cells 32 ∧ Below w.heap.size w ((w2.alloc (.cells #[.int .i64 0, .int .u64 0, .int .u64 0, .bool false, .bool false, .int .i64 0, .int .i64 0, .int .i64 0, .int .i64 0, .int .i64 0, .int .i64 0, .bool false] 32)).setRow w2.heap.size t.cells)) :=
    Lib.hid ⟨isBlk_setRowOther (K2.out.1.alloc _) (by have := K2.out.1.lt; omega) _, isBlk_setRow K2.out.2.1 _, below_setRow (K2.out.2.2.alloc K2.out.2.2.size _) _ K2.out.2.2.size _⟩
  generalize ((w2.alloc (.cells #[.int .i64 0, .int .u64 0, .int .u64 0, .bool false, .bool false, .int .i64 0, .int .i64 0, .int .i64 0, .int .i64 0, .int .i64 0, .int .i64 0, .bool false] 32)).setRow w2.heap.size t.cells) = W3 at *
  clear K2
  generalize w2.heap.size = T1 at *
  go_wp2_with (refine wpList_load_row (by rfl) 29 (.tmp 12) (by rfl) B12 (by rfl) 29 (nv .u8 (sixF 136 f x n)) (0, 0) _ (by exact K3.out.1) Try.underlying29 rfl (by rw [nv_size]; kernel_rfl) ?_)
  refine (HR2.out _).mono ?_
  rintro e w4 ⟨rfl, hb4⟩
  have K4 : Hid (IsBlk w4 T1 t.cells 32 ∧ IsBlk (w4.alloc (.cells ({} : TK).cells 32)) w4.heap.size ({} : TK).cells 32 ∧ Below w.heap.size w w4) := Lib.hid ⟨K3.out.2.1.below hb4 K3.out.2.1.lt, IsBlk.new _ _ _, K3.out.2.2.trans (hb4.mono K3.out.2.2.size)⟩
  clear hb4 K3 HR2
  go_upto_region 10 with (refine wpList_store_row (by rfl) 32 (.tmp 15) (.tmp 83) (by rfl) w4.heap.size t.cells (by rfl) (by rfl) 32 ({} : TK).cells (by exact K4.out.2.1) (by kernel_rfl) (by rfl) (tk_one _) ?_)
  have K5 : Hid (IsBlk ((w4.alloc (.cells #[.int .i64 0, .int .u64 0, .int .u64 0, .bool false, .bool false, .int .i64 0, .int .i64 0, .int .i64 0, .int .i64 0, .int .i64 0, .int .i64 0, .bool false] 32)).setRow w4.heap.size t.cells) T1 t.cells 32 ∧ IsBlk ((w4.alloc (.cells #[.int .i64 0, .int .u64 0, .int .u64 0, .bool false, .bool false, .int .i64 0, .int .i64 0, .int .i64 0, .int .i64 0, .int .i64 0, .int .i64 0, .bool false] 32)).setRow w4.heap.size t.cells) w4.heap.size t.cells 32 ∧ Below w.heap.size w ((w4.alloc (.cells #[.int .i64 0, .int .u64 0, .int .u64 0, .bool false, .bool false, .int .i64 0, .int .i64 0, .int .i64 0, .int .i64 0, .int .i64 0, .int .i64 0, .bool false] 32)).setRow w4.heap.size t.cells)) :=
    Lib.hid ⟨isBlk_setRowOther (K4.out.1.alloc _) (by have := K4.out.1.lt; omega) _, isBlk_setRow K4.out.2.1 _, below_setRow (K4.out.2.2.alloc K4.out.2.2.size _) _ K4.out.2.2.size _⟩
  generalize ((w4.alloc (.cells #[.int .i64 0, .int .u64 0, .int .u64 0, .bool false, .bool false, .int .i64 0, .int .i64 0, .int .i64 0, .int .i64 0, .int .i64 0, .int .i64 0, .bool false] 32)).setRow w4.heap.size t.cells) = W5 at *
  clear K4
  generalize w4.heap.size = T2 at *
  have qe : ∀ w, (Op.equalIn 10000 32 (.agg #[.int .i64 t.act, .int .u64 t.lba, .int .u64 t.n, .bool t.fua, .bool t.unmap, .int .i64 t.action, .int .i64 t.scope, .int .i64 t.type, .int .i64 t.alloc, .int .i64 t.length, .int .i64 t.page, .bool t.vital]) (.agg #[.int .i64 t.act, .int .u64 t.lba, .int .u64 t.n, .bool t.fua, .bool t.unmap, .int .i64 t.action, .int .i64 t.scope, .int .i64 t.type, .int .i64 t.alloc, .int .i64 t.length, .int .i64 t.page, .bool t.vital])).run Try.prog w = .ok true w := fun w => by have := eq_task t t w; rw [decide_eq_true rfl] at this; exact this
  have ft := K5.out.1.fz
  have fu := K5.out.2.1.fz
  have t0 := K5.out.1.cell 0 (v := .int .i64 t.act) rfl
  have u0 := K5.out.2.1.cell 0 (v := .int .i64 t.act) rfl
  have t1 := K5.out.1.cell 1 (v := .int .u64 t.lba) rfl
  have u1 := K5.out.2.1.cell 1 (v := .int .u64 t.lba) rfl
  have t2 := K5.out.1.cell 2 (v := .int .u64 t.n) rfl
  have u2 := K5.out.2.1.cell 2 (v := .int .u64 t.n) rfl
  have t3 := K5.out.1.cell 3 (v := .bool t.fua) rfl
  have u3 := K5.out.2.1.cell 3 (v := .bool t.fua) rfl
  have t4 := K5.out.1.cell 4 (v := .bool t.unmap) rfl
  have u4 := K5.out.2.1.cell 4 (v := .bool t.unmap) rfl
  have t5 := K5.out.1.cell 5 (v := .int .i64 t.action) rfl
  have u5 := K5.out.2.1.cell 5 (v := .int .i64 t.action) rfl
  have t6 := K5.out.1.cell 6 (v := .int .i64 t.scope) rfl
  have u6 := K5.out.2.1.cell 6 (v := .int .i64 t.scope) rfl
  have t7 := K5.out.1.cell 7 (v := .int .i64 t.type) rfl
  have u7 := K5.out.2.1.cell 7 (v := .int .i64 t.type) rfl
  have t8 := K5.out.1.cell 8 (v := .int .i64 t.alloc) rfl
  have u8 := K5.out.2.1.cell 8 (v := .int .i64 t.alloc) rfl
  have t9 := K5.out.1.cell 9 (v := .int .i64 t.length) rfl
  have u9 := K5.out.2.1.cell 9 (v := .int .i64 t.length) rfl
  have t10 := K5.out.1.cell 10 (v := .int .i64 t.page) rfl
  have u10 := K5.out.2.1.cell 10 (v := .int .i64 t.page) rfl
  have t11 := K5.out.1.cell 11 (v := .bool t.vital) rfl
  have u11 := K5.out.2.1.cell 11 (v := .bool t.vital) rfl
  by_cases hc : c = 0
  · obtain ⟨h1, h2⟩ := HR3.out hc
    have g2 : ((t.lba : Int) == (x : Int)) = true := by simp [h1]
    have g3 : ((t.n : Int) == (n : Int)) = true := by simp [h2]
    subst hc
    clear h1 h2 HR3
    go_wp2_with fail
    go_ret
    exact ⟨rfl, K5.out.2.2⟩
  · have g1 : ((c : Int) != 0) = true := by simp; omega
    clear hc HR3
    go_wp2_with fail
    go_ret
    exact ⟨rfl, K5.out.2.2⟩
end Go.Proofs.Ytpcgnffkhkdkhaa
