/-
  cdb: Decode, one kind.
-/
import Derived.Test.YtpcgnffkhkdkhaaCdbState
namespace Go.Proofs.Ytpcgnffkhkdkhaa
set_option linter.unusedVariables false
set_option linter.unusedSimpArgs false
open Go.RowKit
attribute [local go_sem ↓] Go.wp_at_zero Go.wp_at_succ

set_option maxRecDepth 100000 in
set_option maxHeartbeats 2000000 in
theorem dec_X (b : List Nat) (hl : b.length = 16) (hb : ∀ c ∈ b, c < 256) (w : World) (hop : ∀ x ∈ [0, 18, 37, 158, 160, 94, 95, 66], b.getD 0 0 ≠ x) :
    Calls Try.prog 8 #[.agg (nv .u8 b)] w fun e w' => e = .returned (.tuple #[.agg (decP b).1.cells, .int .i64 ((decP b).2 : Nat)]) ∧ Below w.heap.size w w' := by
  have HL := Lib.hid hl
  have HB := Lib.hid hb
  have HO := Lib.hid hop
  clear hl hb
  go_enter Try.func8, Try.ntmps8
  go_upto_region 2 with fail
  have HK : Hid (Bk w w.heap.size (w.heap.size + 1) (w.heap.size + 1 + 1) b (((w.alloc (.cells (nv .u8 b) 29)).alloc (.cells (({} : TK).cells) 32)).alloc (.cells (({} : TK).cells) 32)) {}) := Lib.hid (bk_start w b)
  have hw3 : (((w.alloc (.cells (nv .u8 b) 29)).alloc (.cells (({} : TK).cells) 32)).alloc (.cells (({} : TK).cells) 32)) = (((w.alloc (.cells (nv .u8 b) 29)).alloc (.cells #[Value.int .i64 0, Value.int .u64 0, Value.int .u64 0, Value.bool false, Value.bool false, Value.int .i64 0, Value.int .i64 0, Value.int .i64 0, Value.int .i64 0, Value.int .i64 0, Value.int .i64 0, Value.bool false] 32)).alloc (.cells #[Value.int .i64 0, Value.int .u64 0, Value.int .u64 0, Value.bool false, Value.bool false, Value.int .i64 0, Value.int .i64 0, Value.int .i64 0, Value.int .i64 0, Value.int .i64 0, Value.int .i64 0, Value.bool false] 32)) := rfl
  rw [hw3] at HK
  clear hw3
  generalize (((w.alloc (.cells (nv .u8 b) 29)).alloc (.cells #[Value.int .i64 0, Value.int .u64 0, Value.int .u64 0, Value.bool false, Value.bool false, Value.int .i64 0, Value.int .i64 0, Value.int .i64 0, Value.int .i64 0, Value.int .i64 0, Value.int .i64 0, Value.bool false] 32)).alloc (.cells #[Value.int .i64 0, Value.int .u64 0, Value.int .u64 0, Value.bool false, Value.bool false, Value.int .i64 0, Value.int .i64 0, Value.int .i64 0, Value.int .i64 0, Value.int .i64 0, Value.int .i64 0, Value.bool false] 32)) = W3 at *
  generalize w.heap.size + 1 + 1 = T at *
  generalize w.heap.size + 1 = R at *
  have a0 := HK.out.a.cell 0 (nv_get .u8 b 0 (by have := HL.out; omega))
  simp only [List.mem_cons, List.not_mem_nil, or_false, forall_eq_or_imp, forall_eq] at hop
  obtain ⟨p1, p2, p3, p4, p5, p6, p7, p8⟩ := hop
  have HV : Hid (decP b = blocksP b) := Lib.hid (by unfold decP; simp [p1, p2, p3, p4, p5, p6, p7, p8, -List.getD_eq_getElem?_getD])
  have l0 : b.getD 0 0 < 256 := by
    have h := HL.out
    exact HB.out _ (by simp [List.getD, List.getElem?_eq_getElem (show 0 < b.length by omega)])
  generalize b.getD 0 0 = op at *
  have q1 : ((op : Int) == 0) = false := by simp; omega
  have q2 : ((op : Int) == 18) = false := by simp; omega
  have q3 : ((op : Int) == 37) = false := by simp; omega
  have q4 : ((op : Int) == 158) = false := by simp; omega
  have q5 : ((op : Int) == 160) = false := by simp; omega
  have q6 : ((op : Int) == 94) = false := by simp; omega
  have q7 : ((op : Int) == 95) = false := by simp; omega
  have q8 : ((op : Int) == 66) = false := by simp; omega
  clear p1 p2 p3 p4 p5 p6 p7 p8 HO
  obtain ⟨r, hr⟩ : ∃ r, r = blocksP b := ⟨_, rfl⟩
  rw [← hr] at HV
  have HR := Lib.hid hr
  clear hr
  go_upto_region 3 with fail
  go_wp2_with (first
    | (refine wpList_load_row (by rfl) 29 (.tmp 1) (by rfl) w.heap.size (by rfl) 29 (nv .u8 b) (0, 0) _ (by exact HK.out.a) Try.underlying29 rfl (by rw [nv_size, HL.out]; kernel_rfl) ?_)
    | (go_at_call 12; (refine (blocks_any b HL.out HB.out _).mono ?_); rintro e W5 ⟨rfl, hb5⟩; rw [← HR.out]; have HK5 : Hid (Bk w w.heap.size R T b W5 {}) := Lib.hid (bk_below HK.out hb5); clear hb5)
    | (refine wpList_store_row (by rfl) 32 (.tmp 2) (.tmp 10) (by rfl) R r.1.cells (by rfl) (by rfl) 32 ({} : TK).cells (by exact HK5.out.r) (tk_info _) (by rfl) (tk_one _) ?_))
  exact bodyPost_ret (v := .tuple #[.agg r.1.cells, .int .i64 (r.2 : Nat)]) (results_cell_tmp Try.results8 _ _ R 32 r.1.cells _ (by rfl) (isBlk_setRow HK5.out.r _) _ (by rfl) Try.underlying32 rfl (by kernel_rfl)) rfl ⟨by rw [HV.out], below_setRow HK5.out.bel _ HK5.out.hr _⟩
end Go.Proofs.Ytpcgnffkhkdkhaa
