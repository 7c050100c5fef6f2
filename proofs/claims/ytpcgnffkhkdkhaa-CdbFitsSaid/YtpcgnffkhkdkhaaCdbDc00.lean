/-
  cdb: Decode, one kind.
-/
import Derived.Test.YtpcgnffkhkdkhaaCdbState
namespace Go.Proofs.Ytpcgnffkhkdkhaa
set_option linter.unusedVariables false
set_option linter.unusedSimpArgs false
open Go.RowKit
attribute [local go_sem ↓] Go.wp_at_zero Go.wp_at_succ

set_option maxRecDepth 100000 in
set_option maxHeartbeats 2000000 in
theorem dec_00 (b : List Nat) (hl : b.length = 16) (hb : ∀ c ∈ b, c < 256) (w : World) (hop : b.getD 0 0 = 0) :
    Calls Try.prog 8 #[.agg (nv .u8 b)] w fun e w' => e = .returned (.tuple #[.agg (decP b).1.cells, .int .i64 ((decP b).2 : Nat)]) ∧ Below w.heap.size w w' := by
  have HL := Lib.hid hl
  have HB := Lib.hid hb
  have HO := Lib.hid hop
  clear hl hb
  go_enter Try.func8, Try.ntmps8
  go_upto_region 2 with fail
  have HK : Hid (Bk w w.heap.size (w.heap.size + 1) (w.heap.size + 1 + 1) b (((w.alloc (.cells (nv .u8 b) 29)).alloc (.cells (({} : TK).cells) 32)).alloc (.cells (({} : TK).cells) 32)) {}) := Lib.hid (bk_start w b)
  have hw3 : (((w.alloc (.cells (nv .u8 b) 29)).alloc (.cells (({} : TK).cells) 32)).alloc (.cells (({} : TK).cells) 32)) = (((w.alloc (.cells (nv .u8 b) 29)).alloc (.cells #[Value.int .i64 0, Value.int .u64 0, Value.int .u64 0, Value.bool false, Value.bool false, Value.int .i64 0, Value.int .i64 0, Value.int .i64 0, Value.int .i64 0, Value.int .i64 0, Value.int .i64 0, Value.bool false] 32)).alloc (.cells #[Value.int .i64 0, Value.int .u64 0, Value.int .u64 0, Value.bool false, Value.bool false, Value.int .i64 0, Value.int .i64 0, Value.int .i64 0, Value.int .i64 0, Value.int .i64 0, Value.int .i64 0, Value.bool false] 32)) := rfl
  rw [hw3] at HK
  clear hw3
  generalize (((w.alloc (.cells (nv .u8 b) 29)).alloc (.cells #[Value.int .i64 0, Value.int .u64 0, Value.int .u64 0, Value.bool false, Value.bool false, Value.int .i64 0, Value.int .i64 0, Value.int .i64 0, Value.int .i64 0, Value.int .i64 0, Value.int .i64 0, Value.bool false] 32)).alloc (.cells #[Value.int .i64 0, Value.int .u64 0, Value.int .u64 0, Value.bool false, Value.bool false, Value.int .i64 0, Value.int .i64 0, Value.int .i64 0, Value.int .i64 0, Value.int .i64 0, Value.int .i64 0, Value.bool false] 32)) = W3 at *
  generalize w.heap.size + 1 + 1 = T at *
  generalize w.heap.size + 1 = R at *
  have a0 := HK.out.a.cell 0 (nv_get .u8 b 0 (by have := HL.out; omega))
  rw [hop] at a0
  have t0 := HK.out.t.cell 0 (v := .int .i64 0) rfl
  have ft := HK.out.t.fz
  go_upto_region 34 with fail
  have HK5 : Hid (Bk w w.heap.size R T b (W3.setCell ⟨T, 0, none⟩ (.int .i64 1)) { act := 1 }) := Lib.hid (bk_cell HK.out 0 _ rfl)
  generalize W3.setCell ⟨T, 0, none⟩ (.int .i64 1) = W5 at *
  have HV : Hid (decP b = ({ act := 1 }, 0)) := Lib.hid (by unfold decP; rw [HO.out]; rfl)
  (try clear h1); (try clear h2)
  go_wp2_with (first | (refine wpList_load_row (by rfl) 32 (.tmp 4) (by rfl) T (by rfl) 32 ({ act := 1 } : TK).cells (0, 0) _ (by exact HK5.out.t) Try.underlying32 rfl (tk_info _) ?_) | (refine wpList_store_row (by rfl) 32 (.tmp 2) (.tmp 124) (by rfl) R ({ act := 1 } : TK).cells (by rfl) (by rfl) 32 ({} : TK).cells (by exact HK5.out.r) (tk_info _) (by rfl) (tk_one _) ?_))
  exact bodyPost_ret (v := .tuple #[.agg ({ act := 1 } : TK).cells, .int .i64 0]) (results_cell_tmp Try.results8 _ _ R 32 ({ act := 1 } : TK).cells _ (by rfl) (isBlk_setRow HK5.out.r _) _ (by rfl) Try.underlying32 rfl (by kernel_rfl)) rfl ⟨by rw [HV.out]; rfl, below_setRow HK5.out.bel _ HK5.out.hr _⟩
end Go.Proofs.Ytpcgnffkhkdkhaa
