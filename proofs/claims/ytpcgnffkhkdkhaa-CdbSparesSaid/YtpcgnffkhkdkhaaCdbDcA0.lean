/-
  cdb: Decode, one kind.
-/
import Derived.Test.YtpcgnffkhkdkhaaCdbState
namespace Go.Proofs.Ytpcgnffkhkdkhaa
set_option linter.unusedVariables false
set_option linter.unusedSimpArgs false
open Go.RowKit
attribute [local go_sem ↓] Go.wp_at_zero Go.wp_at_succ

set_option maxRecDepth 100000 in
set_option maxHeartbeats 2000000 in
theorem dec_A0 (b : List Nat) (hl : b.length = 16) (hb : ∀ c ∈ b, c < 256) (w : World) (hop : b.getD 0 0 = 160) :
    Calls Try.prog 8 #[.agg (nv .u8 b)] w fun e w' => e = .returned (.tuple #[.agg (decP b).1.cells, .int .i64 ((decP b).2 : Nat)]) ∧ Below w.heap.size w w' := by
  have HL := Lib.hid hl
  have HB := Lib.hid hb
  have HO := Lib.hid hop
  clear hl hb
  go_enter Try.func8, Try.ntmps8
  go_upto_region 2 with fail
  have HK : Hid (Bk w w.heap.size (w.heap.size + 1) (w.heap.size + 1 + 1) b (((w.alloc (.cells (nv .u8 b) 29)).alloc (.cells (({} : TK).cells) 32)).alloc (.cells (({} : TK).cells) 32)) {}) := Lib.hid (bk_start w b)
  have hw3 : (((w.alloc (.cells (nv .u8 b) 29)).alloc (.cells (({} : TK).cells) 32)).alloc (.cells (({} : TK).cells) 32)) = (((w.alloc (.cells (nv .u8 b) 29)).alloc (.cells #[Value.int .i64 0, Value.int .u64 0, Value.int .u64 0, Value.bool false, Value.bool false, Value.int .i64 0, Value.int .i64 0, Value.int .i64 0, Value.int .i64 0, Value.int .i64 0, Value.int .i64 0, Value.bool false] 32)).alloc (.cells #[Value.int .i64 0, Value.int .u64 0, Value.int .u64 0, Value.bool false, Value.bool false, Value.int .i64 0, Value.int .i64 0, Value.int .i64 0, Value.int .i64 0, Value.int .i64 0, Value.int .i64 0, Value.bool false] 32)) := rfl
  rw [hw3] at HK
  clear hw3
  generalize (((w.alloc (.cells (nv .u8 b) 29)).alloc (.cells #[Value.int .i64 0, Value.int .u64 0, Value.int .u64 0, Value.bool false, Value.bool false, Value.int .i64 0, Value.int .i64 0, Value.int .i64 0, Value.int .i64 0, Value.int .i64 0, Value.int .i64 0, Value.bool false] 32)).alloc (.cells #[Value.int .i64 0, Value.int .u64 0, Value.int .u64 0, Value.bool false, Value.bool false, Value.int .i64 0, Value.int .i64 0, Value.int .i64 0, Value.int .i64 0, Value.int .i64 0, Value.int .i64 0, Value.bool false] 32)) = W3 at *
  generalize w.heap.size + 1 + 1 = T at *
  generalize w.heap.size + 1 = R at *
  have a0 := HK.out.a.cell 0 (nv_get .u8 b 0 (by have := HL.out; omega))
  rw [hop] at a0
  obtain ⟨c2, hc2⟩ : ∃ c, c = b.getD 2 0 := ⟨_, rfl⟩
  have a2 := HK.out.a.cell 2 (nv_get .u8 b 2 (by have := HL.out; omega))
  have l2 : c2 < 256 := by
    rw [hc2]
    have h := HL.out
    exact HB.out _ (by simp [List.getD, List.getElem?_eq_getElem (show 2 < b.length by omega)])
  rw [← hc2] at a2
  have HC2 := Lib.hid hc2
  clear hc2
  obtain ⟨q, hq⟩ : ∃ q, q = at_ b 6 4 := ⟨_, rfl⟩
  have lq : q < 4294967296 := by rw [hq]; exact Nat.lt_of_lt_of_le (at_lt b HB.out 6 4) (by decide)
  have wq : IntKind.i64.wrap (q : Int) = (q : Int) := IntWalk.i64_in _ (by omega)
  have HQ := Lib.hid hq
  clear hq
  have hA := HK.out.a
  go_upto_region 18 with (first | (go_at_call 11; have key := fun W h => numAt (W := W) (A := w.heap.size) (b := b) (t := 29) h HB.out 6 4 (17 - 6 - 1) (by have := HL.out; omega) (by omega) (by omega); rw [← HQ.out] at key; (refine (key _ (by first | assumption | exact HK.out.a)).mono ?_); clear key; rintro e w' ⟨rfl, rfl⟩) | (refine wpList_store_row (by rfl) 32 (.tmp 4) (.tmp 61) (by rfl) T ({ act := 5, alloc := q } : TK).cells (by rfl) (by rfl) 32 (({} : TK).cells) (by exact HK.out.t) (tk_info _) (by rfl) (tk_one _) ?_))
  have HK5 : Hid (Bk w w.heap.size R T b (W3.setRow T ({ act := 5, alloc := q } : TK).cells) { act := 5, alloc := q }) := Lib.hid (bk_store HK.out _)
  generalize W3.setRow T ({ act := 5, alloc := q } : TK).cells = W5 at *
  have a2 := HK5.out.a.cell 2 (nv_get .u8 b 2 (by have := HL.out; omega))
  rw [← HC2.out] at a2
  by_cases h2 : 2 < c2
  · have g2 : decide ((2 : Int) < (c2 : Int)) = true := by simp; omega
    have HV : Hid (decP b = no 9216) := Lib.hid (by unfold decP; rw [HO.out]; simp [-List.getD_eq_getElem?_getD, ← HC2.out, h2])
    (try clear h1); (try clear h2)
    go_wp2_with ((refine wpList_store_row (by rfl) 32 (.tmp 2) (.tmp 65) (by rfl) R ({} : TK).cells (by rfl) (by rfl) 32 ({} : TK).cells (by exact HK5.out.r) (tk_info _) (by rfl) (tk_one _) ?_))
    exact bodyPost_ret (v := .tuple #[.agg ({} : TK).cells, .int .i64 9216]) (results_cell_tmp Try.results8 _ _ R 32 ({} : TK).cells _ (by rfl) (isBlk_setRow HK5.out.r _) _ (by rfl) Try.underlying32 rfl (by kernel_rfl)) rfl ⟨by rw [HV.out]; rfl, below_setRow HK5.out.bel _ HK5.out.hr _⟩
  · have g2 : decide ((2 : Int) < (c2 : Int)) = false := by simp; omega
    have HV : Hid (decP b = ({ act := 5, alloc := q }, 0)) := Lib.hid (by unfold decP; rw [HO.out]; simp [-List.getD_eq_getElem?_getD, ← HC2.out, ← HQ.out, h2])
    (try clear h1); (try clear h2)
    go_wp2_with (first | (refine wpList_load_row (by rfl) 32 (.tmp 4) (by rfl) T (by rfl) 32 ({ act := 5, alloc := q } : TK).cells (0, 0) _ (by exact HK5.out.t) Try.underlying32 rfl (tk_info _) ?_) | (refine wpList_store_row (by rfl) 32 (.tmp 2) (.tmp 124) (by rfl) R ({ act := 5, alloc := q } : TK).cells (by rfl) (by rfl) 32 ({} : TK).cells (by exact HK5.out.r) (tk_info _) (by rfl) (tk_one _) ?_))
    exact bodyPost_ret (v := .tuple #[.agg ({ act := 5, alloc := q } : TK).cells, .int .i64 0]) (results_cell_tmp Try.results8 _ _ R 32 ({ act := 5, alloc := q } : TK).cells _ (by rfl) (isBlk_setRow HK5.out.r _) _ (by rfl) Try.underlying32 rfl (by kernel_rfl)) rfl ⟨by rw [HV.out]; rfl, below_setRow HK5.out.bel _ HK5.out.hr _⟩
end Go.Proofs.Ytpcgnffkhkdkhaa
