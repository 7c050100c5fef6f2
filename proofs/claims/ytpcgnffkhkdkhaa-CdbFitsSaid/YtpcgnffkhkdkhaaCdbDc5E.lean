/-
  cdb: Decode, one kind.
-/
import Derived.Test.YtpcgnffkhkdkhaaCdbState
namespace Go.Proofs.Ytpcgnffkhkdkhaa
set_option linter.unusedVariables false
set_option linter.unusedSimpArgs false
open Go.RowKit
attribute [local go_sem ↓] Go.wp_at_zero Go.wp_at_succ

set_option maxRecDepth 100000 in
set_option maxHeartbeats 2000000 in
theorem dec_5E (b : List Nat) (hl : b.length = 16) (hb : ∀ c ∈ b, c < 256) (w : World) (hop : b.getD 0 0 = 94) :
    Calls Try.prog 8 #[.agg (nv .u8 b)] w fun e w' => e = .returned (.tuple #[.agg (decP b).1.cells, .int .i64 ((decP b).2 : Nat)]) ∧ Below w.heap.size w w' := by
  have HL := Lib.hid hl
  have HB := Lib.hid hb
  have HO := Lib.hid hop
  clear hl hb
  go_enter Try.func8, Try.ntmps8
  go_upto_region 2 with fail
  have HK : Hid (Bk w w.heap.size (w.heap.size + 1) (w.heap.size + 1 + 1) b (((w.alloc (.cells (nv .u8 b) 29)).alloc (.cells (({} : TK).cells) 32)).alloc (.cells (({} : TK).cells) 32)) {}) := Lib.hid (bk_start w b)
  have hw3 : (((w.alloc (.cells (nv .u8 b) 29)).alloc (.cells (({} : TK).cells) 32)).alloc (.cells (({} : TK).cells) 32)) = (((w.alloc (.cells (nv .u8 b) 29)).alloc (.cells #[Value.int .i64 0, Value.int .u64 0, Value.int .u64 0, Value.bool false, Value.bool false, Value.int .i64 0, Value.int .i64 0, Value.int .i64 0, Value.int .i64 0, Value.int .i64 0, Value.int .i64 0, Value.bool false] 32)).alloc (.cells #[Value.int .i64 0, Value.int .u64 0, Value.int .u64 0, Value.bool false, Value.bool false, Value.int .i64 0, Value.int .i64 0, Value.int .i64 0, Value.int .i64 0, Value.int .i64 0, Value.int .i64 0, Value.bool false] 32)) := rfl
  rw [hw3] at HK
  clear hw3
  generalize (((w.alloc (.cells (nv .u8 b) 29)).alloc (.cells #[Value.int .i64 0, Value.int .u64 0, Value.int .u64 0, Value.bool false, Value.bool false, Value.int .i64 0, Value.int .i64 0, Value.int .i64 0, Value.int .i64 0, Value.int .i64 0, Value.int .i64 0, Value.bool false] 32)).alloc (.cells #[Value.int .i64 0, Value.int .u64 0, Value.int .u64 0, Value.bool false, Value.bool false, Value.int .i64 0, Value.int .i64 0, Value.int .i64 0, Value.int .i64 0, Value.int .i64 0, Value.int .i64 0, Value.bool false] 32)) = W3 at *
  generalize w.heap.size + 1 + 1 = T at *
  generalize w.heap.size + 1 = R at *
  have a0 := HK.out.a.cell 0 (nv_get .u8 b 0 (by have := HL.out; omega))
  rw [hop] at a0
  obtain ⟨c1, hc1⟩ : ∃ c, c = b.getD 1 0 := ⟨_, rfl⟩
  have a1 := HK.out.a.cell 1 (nv_get .u8 b 1 (by have := HL.out; omega))
  have l1 : c1 < 256 := by
    rw [hc1]
    have h := HL.out
    exact HB.out _ (by simp [List.getD, List.getElem?_eq_getElem (show 1 < b.length by omega)])
  rw [← hc1] at a1
  have HC1 := Lib.hid hc1
  clear hc1
  obtain ⟨q, hq⟩ : ∃ q, q = at_ b 7 2 := ⟨_, rfl⟩
  have lq : q < 65536 := by rw [hq]; exact Nat.lt_of_lt_of_le (at_lt b HB.out 7 2) (by decide)
  have wq : IntKind.i64.wrap (q : Int) = (q : Int) := IntWalk.i64_in _ (by omega)
  have HQ := Lib.hid hq
  clear hq
  have HI : Hid (∀ w', (IsBlk w' w.heap.size (nv .u8 b) 29 ∧ w'.cell? ⟨w.heap.size, 1, none⟩ = some (.int .u8 (c1 : Nat))) → IsBlk w' w.heap.size (nv .u8 b) 29) := Lib.hid (fun w' hw => hw.1)
  have w1 : IntKind.i64.wrap (c1 : Int) = (c1 : Int) := IntWalk.i64_in _ (by omega)
  have t0 := HK.out.t.cell 0 (v := .int .i64 0) rfl
  have t1 := HK.out.t.cell 1 (v := .int .u64 0) rfl
  have t2 := HK.out.t.cell 2 (v := .int .u64 0) rfl
  have t3 := HK.out.t.cell 3 (v := .bool false) rfl
  have t4 := HK.out.t.cell 4 (v := .bool false) rfl
  have t5 := HK.out.t.cell 5 (v := .int .i64 0) rfl
  have t6 := HK.out.t.cell 6 (v := .int .i64 0) rfl
  have t7 := HK.out.t.cell 7 (v := .int .i64 0) rfl
  have t8 := HK.out.t.cell 8 (v := .int .i64 0) rfl
  have t9 := HK.out.t.cell 9 (v := .int .i64 0) rfl
  have t10 := HK.out.t.cell 10 (v := .int .i64 0) rfl
  have t11 := HK.out.t.cell 11 (v := .bool false) rfl
  have ft := HK.out.t.fz
  have hA := HK.out.a
  have nT := HK.out.at_
  have HS : Hid (∀ w', IsBlk w' w.heap.size (nv .u8 b) 29 → IsBlk w' w.heap.size (nv .u8 b) 29 ∧ w'.cell? ⟨w.heap.size, 1, none⟩ = some (.int .u8 (c1 : Nat))) := Lib.hid (fun w' hw => ⟨hw, by rw [HC1.out]; exact hw.cell 1 (nv_get .u8 b 1 (by have := HL.out; omega))⟩)
  go_upto_region 21 with fail
  have HK5 : Hid (Bk w w.heap.size R T b ((((((((((((W3.setCell ⟨T, 0, none⟩ (.int .i64 12)).setCell ⟨T, 1, none⟩ (.int .u64 0)).setCell ⟨T, 2, none⟩ (.int .u64 0)).setCell ⟨T, 3, none⟩ (.bool false)).setCell ⟨T, 4, none⟩ (.bool false)).setCell ⟨T, 5, none⟩ (.int .i64 c1)).setCell ⟨T, 6, none⟩ (.int .i64 0)).setCell ⟨T, 7, none⟩ (.int .i64 0)).setCell ⟨T, 8, none⟩ (.int .i64 q)).setCell ⟨T, 9, none⟩ (.int .i64 0)).setCell ⟨T, 10, none⟩ (.int .i64 0)).setCell ⟨T, 11, none⟩ (.bool false)).drew { act := 12, action := c1, alloc := q }) := Lib.hid (bk_drew (bk_chain HK.out { act := 12, action := c1, alloc := q } (.int .i64 12) (.int .u64 0) (.int .u64 0) (.bool false) (.bool false) (.int .i64 c1) (.int .i64 0) (.int .i64 0) (.int .i64 q) (.int .i64 0) (.int .i64 0) (.bool false) (by rfl)))
  go_region_held3 (fun w' => IsBlk w' w.heap.size (nv .u8 b) 29 ∧ w'.cell? ⟨w.heap.size, 1, none⟩ = some (.int .u8 (c1 : Nat)))
    (with_reducible (first | exact HS.out _ hA | exact HS.out _ (IsBlk.drew hA) | exact HS.out _ (IsBlk.drew (isBlk_chain hA nT _ _ _ _ _ _ _ _ _ _ _ _))))
    ((go_at_call 11; have key := fun W h => numAt (W := W) (A := w.heap.size) (b := b) (t := 29) h HB.out 7 2 (17 - 7 - 1) (by have := HL.out; omega) (by omega) (by omega); rw [← HQ.out] at key; (refine (key _ (by first | with_reducible assumption | exact HI.out _ (by with_reducible assumption))).mono ?_); clear key; rintro e w' ⟨rfl, rfl⟩))
  clear t0 t1 t2 t3 t4 t5 t6 t7 t8 t9 t10 t11 ft hA
  generalize ((((((((((((W3.setCell ⟨T, 0, none⟩ (.int .i64 12)).setCell ⟨T, 1, none⟩ (.int .u64 0)).setCell ⟨T, 2, none⟩ (.int .u64 0)).setCell ⟨T, 3, none⟩ (.bool false)).setCell ⟨T, 4, none⟩ (.bool false)).setCell ⟨T, 5, none⟩ (.int .i64 c1)).setCell ⟨T, 6, none⟩ (.int .i64 0)).setCell ⟨T, 7, none⟩ (.int .i64 0)).setCell ⟨T, 8, none⟩ (.int .i64 q)).setCell ⟨T, 9, none⟩ (.int .i64 0)).setCell ⟨T, 10, none⟩ (.int .i64 0)).setCell ⟨T, 11, none⟩ (.bool false)).drew = W5 at *
  have a1 := HK5.out.a.cell 1 (nv_get .u8 b 1 (by have := HL.out; omega))
  rw [← HC1.out] at a1
  by_cases h1 : 1 < c1
  · have g2 : decide ((1 : Int) < (c1 : Int)) = true := by simp; omega
    have HV : Hid (decP b = no 9216) := Lib.hid (by unfold decP; rw [HO.out]; simp [-List.getD_eq_getElem?_getD, ← HC1.out, h1])
    (try clear h1); (try clear h2)
    go_wp2_with ((refine wpList_store_row (by rfl) 32 (.tmp 2) (.tmp 78) (by rfl) R ({} : TK).cells (by rfl) (by rfl) 32 ({} : TK).cells (by exact HK5.out.r) (tk_info _) (by rfl) (tk_one _) ?_))
    exact bodyPost_ret (v := .tuple #[.agg ({} : TK).cells, .int .i64 9216]) (results_cell_tmp Try.results8 _ _ R 32 ({} : TK).cells _ (by rfl) (isBlk_setRow HK5.out.r _) _ (by rfl) Try.underlying32 rfl (by kernel_rfl)) rfl ⟨by rw [HV.out]; rfl, below_setRow HK5.out.bel _ HK5.out.hr _⟩
  · have g2 : decide ((1 : Int) < (c1 : Int)) = false := by simp; omega
    have HV : Hid (decP b = ({ act := 12, action := c1, alloc := q }, 0)) := Lib.hid (by unfold decP; rw [HO.out]; simp [-List.getD_eq_getElem?_getD, ← HC1.out, ← HQ.out, h1])
    (try clear h1); (try clear h2)
    go_wp2_with (first | (refine wpList_load_row (by rfl) 32 (.tmp 4) (by rfl) T (by rfl) 32 ({ act := 12, action := c1, alloc := q } : TK).cells (0, 0) _ (by exact HK5.out.t) Try.underlying32 rfl (tk_info _) ?_) | (refine wpList_store_row (by rfl) 32 (.tmp 2) (.tmp 124) (by rfl) R ({ act := 12, action := c1, alloc := q } : TK).cells (by rfl) (by rfl) 32 ({} : TK).cells (by exact HK5.out.r) (tk_info _) (by rfl) (tk_one _) ?_))
    exact bodyPost_ret (v := .tuple #[.agg ({ act := 12, action := c1, alloc := q } : TK).cells, .int .i64 0]) (results_cell_tmp Try.results8 _ _ R 32 ({ act := 12, action := c1, alloc := q } : TK).cells _ (by rfl) (isBlk_setRow HK5.out.r _) _ (by rfl) Try.underlying32 rfl (by kernel_rfl)) rfl ⟨by rw [HV.out]; rfl, below_setRow HK5.out.bel _ HK5.out.hr _⟩
end Go.Proofs.Ytpcgnffkhkdkhaa
