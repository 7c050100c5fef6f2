/-
  cdb: blocks, one kind.
-/
import Derived.Test.YtpcgnffkhkdkhaaCdbBlocks
namespace Go.Proofs.Ytpcgnffkhkdkhaa
set_option linter.unusedVariables false
set_option linter.unusedSimpArgs false
open Go.RowKit
attribute [local go_sem ↓] Go.wp_at_zero Go.wp_at_succ

set_option maxRecDepth 100000 in
set_option maxHeartbeats 4000000 in
theorem bk_8A (b : List Nat) (hl : b.length = 16) (hb : ∀ c ∈ b, c < 256) (w : World) (hop : b.getD 0 0 = 138) :
    Calls Try.prog 12 #[.agg (nv .u8 b)] w fun e w' => e = .returned (.tuple #[.agg (blocksP b).1.cells, .int .i64 ((blocksP b).2 : Nat)]) ∧ Below w.heap.size w w' := by
  have HL := Lib.hid hl
  have HB := Lib.hid hb
  clear hl hb
  go_enter Try.func12, Try.ntmps12
  go_upto_region 1 with fail
  go_cut [4] (fun s4 wx => ∃ T, s4 = .pointer (some ⟨T, 0, none⟩) ∧ Bk w w.heap.size (w.heap.size + 1) T b wx { lba := at_ b 2 4, n := at_ b 7 2 })
  case first =>
    have kA : IsBlk ((w.alloc (.cells (nv .u8 b) 29)).alloc (.cells (({} : TK).cells) 32)) w.heap.size (nv .u8 b) 29 := (IsBlk.new w _ _).alloc _
    have kR : IsBlk ((w.alloc (.cells (nv .u8 b) 29)).alloc (.cells (({} : TK).cells) 32)) (w.heap.size + 1) (({} : TK).cells) 32 := by
      have := IsBlk.new (w.alloc (.cells (nv .u8 b) 29)) (({} : TK).cells) 32
      rwa [World.size_alloc] at this
    have kB : Below w.heap.size w ((w.alloc (.cells (nv .u8 b) 29)).alloc (.cells (({} : TK).cells) 32)) := ((Below.refl _ _).alloc (Nat.le_refl _) _).alloc (by simp) _
    have hs : w.heap.size + 1 < ((w.alloc (.cells (nv .u8 b) 29)).alloc (.cells (({} : TK).cells) 32)).heap.size := by simp
    have e0 : ({} : TK).cells = #[Value.int .i64 0, Value.int .u64 0, Value.int .u64 0, Value.bool false, Value.bool false, Value.int .i64 0, Value.int .i64 0, Value.int .i64 0, Value.int .i64 0, Value.int .i64 0, Value.int .i64 0, Value.bool false] := rfl
    have H0 := Lib.hid (And.intro kA (And.intro kR kB))
    have hA := kA
    rw [e0] at hA hs H0
    clear kA kR kB e0
    generalize ((w.alloc (.cells (nv .u8 b) 29)).alloc (.cells #[Value.int .i64 0, Value.int .u64 0, Value.int .u64 0, Value.bool false, Value.bool false, Value.int .i64 0, Value.int .i64 0, Value.int .i64 0, Value.int .i64 0, Value.int .i64 0, Value.int .i64 0, Value.bool false] 32)) = W0 at *
    go_region_held3 (fun w' => IsBlk w' w.heap.size (nv .u8 b) 29) (first | assumption | exact IsBlk.alloc (by assumption) _ | exact IsBlk.drew (by assumption) | exact IsBlk.drew (IsBlk.alloc (by assumption) _))
      ((go_at_call 11; (refine (numAt (b := b) (t := 29) (by assumption) HB.out _ _ _ (by have := HL.out; omega) (by omega) (by omega)).mono ?_); rintro e w' ⟨rfl, rfl⟩))
    all_goals
      go_wp2_with fail
      go_meet
      refine ⟨W0.heap.size, rfl, ?_⟩
      exact ⟨(H0.out.1.alloc _).drew, (H0.out.2.1.alloc _).drew, (IsBlk.new W0 _ _).drew, (H0.out.2.2.alloc H0.out.2.2.size _).drew, by omega, by omega, by omega, by omega, by omega, H0.out.2.2.size⟩
  case rest =>
    obtain ⟨T, rfl, hk⟩ := hcut
    have a0 := hk.a.cell 0 (nv_get .u8 b 0 (by have := HL.out; omega))
    rw [hop] at a0
    have a13 := hk.a.cell 13 (nv_get .u8 b 13 (by have := HL.out; omega))
    have h13 : b.getD 13 0 < 256 := by
      have h := HL.out
      exact HB.out _ (by simp [List.getD, List.getElem?_eq_getElem (show 13 < b.length by omega)])
    obtain ⟨c13, hc13⟩ : ∃ c, c = b.getD 13 0 := ⟨_, rfl⟩
    rw [← hc13] at a13 h13
    have w13 : IntKind.u64.wrap (c13 : Int) = (c13 : Int) := by rw [IntKind.wrap_u64]; omega
    have HC13 := Lib.hid hc13
    clear hc13
    have t1 := hk.t.cell 1 (v := .int .u64 (at_ b 2 4 : Nat)) rfl
    have t2 := hk.t.cell 2 (v := .int .u64 (at_ b 7 2 : Nat)) rfl
    have ft := hk.t.fz
    have n2 := hk.at_
    have hA := hk.a
    have HK := Lib.hid hk
    clear hk
    go_upto_block 0 with fail
    go_cut [4] (fun s4 wx => s4 = .pointer (some ⟨T, 0, none⟩) ∧ Bk w w.heap.size (w.heap.size + 1) T b wx { lba := at_ b 2 8, n := at_ b 10 4 })
    case first =>
      have HS : Hid (∀ w', IsBlk w' w.heap.size (nv .u8 b) 29 → IsBlk w' w.heap.size (nv .u8 b) 29 ∧ w'.cell? ⟨w.heap.size, 13, none⟩ = some (.int .u8 (c13 : Nat))) := fun w' hw => ⟨hw, by rw [HC13.out]; exact hw.cell 13 (nv_get .u8 b 13 (by have := HL.out; omega))⟩
      have HI : Hid (∀ w', (IsBlk w' w.heap.size (nv .u8 b) 29 ∧ w'.cell? ⟨w.heap.size, 13, none⟩ = some (.int .u8 (c13 : Nat))) → IsBlk w' w.heap.size (nv .u8 b) 29) := fun w' hw => hw.1
      go_wp2_with fail
      go_region_held3 (fun w' => IsBlk w' w.heap.size (nv .u8 b) 29 ∧ w'.cell? ⟨w.heap.size, 13, none⟩ = some (.int .u8 (c13 : Nat)))
        (first | exact HS.out _ hA | exact HS.out _ (IsBlk.drew hA) | exact HS.out _ (IsBlk.drew (IsBlk.setOther hA ⟨T, 1, none⟩ _ n2)) | exact HS.out _ (IsBlk.drew (IsBlk.setOther (IsBlk.setOther hA ⟨T, 1, none⟩ _ n2) ⟨T, 2, none⟩ _ n2)))
        ((go_at_call 11; (refine (numAt (b := b) (t := 29) (by first | with_reducible assumption | exact HI.out _ (by with_reducible assumption)) HB.out _ _ _ (by have := HL.out; omega) (by omega) (by omega)).mono ?_); rintro e w' ⟨rfl, rfl⟩))
      all_goals
        go_wp2_with fail
        go_meet
        refine ⟨rfl, ?_⟩
        exact ⟨((HK.out.a.setOther ⟨T, 1, none⟩ _ n2).setOther ⟨T, 2, none⟩ _ n2).drew, ((HK.out.r.setOther ⟨T, 1, none⟩ _ HK.out.rt).setOther ⟨T, 2, none⟩ _ HK.out.rt).drew, IsBlk.drew (isBlk_conv ((HK.out.t.set 1 (.int .u64 (at_ b 2 8 : Nat))).set 2 (.int .u64 (at_ b 10 4 : Nat))) rfl), ((HK.out.bel.setCell (p := ⟨T, 1, none⟩) HK.out.ht _).setCell (p := ⟨T, 2, none⟩) HK.out.ht _).drew, HK.out.ar, HK.out.at_, HK.out.rt, HK.out.ha, HK.out.hr, HK.out.ht⟩
    case rest =>
    clear HK hA t1 t2 ft n2 a0 a13 w13
    obtain ⟨rfl, hk⟩ := hcut
    obtain ⟨n, hn⟩ : ∃ n, n = at_ b 10 4 := ⟨_, rfl⟩
    obtain ⟨l, hlb⟩ : ∃ l, l = at_ b 2 8 := ⟨_, rfl⟩
    rw [← hn, ← hlb] at hk
    have h1 : b.getD 1 0 < 256 := by
      have h := HL.out
      exact HB.out _ (by simp [List.getD, List.getElem?_eq_getElem (show 1 < b.length by omega)])
    have hP : blocksP b = blkP 138 (b.getD 1 0) l n := by
      unfold blocksP lbaP nP
      rw [hop, hn, hlb]; rfl
    have hn16 : n < 4294967296 := by rw [hn]; exact at_lt b HB.out 10 4
    have a0 := hk.a.cell 0 (nv_get .u8 b 0 (by have := HL.out; omega))
    have a1 := hk.a.cell 1 (nv_get .u8 b 1 (by have := HL.out; omega))
    rw [hop] at a0
    generalize b.getD 1 0 = f at *
    have x1 := and8 f h1
    have x2 := andNot8 f h1
    obtain ⟨y, hy⟩ : ∃ y, y = f / 8 % 2 * 8 := ⟨_, rfl⟩
    rw [← hy] at x1
    have x3 : ((y : Int) != 0) = bit3 f := by rw [hy]; unfold bit3; rcases Nat.mod_two_eq_zero_or_one (f / 8) with h | h <;> simp [h]
    have hy2 : y < 256 := by omega
    have hr2 : rest3 f < 256 := by unfold rest3; omega
    have t0 := hk.t.cell 0 (v := .int .i64 0) rfl
    have t1 := hk.t.cell 1 (v := .int .u64 l) rfl
    have t2 := hk.t.cell 2 (v := .int .u64 n) rfl
    have t3 := hk.t.cell 3 (v := .bool false) rfl
    have t4 := hk.t.cell 4 (v := .bool false) rfl
    have t5 := hk.t.cell 5 (v := .int .i64 0) rfl
    have t6 := hk.t.cell 6 (v := .int .i64 0) rfl
    have t7 := hk.t.cell 7 (v := .int .i64 0) rfl
    have t8 := hk.t.cell 8 (v := .int .i64 0) rfl
    have t9 := hk.t.cell 9 (v := .int .i64 0) rfl
    have t10 := hk.t.cell 10 (v := .int .i64 0) rfl
    have t11 := hk.t.cell 11 (v := .bool false) rfl
    have r0 := hk.r.cell 0 (v := .int .i64 0) rfl
    have r1 := hk.r.cell 1 (v := .int .u64 0) rfl
    have r2 := hk.r.cell 2 (v := .int .u64 0) rfl
    have r3 := hk.r.cell 3 (v := .bool false) rfl
    have r4 := hk.r.cell 4 (v := .bool false) rfl
    have r5 := hk.r.cell 5 (v := .int .i64 0) rfl
    have r6 := hk.r.cell 6 (v := .int .i64 0) rfl
    have r7 := hk.r.cell 7 (v := .int .i64 0) rfl
    have r8 := hk.r.cell 8 (v := .int .i64 0) rfl
    have r9 := hk.r.cell 9 (v := .int .i64 0) rfl
    have r10 := hk.r.cell 10 (v := .int .i64 0) rfl
    have r11 := hk.r.cell 11 (v := .bool false) rfl
    have ft := hk.t.fz
    have fr := hk.r.fz
    have n1 := hk.ar
    have n2 := hk.at_
    have n3 := hk.rt
    have HK := Lib.hid hk
    have HY := Lib.hid hy
    have HP := Lib.hid hP
    clear hk hy hP hn hlb
    by_cases hr : rest3 f = 0
    · by_cases hn8 : 8 < n
      ·
        have hmin : 9 ≤ n := by omega
        have hv : blkP 138 f l n = no 9216 := by unfold blkP; simp [hr, hn8]
        have HV := Lib.hid hv
        clear hv
        go_wp2
        all_goals
          refine bodyPost_ret (v := .tuple #[.agg ({} : TK).cells, .int .i64 9216]) (results_cell_tmp Try.results12 _ _ (w.heap.size + 1) 32 ({} : TK).cells _ (by rfl) (stored12 (((HK.out.r.setOther ⟨T, 0, none⟩ _ n3).setOther ⟨T, 3, none⟩ _ n3).setOther ⟨T, 9, none⟩ _ n3) _ _ _ _ _ _ _ _ _ _ _ _) _ (by rfl) Try.underlying32 rfl (by kernel_rfl)) rfl ⟨by rw [HP.out, HV.out]; rfl, ?_⟩
          repeat (first | with_reducible refine Below.setCell ?_ (by first | exact HK.out.ht | exact HK.out.hr) _ | exact HK.out.bel)
      ·
        have hmin : n ≤ 8 := by omega
        have hmin2 : n ≤ 9 := by omega
        have hmin3 : n < 9 := by omega
        have hv : blkP 138 f l n = ({ act := 7, lba := l, n := n, fua := bit3 f, length := 64 * n }, 0) := by unfold blkP; simp [hr, hn8]
        have HV := Lib.hid hv
        clear hv
        go_upto_region 45 with fail
        have kT : IsBlk ((((wc.setCell ⟨T, 0, none⟩ (.int .i64 7)).setCell ⟨T, 3, none⟩ (.bool (bit3 f))).setCell ⟨T, 9, none⟩ (.int .i64 (64 * (n : Int)))).setCell ⟨T, 8, none⟩ (.int .i64 (64 * (n : Int)))) T #[.int .i64 7, .int .u64 l, .int .u64 n, .bool (bit3 f), .bool false, .int .i64 0, .int .i64 0, .int .i64 0, .int .i64 (64 * (n : Int)), .int .i64 (64 * (n : Int)), .int .i64 0, .bool false] 32 :=
          isBlk_conv ((((HK.out.t.set 0 (.int .i64 7)).set 3 (.bool (bit3 f))).set 9 (.int .i64 (64 * (n : Int)))).set 8 (.int .i64 (64 * (n : Int)))) (by simp [TK.cells])
        have kR : IsBlk ((((wc.setCell ⟨T, 0, none⟩ (.int .i64 7)).setCell ⟨T, 3, none⟩ (.bool (bit3 f))).setCell ⟨T, 9, none⟩ (.int .i64 (64 * (n : Int)))).setCell ⟨T, 8, none⟩ (.int .i64 (64 * (n : Int)))) (w.heap.size + 1) (({} : TK).cells) 32 :=
          (((HK.out.r.setOther ⟨T, 0, none⟩ _ n3).setOther ⟨T, 3, none⟩ _ n3).setOther ⟨T, 9, none⟩ _ n3).setOther ⟨T, 8, none⟩ _ n3
        have kB : Below w.heap.size w ((((wc.setCell ⟨T, 0, none⟩ (.int .i64 7)).setCell ⟨T, 3, none⟩ (.bool (bit3 f))).setCell ⟨T, 9, none⟩ (.int .i64 (64 * (n : Int)))).setCell ⟨T, 8, none⟩ (.int .i64 (64 * (n : Int)))) :=
          (((HK.out.bel.setCell (p := ⟨T, 0, none⟩) HK.out.ht _).setCell (p := ⟨T, 3, none⟩) HK.out.ht _).setCell (p := ⟨T, 9, none⟩) HK.out.ht _).setCell (p := ⟨T, 8, none⟩) HK.out.ht _
        generalize ((((wc.setCell ⟨T, 0, none⟩ (.int .i64 7)).setCell ⟨T, 3, none⟩ (.bool (bit3 f))).setCell ⟨T, 9, none⟩ (.int .i64 (64 * (n : Int)))).setCell ⟨T, 8, none⟩ (.int .i64 (64 * (n : Int)))) = W5 at *
        clear t0 t1 t2 t3 t4 t5 t6 t7 t8 t9 t10 t11 r0 r1 r2 r3 r4 r5 r6 r7 r8 r9 r10 r11 ft fr a0 a1
        have t0 := kT.cell 0 (v := .int .i64 7) rfl
        have t1 := kT.cell 1 (v := .int .u64 l) rfl
        have t2 := kT.cell 2 (v := .int .u64 n) rfl
        have t3 := kT.cell 3 (v := .bool (bit3 f)) rfl
        have t4 := kT.cell 4 (v := .bool false) rfl
        have t5 := kT.cell 5 (v := .int .i64 0) rfl
        have t6 := kT.cell 6 (v := .int .i64 0) rfl
        have t7 := kT.cell 7 (v := .int .i64 0) rfl
        have t8 := kT.cell 8 (v := .int .i64 (64 * (n : Int))) rfl
        have t9 := kT.cell 9 (v := .int .i64 (64 * (n : Int))) rfl
        have t10 := kT.cell 10 (v := .int .i64 0) rfl
        have t11 := kT.cell 11 (v := .bool false) rfl
        have r0 := kR.cell 0 (v := .int .i64 0) rfl
        have r1 := kR.cell 1 (v := .int .u64 0) rfl
        have r2 := kR.cell 2 (v := .int .u64 0) rfl
        have r3 := kR.cell 3 (v := .bool false) rfl
        have r4 := kR.cell 4 (v := .bool false) rfl
        have r5 := kR.cell 5 (v := .int .i64 0) rfl
        have r6 := kR.cell 6 (v := .int .i64 0) rfl
        have r7 := kR.cell 7 (v := .int .i64 0) rfl
        have r8 := kR.cell 8 (v := .int .i64 0) rfl
        have r9 := kR.cell 9 (v := .int .i64 0) rfl
        have r10 := kR.cell 10 (v := .int .i64 0) rfl
        have r11 := kR.cell 11 (v := .bool false) rfl
        have ft := kT.fz
        have fr := kR.fz
        have HK5 := Lib.hid (And.intro kR kB)
        clear kT kR kB
        go_wp2
        refine bodyPost_ret (v := .tuple #[.agg ({ act := 7, lba := l, n := n, fua := bit3 f, length := 64 * n } : TK).cells, .int .i64 0]) (results_cell_tmp Try.results12 _ _ (w.heap.size + 1) 32 ({ act := 7, lba := l, n := n, fua := bit3 f, length := 64 * n } : TK).cells _ (by rfl) (stored12 (HK5.out.1.setOther ⟨T, 8, none⟩ _ n3) _ _ _ _ _ _ _ _ _ _ _ _) _ (by rfl) Try.underlying32 rfl (by kernel_rfl)) rfl ⟨by rw [HP.out, HV.out]; rfl, ?_⟩
        repeat (first | with_reducible refine Below.setCell ?_ (by first | exact HK.out.ht | exact HK.out.hr) _ | exact HK5.out.2)
    ·
      have hv : blkP 138 f l n = no 9216 := by unfold blkP; simp [hr]
      have HV := Lib.hid hv
      clear hv
      go_wp2
      refine bodyPost_ret (v := .tuple #[.agg ({} : TK).cells, .int .i64 9216]) (results_cell_tmp Try.results12 _ _ (w.heap.size + 1) 32 ({} : TK).cells _ (by rfl) (stored12 ((HK.out.r.setOther ⟨T, 0, none⟩ _ n3).setOther ⟨T, 3, none⟩ _ n3) _ _ _ _ _ _ _ _ _ _ _ _) _ (by rfl) Try.underlying32 rfl (by kernel_rfl)) rfl ⟨by rw [HP.out, HV.out]; rfl, ?_⟩
      repeat (first | with_reducible refine Below.setCell ?_ (by first | exact HK.out.ht | exact HK.out.hr) _ | exact HK.out.bel)

end Go.Proofs.Ytpcgnffkhkdkhaa
