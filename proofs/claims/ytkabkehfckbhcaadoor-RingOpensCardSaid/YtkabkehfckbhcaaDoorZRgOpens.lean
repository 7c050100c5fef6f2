/-
  ring: RingOpens walked.
-/
import Derived.Test.YtkabkehfckbhcaaDoorZRgOpX
namespace Go.Proofs.YtkabkehfckbhcaaDoor
set_option linter.unusedVariables false
set_option linter.unusedSimpArgs false
open Go.RowKit

theorem rnew200 (w : World) : Calls Tryd.prog 10 #[.int .i64 200] w fun e w' => ∃ rb fb cap, e = .returned (.tuple #[.pointer (some ⟨rb, 0, none⟩), .int .i64 0]) ∧ IsRd w' w.heap.size rb fb cap (.slice none 0 0) (.slice none 0 0) (DK.new 200) ∧ Below w.heap.size w w' := ref_new w 200 (by decide) (by decide)
theorem mkr_info (pl : Int) (nu : Nat) {la : List Nat} (h : la.length = 32) : (Tryd.prog.info? 38).map (·.size) = some (mkL pl nu la).toArray.size := by
  rw [List.size_toArray, mkL_length _ _ h]; kernel_rfl
theorem mkL_one (pl : Int) (nu : Nat) (la : List Nat) : (mkL pl nu la).toArray.all (·.oneCell') = true := all_oneCell_toArray (by
  intro u hu
  simp only [mkL, List.mem_cons] at hu
  rcases hu with rfl | rfl | hu
  · rfl
  · rfl
  · exact bv_one _ u hu)
set_option maxRecDepth 100000 in
set_option maxHeartbeats 8000000 in
theorem opens_walk (v0 v1 v2 : Value) (D0 D1 D2 : D) (W : World) (r0 : RdV Tryd.prog W 25 v0 D0) (r1 : RdV Tryd.prog W 26 v1 D1) (r2 : RdV Tryd.prog W 27 v2 D2) (hg : HasET W) :
    Calls Tryd.prog 3 #[v0, v1, v2] W fun e w' => e = .returned (.bool true) ∧ Below W.heap.size W w' := by
  obtain ⟨place, num, last, rfl, hl, hlb, hnum, hp1, hp2⟩ := r0.mark
  obtain ⟨aa, ac, l2, rfl, hac, hal, hat⟩ := r1.tup2
  obtain ⟨ba, bc, lb, rfl, hbc, hbl, hbt⟩ := r2.tup3
  obtain ⟨an, han⟩ : ∃ n, n = l2.length := ⟨_, rfl⟩
  obtain ⟨bn, hbn⟩ : ∃ n, n = lb.length := ⟨_, rfl⟩
  rw [← han] at hac hal ⊢
  rw [← hbn] at hbc hbl ⊢
  have HM := Lib.hid (MarkOk.mk hl hlb hnum)
  have HA := Lib.hid (And.intro hat han)
  have HB := Lib.hid (And.intro hbt hbn)
  have HG := Lib.hid hg
  have hll2 : (an : Int) ≤ 35184372088832 := by omega
  have hbb2 : (bn : Int) ≤ 35184372088832 := by omega
  clear r0 r1 r2 hl hlb hnum hp1 hp2 hac hbc hat hbt han hbn hg
  have hfew := fun w => few_any w aa an ac hll2
  go_enter Tryd.func3, Tryd.ntmps3
  unfold markV
  go_upto_region 1 with fail
  change Code.wp _ _ _ _ (W.alloc (.cells (.int .i64 place :: .int .u64 ((num : Nat) : Int) :: bv last).toArray 25))
  have hmk : IsBlk (W.alloc (.cells (.int .i64 place :: .int .u64 ((num : Nat) : Int) :: bv last).toArray 25)) W.heap.size (.int .i64 place :: .int .u64 ((num : Nat) : Int) :: bv last).toArray 25 := IsBlk.new _ _ _
  have hb : Below W.heap.size W (W.alloc (.cells (.int .i64 place :: .int .u64 ((num : Nat) : Int) :: bv last).toArray 25)) := (Below.refl _ _).alloc (Nat.le_refl _) _
  generalize W.alloc (.cells (.int .i64 place :: .int .u64 ((num : Nat) : Int) :: bv last).toArray 25) = w1 at hmk hb ⊢
  have H1 := Lib.hid (And.intro hmk hb)
  clear hmk hb
  generalize hmb : W.heap.size = mb at H1 ⊢
  have HMB := Lib.hid hmb
  clear hmb
  by_cases h40 : (an : Int) ≤ 40
  · rw [decide_eq_true h40] at hfew
    by_cases h50 : (bn : Int) ≤ 50
    · have g1 : ¬ (50 : Int) < (bn : Int) := by omega
      go_upto_region 6 with (first
        | (go_at_call 7; (with_reducible refine (stands_any _).mono ?_); rintro e w2 ⟨rfl, hb2⟩; have H2 := Lib.hid hb2; clear hb2)
        | (go_at_call 8; (with_reducible refine (hfew _).mono ?_); rintro e w' ⟨rfl, hw'⟩; obtain rfl := hw'.symm))
      clear hfew
      go_upto_region 8 with (first
        | (go_at_call 9; (with_reducible refine (new200 _).mono ?_); rintro e w3 ⟨db, rfl, h3, hb3⟩; have H3 := Lib.hid (And.intro h3 hb3); clear h3 hb3)
        | (go_at_call 10; (with_reducible refine (rnew200 _).mono ?_); rintro e w4 ⟨kb, fb, cap, rfl, h4, hb4⟩; have H4 := Lib.hid (And.intro h4 hb4); clear h4 hb4))
      have hb24 : Below w2.heap.size w2 w4 := H3.out.2.trans (H4.out.2.mono H3.out.2.size)
      have hmk4 := (H1.out.1.below H2.out H1.out.1.lt).below hb24 (H1.out.1.below H2.out H1.out.1.lt).lt
      have hri := RI.begin H3.out.1 (Nat.le_refl _) H4.out.1 H4.out.2 H3.out.2.size
      have hWB : W.heap.size ≤ w2.heap.size := Nat.le_trans (by rw [HMB.out]; exact Nat.le_of_lt H1.out.1.lt) H2.out.size
      have hE : EndI W w4 w2.heap.size db kb mb (DK.new 200) 200 0 place num last := ⟨hri, onB_new 200, Nat.zero_le _, HM.out, hmk4, ?_, HG.out, hb24.size, Nat.lt_of_lt_of_le H1.out.1.lt H2.out.size, hWB⟩
      rotate_left
      · rw [HMB.out]
        exact H1.out.2.trans ((H2.out.trans (hb24.mono H2.out.size)).mono (Nat.le_of_lt H1.out.1.lt))
      have HE := Lib.hid hE
      clear hb24 hmk4 hri hWB hE H3 H4
      have hma := mark_any w4 place ((num : Nat) : Int) last HM.out.len
      unfold markV at hma
      have H5 := Lib.hid (And.intro (show w4.heap[mb]? = some (.cells (.int .i64 place :: .int .u64 ((num : Nat) : Int) :: bv last).toArray 25 (0, 0)) from HE.out.mbk) (mkv_info place ((num : Nat) : Int) last HM.out.len))
      have hzs : (markL zeroM).toArray.size = (mkL place num last).toArray.size := by rw [List.size_toArray, List.size_toArray, mkL_length _ _ HM.out.len]; rfl
      go_cut [12] (fun v wx => ∃ ab, v = .pointer (some ⟨ab, 0, none⟩) ∧ Hid (AtI W wx w2.heap.size db kb mb ab (DK.new 200) 0 place num last place num last))
      case first =>
        go_wp2_with (first
          | (refine wpList_load_row (by rfl) 25 (.tmp 3) (by rfl) mb (by rfl) 25 _ (0, 0) _ H5.out.1 Tryd.underlying25 (by rfl) H5.out.2 ?_)
          | (go_at_call 11; (with_reducible refine hma.mono ?_); rintro e w5 ⟨rfl, hb5⟩; have H6 := Lib.hid hb5; clear hb5)
          | (refine wpList_alloc_info (by rfl) 38 (by rfl) (.agg (markL zeroM).toArray) (markL zeroM).toArray (by kernel_rfl) rfl ?_)
          | (refine wpList_store_row (by rfl) 38 (.tmp 12) (.tmp 49) (by rfl) _ (mkL place num last).toArray (by rfl) (by rfl) 38 (markL zeroM).toArray (heap_alloc_new _ _) (mkr_info place num HM.out.len) hzs (mkL_one _ _ _) ?_))
        have hv := mk_var w5 (markL zeroM).toArray (mkL place num last).toArray 38
        generalize (w5.alloc (.cells (markL zeroM).toArray 38)).setRow w5.heap.size (mkL place num last).toArray = w6 at hv ⊢
        have hb46 : Below w4.heap.size w4 w6 := H6.out.trans (hv.2.mono H6.out.size)
        have HF := Lib.hid (show AtI W w6 w2.heap.size db kb mb w5.heap.size (DK.new 200) 0 place num last place num last from ⟨HE.out.below hb46, HE.out.ri.addX hb46 H6.out.size hv.1.lt, hv.1, HM.out, Nat.le_trans HE.out.hB H6.out.size⟩)
        clear hv hb46
        go_meet
        exact ⟨_, rfl, HF.out⟩
      case rest =>
        obtain ⟨ab, rfl, HF⟩ := hcut
        rename_i K1 hK1
        refine hK1 _ _ ?_
        exact opens_adds HF rfl HB (by omega) HA (by omega)
    · have g1 : (50 : Int) < (bn : Int) := by omega
      go_wp2_with (first
        | (go_at_call 7; (with_reducible refine (stands_any _).mono ?_); rintro e w2 ⟨rfl, hb2⟩; have H2 := Lib.hid hb2; clear hb2)
        | (go_at_call 8; (with_reducible refine (hfew _).mono ?_); rintro e w' ⟨rfl, hw'⟩; obtain rfl := hw'.symm))
      go_ret
      exact ⟨rfl, by rw [HMB.out]; exact H1.out.2.trans (H2.out.mono (Nat.le_of_lt H1.out.1.lt))⟩
  · rw [decide_eq_false h40] at hfew
    go_wp2_with (first
      | (go_at_call 7; (with_reducible refine (stands_any _).mono ?_); rintro e w2 ⟨rfl, hb2⟩; have H2 := Lib.hid hb2; clear hb2)
      | (go_at_call 8; (with_reducible refine (hfew _).mono ?_); rintro e w' ⟨rfl, hw'⟩; obtain rfl := hw'.symm))
    go_ret
    exact ⟨rfl, by rw [HMB.out]; exact H1.out.2.trans (H2.out.mono (Nat.le_of_lt H1.out.1.lt))⟩
end Go.Proofs.YtkabkehfckbhcaaDoor
