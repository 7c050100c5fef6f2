/-
  ring: RingRuns walked.
-/
import Derived.Test.YtkabkehfckbhcaaDoorZRgRnX
namespace Go.Proofs.YtkabkehfckbhcaaDoor
set_option linter.unusedVariables false
set_option linter.unusedSimpArgs false
open Go.RowKit

theorem new300 (w : World) : Calls Tryd.prog 9 #[.int .i64 300] w fun e w' => ∃ db, e = .returned (.tuple #[.pointer (some ⟨db, 0, none⟩), .nilIface]) ∧ Dk w.heap.size w' db (DK.new 300) ∧ Below w.heap.size w w' := new_D w 300 (by decide) (by decide)
theorem rnew300 (w : World) : Calls Tryd.prog 10 #[.int .i64 300] w fun e w' => ∃ rb fb cap, e = .returned (.tuple #[.pointer (some ⟨rb, 0, none⟩), .int .i64 0]) ∧ IsRd w' w.heap.size rb fb cap (.slice none 0 0) (.slice none 0 0) (DK.new 300) ∧ Below w.heap.size w w' := ref_new w 300 (by decide) (by decide)
/-- Our Open, on a new disk. -/
theorem open_new {W : World} {B db num : Nat} {last : List Nat} (hdk : Dk B W db (DK.new 300)) (hm : MarkOk num last) (n place : Int) (h : ¬ OpenBad 3 n place ((300 : Nat) : Int)) :
    Calls Tryd.prog 18 #[.pointer (some ⟨db, 0, none⟩), .int .i64 3, .int .i64 n, markV place num last] W fun e w' => ∃ rb a c, e = .returned (.tuple #[.pointer (some ⟨rb, 0, none⟩), .slice a 0 c, .nilIface]) ∧ IsRg 100 w' rb db (rsOf 3 n place num last) ∧ W.heap.size ≤ rb ∧ Below W.heap.size W w' := by
  have hok := rsOf_ok hm h
  have hop := open_ok (s := rsOf 3 n place num last) (hdk.base (Nat.zero_le _)) (onB_new 300) hok rfl
  unfold OpenBad at h
  have e2 : (((rsOf 3 n place num last).n : Nat) : Int) = n := by show ((n.toNat : Nat) : Int) = _; omega
  have e3 : (((rsOf 3 n place num last).place : Nat) : Int) = place := by show ((place.toNat : Nat) : Int) = _; omega
  rw [show (((rsOf 3 n place num last).first : Nat) : Int) = 3 from rfl, e2, markL_eq, e3, openP_new hok] at hop
  refine hop.mono ?_
  rintro e w' ⟨rb, v, rfl, hi⟩
  obtain ⟨a, m, c, rfl, hm⟩ := hi.slice
  have hm0 : m = 0 := hm.out
  subst hm0
  exact ⟨rb, a, c, rfl, hi.rg, hi.hrb, hi.bel⟩
/-- The document's Open, on a new disk. -/
theorem ropen_new {W : World} {kb num : Nat} {last : List Nat} (hrd : ∃ B fb cap av wv, IsRd W B kb fb cap av wv (DK.new 300)) (hm : MarkOk num last) (n place : Int) (h : ¬ OpenBad 3 n place ((300 : Nat) : Int)) :
    Calls Tryd.prog 19 #[.pointer (some ⟨kb, 0, none⟩), .int .i64 3, .int .i64 n, markV place num last] W fun e w' => ∃ rr a c, e = .returned (.tuple #[.pointer (some ⟨rr, 0, none⟩), .slice a 0 c, .int .i64 0]) ∧ IsRg 68 w' rr kb (rsOf 3 n place num last) ∧ W.heap.size ≤ rr ∧ Below W.heap.size W w' := by
  have hok := rsOf_ok hm h
  have hop := ropen_ok (s := rsOf 3 n place num last) hrd (onB_new 300) hok rfl (by decide) (by decide)
  unfold OpenBad at h
  have e2 : (((rsOf 3 n place num last).n : Nat) : Int) = n := by show ((n.toNat : Nat) : Int) = _; omega
  have e3 : (((rsOf 3 n place num last).place : Nat) : Int) = place := by show ((place.toNat : Nat) : Int) = _; omega
  rw [show (((rsOf 3 n place num last).first : Nat) : Int) = 3 from rfl, e2, markL_eq, e3, openP_new hok] at hop
  refine hop.mono ?_
  rintro e w' ⟨rr, v, rfl, hi⟩
  obtain ⟨a, m, c, rfl, hm⟩ := hi.slice
  have hm0 : m = 0 := hm.out
  subst hm0
  exact ⟨rr, a, c, rfl, hi.nx.isrr, hi.hrr, hi.bel⟩
set_option maxRecDepth 100000 in
set_option maxHeartbeats 8000000 in
theorem runs_walk (v0 v1 v2 : Value) (D0 D1 D2 : D) (W : World) (r0 : RdV Tryd.prog W 25 v0 D0) (r1 : RdV Tryd.prog W 26 v1 D1) (r2 : RdV Tryd.prog W 40 v2 D2) (hg : HasET W) :
    Calls Tryd.prog 4 #[v0, v1, v2] W fun e w' => e = .returned (.bool true) ∧ Below W.heap.size W w' := by
  obtain ⟨place, num, last, rfl, hl, hlb, hnum, hp1, hp2⟩ := r0.mark
  obtain ⟨aa, ac, l2, rfl, hac, hal, hat⟩ := r1.tup2
  obtain ⟨n, cut, rfl, hn, hc⟩ := r2.pair
  obtain ⟨an, han⟩ : ∃ n, n = l2.length := ⟨_, rfl⟩
  rw [← han] at hac hal ⊢
  have HM := Lib.hid (MarkOk.mk hl hlb hnum)
  have HA := Lib.hid (And.intro hat han)
  have HG := Lib.hid hg
  have hll2 : (an : Int) ≤ 35184372088832 := by omega
  clear r0 r1 r2 hl hlb hnum hp1 hp2 hac hat han hg
  have hfew := fun w => few_any w aa an ac hll2
  go_enter Tryd.func4, Tryd.ntmps4
  unfold markV
  go_upto_region 1 with fail
  change Code.wp _ _ _ _ ((W.alloc (.cells (.int .i64 place :: .int .u64 ((num : Nat) : Int) :: bv last).toArray 25)).alloc (.cells #[.int .i64 n, .int .i64 cut] 40))
  have hmk : IsBlk (W.alloc (.cells (.int .i64 place :: .int .u64 ((num : Nat) : Int) :: bv last).toArray 25)) W.heap.size (.int .i64 place :: .int .u64 ((num : Nat) : Int) :: bv last).toArray 25 := IsBlk.new _ _ _
  have hb : Below W.heap.size W (W.alloc (.cells (.int .i64 place :: .int .u64 ((num : Nat) : Int) :: bv last).toArray 25)) := (Below.refl _ _).alloc (Nat.le_refl _) _
  have hszq : (W.alloc (.cells (.int .i64 place :: .int .u64 ((num : Nat) : Int) :: bv last).toArray 25)).heap.size = W.heap.size + 1 := by simp
  try rw [← hszq]
  clear hszq
  generalize W.alloc (.cells (.int .i64 place :: .int .u64 ((num : Nat) : Int) :: bv last).toArray 25) = w0 at hmk hb ⊢
  have hpr : IsBlk (w0.alloc (.cells #[.int .i64 n, .int .i64 cut] 40)) w0.heap.size #[.int .i64 n, .int .i64 cut] 40 := IsBlk.new _ _ _
  have hb2 : Below w0.heap.size w0 (w0.alloc (.cells #[.int .i64 n, .int .i64 cut] 40)) := (Below.refl _ _).alloc (Nat.le_refl _) _
  generalize w0.alloc (.cells #[.int .i64 n, .int .i64 cut] 40) = w1 at hpr hb2 ⊢
  have d0 := hpr.drew.cell 0 (v := .int .i64 n) rfl
  have d1 := hpr.drew.cell 1 (v := .int .i64 cut) rfl
  have H1 := Lib.hid (And.intro ((hmk.below hb2 hmk.lt).drew) ((hb.trans (hb2.mono hb.size)).drew))
  clear hmk hb hpr hb2
  generalize hmb : W.heap.size = mb at H1 ⊢
  have HMB := Lib.hid hmb
  clear hmb
  generalize w0.heap.size = tb at d0 d1 ⊢
  refine wp_region_held_drew (S := fun w' => w' = w1.drew ∧ w'.cell? ⟨tb, 0, none⟩ = some (.int .i64 n) ∧ w'.cell? ⟨tb, 1, none⟩ = some (.int .i64 cut)) (by kernel_rfl) ⟨rfl, d0, d1⟩ (fun hHeld => ?_)
  clear d0 d1
  refine wpAnyH_take (i := 0) (v := ?_) rfl (by kernel_rfl) (by kernel_rfl) (by kernel_rfl) (fun _ _ _ h => h) (Or.inl ⟨by rfl, ?_⟩) (by with_reducible assumption) ?_
  rotate_left
  · intro w hSw; (try dsimp only at hSw); (try go_split_ands); go_simp; (try with_reducible rfl)
  (try simp only [Act.put, List.getElem_toArray, List.getElem_cons_succ, List.getElem_cons_zero, List.setIfInBounds_toArray, List.set_cons_zero, List.set_cons_succ])
  refine wpAnyH_take (i := 1) (v := ?_) rfl (by kernel_rfl) (by kernel_rfl) (by kernel_rfl) (fun _ _ _ h => h) (Or.inl ⟨by rfl, ?_⟩) (by with_reducible assumption) ?_
  rotate_left
  · intro w hSw; (try dsimp only at hSw); (try go_split_ands); go_simp; (try with_reducible rfl)
  (try simp only [Act.put, List.getElem_toArray, List.getElem_cons_succ, List.getElem_cons_zero, List.setIfInBounds_toArray, List.set_cons_zero, List.set_cons_succ])
  refine wpAnyH_take (i := 2) (v := ?_) rfl (by kernel_rfl) (by kernel_rfl) (by kernel_rfl) (fun _ _ _ h => h) (Or.inl ⟨by rfl, ?_⟩) (by with_reducible assumption) ?_
  rotate_left
  · intro w hSw; (try dsimp only at hSw); (try go_split_ands); go_simp; (try with_reducible rfl)
  (try simp only [Act.put, List.getElem_toArray, List.getElem_cons_succ, List.getElem_cons_zero, List.setIfInBounds_toArray, List.set_cons_zero, List.set_cons_succ])
  refine wpAnyH_take (i := 3) (v := ?_) rfl (by kernel_rfl) (by kernel_rfl) (by kernel_rfl) (fun _ _ _ h => h) (Or.inl ⟨by rfl, ?_⟩) (by with_reducible assumption) ?_
  rotate_left
  · intro w hSw; (try dsimp only at hSw); (try go_split_ands); go_simp; (try with_reducible rfl)
  (try simp only [Act.put, List.getElem_toArray, List.getElem_cons_succ, List.getElem_cons_zero, List.setIfInBounds_toArray, List.set_cons_zero, List.set_cons_succ])
  refine wpAnyH_take (i := 4) (v := ?_) rfl (by kernel_rfl) (by kernel_rfl) (by kernel_rfl) (fun _ _ _ h => h) (Or.inl ⟨by rfl, ?_⟩) (by with_reducible assumption) ?_
  rotate_left
  · intro w hSw; (try dsimp only at hSw); (try go_split_ands); go_simp; (try with_reducible rfl)
  (try simp only [Act.put, List.getElem_toArray, List.getElem_cons_succ, List.getElem_cons_zero, List.setIfInBounds_toArray, List.set_cons_zero, List.set_cons_succ])
  refine wpAnyH_take (i := 5) (v := ?_) rfl (by kernel_rfl) (by kernel_rfl) (by kernel_rfl) (fun _ _ _ h => h) (Or.inl ⟨by rfl, ?_⟩) (by with_reducible assumption) ?_
  rotate_left
  · intro w hSw; (try dsimp only at hSw); (try go_split_ands); go_simp; (try with_reducible rfl)
  (try simp only [Act.put, List.getElem_toArray, List.getElem_cons_succ, List.getElem_cons_zero, List.setIfInBounds_toArray, List.set_cons_zero, List.set_cons_succ])
  refine wpAnyH_done (by kernel_rfl) ?_ _
  clear hHeld
  change Exit.then _ _ _ _ w1.drew
  generalize w1.drew = w1 at H1 ⊢
  by_cases h40 : (an : Int) ≤ 40
  · rw [decide_eq_true h40] at hfew
    go_upto_region 6 with (first
      | (go_at_call 7; (with_reducible refine (stands_any _).mono ?_); rintro e w2 ⟨rfl, hb2⟩; have H2 := Lib.hid hb2; clear hb2)
      | (go_at_call 8; (with_reducible refine (hfew _).mono ?_); rintro e w' ⟨rfl, hw'⟩; obtain rfl := hw'.symm))
    clear hfew
    go_upto_region 8 with (first
      | (go_at_call 9; (with_reducible refine (new300 _).mono ?_); rintro e w3 ⟨db, rfl, h3, hb3⟩; have H3 := Lib.hid (And.intro h3 hb3); clear h3 hb3)
      | (go_at_call 10; (with_reducible refine (rnew300 _).mono ?_); rintro e w4 ⟨kb, fb, cap, rfl, h4, hb4⟩; have H4 := Lib.hid (And.intro h4 hb4); clear h4 hb4))
    have hb24 : Below w2.heap.size w2 w4 := H3.out.2.trans (H4.out.2.mono H3.out.2.size)
    have hmk4 := (H1.out.1.below H2.out H1.out.1.lt).below hb24 (H1.out.1.below H2.out H1.out.1.lt).lt
    have hri := RI.begin H3.out.1 (Nat.le_refl _) H4.out.1 H4.out.2 H3.out.2.size
    have hWB : W.heap.size ≤ w2.heap.size := Nat.le_trans (by rw [HMB.out]; exact Nat.le_of_lt H1.out.1.lt) H2.out.size
    have hE : EndI W w4 w2.heap.size db kb mb (DK.new 300) 300 0 place num last := ⟨hri, onB_new 300, Nat.zero_le _, HM.out, hmk4, ?_, HG.out, hb24.size, Nat.lt_of_lt_of_le H1.out.1.lt H2.out.size, hWB⟩
    rotate_left
    · rw [HMB.out]
      exact H1.out.2.trans ((H2.out.trans (hb24.mono H2.out.size)).mono (Nat.le_of_lt H1.out.1.lt))
    have HE := Lib.hid hE
    clear hb24 hmk4 hri hWB hE H3 H4
    have H5 := Lib.hid (And.intro (show w4.heap[mb]? = some (.cells (.int .i64 place :: .int .u64 ((num : Nat) : Int) :: bv last).toArray 25 (0, 0)) from HE.out.mbk) (mkv_info place ((num : Nat) : Int) last HM.out.len))
    by_cases hbad : OpenBad 3 n place ((300 : Nat) : Int)
    · have hop := open_bad w4 (.pointer (some ⟨db, 0, none⟩)) 3 n place ((num : Nat) : Int) 300 last (by decide) (by decide) (fun w hw => by
        have := (HE.out.ri.dk.below hw).size
        rw [HE.out.on.len] at this
        exact this) hbad
      have hrop := fun w' (h : EndI W w' w2.heap.size db kb mb (DK.new 300) 300 0 place num last) => ropen_bad w' 3 n place ((num : Nat) : Int) last h.rd (by rw [h.on.len]; decide) (by rw [h.on.len]; exact hbad)
      unfold markV at hop hrop
      clear hbad
      go_upto_region 9 with (first
        | (refine wpList_load_row (by rfl) 25 (.tmp 3) (by rfl) mb (by rfl) 25 _ (0, 0) _ H5.out.1 Tryd.underlying25 (by rfl) H5.out.2 ?_)
        | (go_at_call 18; (with_reducible refine hop.mono ?_); rintro e w5 ⟨v5, rfl, ⟨b5, rfl⟩, hn5, hb5⟩; have H6 := Lib.hid (And.intro hn5 (HE.out.below hb5)); clear hn5 hb5))
      clear hop
      have hma := mark_any w5 place ((num : Nat) : Int) last HM.out.len
      unfold markV at hma
      have H7 := Lib.hid (And.intro (show w5.heap[mb]? = some (.cells (.int .i64 place :: .int .u64 ((num : Nat) : Int) :: bv last).toArray 25 (0, 0)) from H6.out.2.mbk) H5.out.2)
      go_upto_region 10 with (first
        | (refine wpList_load_row (by rfl) 25 (.tmp 3) (by rfl) mb (by rfl) 25 _ (0, 0) _ H7.out.1 Tryd.underlying25 (by rfl) H7.out.2 ?_)
        | (go_at_call 11; (with_reducible refine hma.mono ?_); rintro e w6 ⟨rfl, hb6⟩; have H8 := Lib.hid (And.intro (H6.out.1.below hb6) (H6.out.2.below hb6)); clear hb6)
        | (go_at_call 19; (with_reducible refine (hrop _ H8.out.2).mono ?_); rintro e w7 ⟨rfl, hb7⟩; have H9 := Lib.hid (And.intro (H8.out.1.below hb7) (H8.out.2.below hb7)); clear hb7))
      clear hma hrop
      have hnum := num_is _ 1 w7 H9.out.2.et H9.out.1
      go_wp2_with (go_at_call 20; (with_reducible refine hnum.mono ?_); rintro e w8 ⟨rfl, hb8⟩; have H10 := Lib.hid (H9.out.2.below hb8); clear hb8)
      go_ret
      exact ⟨rfl, H10.out.bel⟩
    · have hop := open_new HE.out.ri.dk HM.out n place hbad
      have hrop := fun w' (h : EndI W w' w2.heap.size db kb mb (DK.new 300) 300 0 place num last) => ropen_new h.rd HM.out n place hbad
      unfold markV at hop hrop
      have HOK := Lib.hid (rsOf_ok HM.out hbad)
      clear hbad
      go_upto_region 9 with (first
        | (refine wpList_load_row (by rfl) 25 (.tmp 3) (by rfl) mb (by rfl) 25 _ (0, 0) _ H5.out.1 Tryd.underlying25 (by rfl) H5.out.2 ?_)
        | (go_at_call 18; (with_reducible refine hop.mono ?_); rintro e w5 ⟨rb, a5, c5, rfl, hr5, hl5, hb5⟩; have H6 := Lib.hid (And.intro hr5 (And.intro hl5 (And.intro hb5 (HE.out.below hb5)))); clear hr5 hl5 hb5))
      clear hop
      have hma := mark_any w5 place ((num : Nat) : Int) last HM.out.len
      unfold markV at hma
      have H7 := Lib.hid (And.intro (show w5.heap[mb]? = some (.cells (.int .i64 place :: .int .u64 ((num : Nat) : Int) :: bv last).toArray 25 (0, 0)) from H6.out.2.2.2.mbk) H5.out.2)
      go_upto_region 10 with (first
        | (refine wpList_load_row (by rfl) 25 (.tmp 3) (by rfl) mb (by rfl) 25 _ (0, 0) _ H7.out.1 Tryd.underlying25 (by rfl) H7.out.2 ?_)
        | (go_at_call 11; (with_reducible refine hma.mono ?_); rintro e w6 ⟨rfl, hb6⟩; have H8 := Lib.hid (And.intro hb6 (H6.out.2.2.2.below hb6)); clear hb6)
        | (go_at_call 19; (with_reducible refine (hrop _ H8.out.2).mono ?_); rintro e w7 ⟨rr, a7, c7, rfl, hr7, hl7, hb7⟩; have H9 := Lib.hid (And.intro hr7 (And.intro hl7 (And.intro hb7 (H8.out.2.below hb7)))); clear hr7 hl7 hb7))
      clear hma hrop
      have hb57 : Below w5.heap.size w5 w7 := H8.out.1.trans (H9.out.2.2.1.mono H8.out.1.size)
      have hb47 : Below w4.heap.size w4 w7 := H6.out.2.2.1.trans (hb57.mono H6.out.2.2.1.size)
      have hrg7 := H6.out.1.below hb57
      have hl6 : w4.heap.size ≤ w6.heap.size := Nat.le_trans H6.out.2.2.1.size H8.out.1.size
      have hrun : RunI W w7 w2.heap.size db kb mb rb rr (DK.new 300) 0 place num last (rsOf 3 n place num last) := ⟨H9.out.2.2.2, (HE.out.ri.grow hb47).less (fun k hk => hk.elim (fun e => .inr (e ▸ ⟨H6.out.2.1, IsBlk.lt hrg7⟩)) (fun e => .inr (e ▸ ⟨Nat.le_trans hl6 H9.out.2.1, IsBlk.lt H9.out.1⟩))), hrg7, H9.out.1, HOK.out, Nat.le_trans HE.out.hB H6.out.2.1, Nat.le_trans HE.out.hB (Nat.le_trans hl6 H9.out.2.1)⟩
      have HR := Lib.hid hrun
      clear hb57 hb47 hrg7 hl6 hrun
      go_upto_if 82 with fail
      go_cut [6] (fun v wx => v = .bool false ∧ wx = w7)
      case first =>
        go_wp2_with fail
        go_meet
        exact ⟨rfl, rfl⟩
      case rest =>
        obtain ⟨rfl, rfl⟩ := hcut
        rename_i K1 hK1
        refine hK1 _ _ ?_
        exact runs_adds HR rfl HA (by omega)
  · rw [decide_eq_false h40] at hfew
    go_wp2_with (first
      | (go_at_call 7; (with_reducible refine (stands_any _).mono ?_); rintro e w2 ⟨rfl, hb2⟩; have H2 := Lib.hid hb2; clear hb2)
      | (go_at_call 8; (with_reducible refine (hfew _).mono ?_); rintro e w' ⟨rfl, hw'⟩; obtain rfl := hw'.symm))
    go_ret
    exact ⟨rfl, by rw [HMB.out]; exact H1.out.2.trans (H2.out.mono (Nat.le_of_lt H1.out.1.lt))⟩
end Go.Proofs.YtkabkehfckbhcaaDoor
