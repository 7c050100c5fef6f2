/-
  ring: RingNone walked.
-/
import Derived.Test.YtkabkehfckbhcaaDoorZRgArg
namespace Go.Proofs.YtkabkehfckbhcaaDoor
set_option linter.unusedVariables false
set_option linter.unusedSimpArgs false
open Go.RowKit

theorem new150 (w : World) : Calls Tryd.prog 9 #[.int .i64 150] w fun e w' => ∃ db, e = .returned (.tuple #[.pointer (some ⟨db, 0, none⟩), .nilIface]) ∧ Dk w.heap.size w' db (DK.new 150) ∧ Below w.heap.size w w' := new_D w 150 (by decide) (by decide)
theorem cut_none (w : World) : Calls Tryd.prog 28 #[.pointer none, .agg (nv .u8 (List.replicate 32 0))] w fun e w' => (∃ v, e = .returned v) ∧ Below w.heap.size w w' := cut_nil _ (by simp) w
theorem open_none (W : World) : Calls Tryd.prog 18 #[.pointer none, .int .i64 0, .int .i64 100, .agg (markL RS0).toArray] W fun e w' => ∃ v, e = .returned (.tuple #[.pointer none, .slice none 0 0, v]) ∧ (∃ b, v = .iface 115 (.pointer (some ⟨b, 0, none⟩))) ∧ IsNum w' v 1 ∧ Below W.heap.size W w' :=
  open_bad W (.pointer none) 0 100 0 0 0 (List.replicate 32 0) (by decide) (by decide) (fun w _ => size_nil w) (by unfold OpenBad; omega)
theorem mkv_info (place num : Int) (last : List Nat) (h : last.length = 32) : (Tryd.prog.info? 25).map (·.size) = some (Value.int .i64 place :: .int .u64 num :: bv last).toArray.size := by
  rw [List.size_toArray]
  simp only [List.length_cons, bv_length, h]
  kernel_rfl
/-- What Open answers, of any arguments, on a disk that was just made. -/
def OpenFine (first n place : Int) : Prop := 0 ≤ first ∧ 96 ≤ n ∧ n ≤ 150 ∧ first ≤ 150 - n ∧ 0 ≤ place ∧ place < n
theorem built_zero_dg : Tryd.prog.built 23 [] = some (nv .u8 (List.replicate 32 0)) := by kernel_rfl
structure NoneI (W w : World) (ev ov : Value) (k : Nat) : Prop where
  bel : Below W.heap.size W w
  hg : HasET w
  ie : IsNum w ev k
  io : IsNum w ov 1
theorem NoneI.below {W w w' : World} {ev ov : Value} {k : Nat} (h : NoneI W w ev ov k) (hb : Below w.heap.size w w') : NoneI W w' ev ov k := ⟨h.bel.trans (hb.mono h.bel.size), h.hg.below hb, h.ie.below hb, h.io.below hb⟩
theorem zmk_self (w : World) : (Op.equalIn 10000 25 (.agg (markL zeroM).toArray) (.agg (markL zeroM).toArray)).run Tryd.prog w = .ok true w := mk_self 0 0 (List.replicate 32 0) (by simp) w
theorem one_change (w : World) : Calls Tryd.prog 14 #[.int .i64 1, .int .i64 1] w fun e w' => ∃ v, e = .returned v ∧ Below w.heap.size w w' := (changes_any w 1 1 (by decide)).mono fun e w' ⟨v, h1, _, h2⟩ => ⟨v, h1, h2⟩
set_option maxRecDepth 100000 in
set_option maxHeartbeats 8000000 in
theorem none_walk (v0 v1 v2 : Value) (D0 D1 D2 : D) (W : World) (r0 : RdV Tryd.prog W 3 v0 D0) (r1 : RdV Tryd.prog W 3 v1 D1) (r2 : RdV Tryd.prog W 25 v2 D2) (hg : HasET W) :
    Calls Tryd.prog 5 #[v0, v1, v2] W fun e w' => e = .returned (.bool true) ∧ Below W.heap.size W w' := by
  obtain ⟨first, rfl, -, hf⟩ := r0.int Tryd.underlying3
  obtain ⟨n, rfl, -, hn⟩ := r1.int Tryd.underlying3
  obtain ⟨place, num, last, rfl, hl, hlb, hnum, hp1, hp2⟩ := r2.mark
  obtain ⟨hf1, hf2⟩ := i64_wf hf
  obtain ⟨hn1, hn2⟩ := i64_wf hn
  have HG := Lib.hid hg
  have HM := Lib.hid (And.intro hl (And.intro hlb hnum))
  clear r0 r1 r2 hf hn hl hlb hnum hg
  obtain ⟨Z, hZ⟩ : ∃ Z, Z = List.replicate 32 0 := ⟨_, rfl⟩
  have HZ := Lib.hid hZ
  have hcut := cut_nil Z (by rw [hZ]; simp)
  clear hZ
  go_enter Tryd.func5, Tryd.ntmps5
  unfold markV
  go_upto_region 1 with fail
  change Code.wp _ _ _ _ (W.alloc (.cells (.int .i64 place :: .int .u64 num :: bv last).toArray 25))
  have hmk : IsBlk (W.alloc (.cells (.int .i64 place :: .int .u64 num :: bv last).toArray 25)) W.heap.size (.int .i64 place :: .int .u64 num :: bv last).toArray 25 := IsBlk.new _ _ _
  have hb : Below W.heap.size W (W.alloc (.cells (.int .i64 place :: .int .u64 num :: bv last).toArray 25)) := (Below.refl _ _).alloc (Nat.le_refl _) _
  generalize W.alloc (.cells (.int .i64 place :: .int .u64 num :: bv last).toArray 25) = w1 at hmk hb ⊢
  have H1 := Lib.hid (And.intro hmk hb)
  clear hmk hb
  go_upto_region 6 with (first
    | (go_at_call 7; (with_reducible refine (stands_any _).mono ?_); rintro e w2 ⟨rfl, hb2⟩; have H2 := Lib.hid hb2; clear hb2)
    | (refine wpList_build (by rfl) 23 #[] (by rfl) (nv .u8 Z) (by rw [HZ.out]; exact built_zero_dg) ?_)
    | (go_at_call 28; (with_reducible refine (hcut _).mono ?_); rintro e w3 ⟨⟨v3, rfl⟩, hb3⟩; have H3 := Lib.hid hb3; clear hb3)
    | (go_at_call 9; (with_reducible refine (new150 _).mono ?_); rintro e w4 ⟨db, rfl, h4, hb4⟩; have H4 := Lib.hid (And.intro h4 hb4); clear h4 hb4))
  have hb14 : Below w1.heap.size w1 w4 := H2.out.trans ((H3.out.trans (H4.out.2.mono H3.out.size)).mono H2.out.size)
  have hmk4 := H1.out.1.below hb14 H1.out.1.lt
  have cp := hmk4.cell 0 (v := .int .i64 place) rfl
  have HM4 := Lib.hid (And.intro hmk4 (H1.out.2.trans (hb14.mono H1.out.2.size)))
  have HCP := Lib.hid cp
  clear hmk4 hb14 H1 cp
  by_cases hok : OpenFine first n place
  · obtain ⟨k1, k2, k3, k4, k5, k6⟩ := hok
    obtain ⟨f, rfl⟩ : ∃ f : Nat, first = (f : Int) := ⟨first.toNat, by omega⟩
    obtain ⟨m, rfl⟩ : ∃ m : Nat, n = (m : Int) := ⟨n.toNat, by omega⟩
    obtain ⟨pl, rfl⟩ : ∃ p : Nat, place = (p : Int) := ⟨place.toNat, by omega⟩
    have hso : RSok ⟨f, m, pl, num, last, 0⟩ 150 := ⟨by show 96 ≤ m; omega, by show m ≤ 4096; omega, by show f + m ≤ 150; omega, by show pl < m; omega, HM.out.2.2, HM.out.1, HM.out.2.1, Nat.zero_le _⟩
    have hop := open_ok (s := ⟨f, m, pl, num, last, 0⟩) (H4.out.1.base (Nat.zero_le _)) (onB_new 150) hso rfl
    have H0 := Lib.hid (And.intro (show w4.heap[W.heap.size]? = some (.cells (.int .i64 ((pl : Nat) : Int) :: .int .u64 ((num : Nat) : Int) :: bv last).toArray 25 (0, 0)) from HM4.out.1) (mkv_info ((pl : Nat) : Int) ((num : Nat) : Int) last HM.out.1))
    go_upto_region 7 with (first
      | (refine wpList_load_row (by rfl) 25 (.tmp 5) (by rfl) W.heap.size (by rfl) 25 _ (0, 0) _ H0.out.1 Tryd.underlying25 (by rfl) H0.out.2 ?_)
      | (go_at_call 18; refine hop.mono ?_; rintro e w5 ⟨rb, v5, rfl, h5⟩; have H5 := Lib.hid (show Below W.heap.size W w5 ∧ IsNum w5 .nilIface 0 from ⟨HM4.out.2.trans (h5.bel.mono HM4.out.2.size), rfl⟩); have cp5 := (h5.bel.cell (cell_lt HCP.out)).trans HCP.out; clear h5))
    clear hop
    go_wp2_with (first
      | (refine wpList_build (by rfl) 25 #[] (by rfl) (markL RS0).toArray (by exact built_zero_mark) ?_)
      | (go_at_call 18; (with_reducible refine (open_none _).mono ?_); rintro e w6 ⟨v6, rfl, -, hn6, hb6⟩; have HB := Lib.hid (show NoneI W w6 _ v6 _ from ⟨H5.out.1.trans (hb6.mono H5.out.1.size), (HG.out.below H5.out.1).below hb6, H5.out.2.below hb6, hn6⟩); clear hn6 hb6)
      | (go_at_call 27; (with_reducible refine (room_nil _).mono ?_); rintro e w' ⟨rfl, hw'⟩; obtain rfl := hw'.symm)
      | (go_at_call 22; (with_reducible refine (fits_nil _).mono ?_); rintro e w' ⟨rfl, hw'⟩; obtain rfl := hw'.symm)
      | (go_at_call 14; (with_reducible refine (one_change _).mono ?_); rintro e w7 ⟨v7, rfl, hb7⟩; have HB := Lib.hid (HB.out.below hb7); clear hb7)
      | (go_at_call 24; (with_reducible refine (add_nil _ _).mono ?_); rintro e w8 ⟨v8, rfl, hr8, hb8⟩; have HB := Lib.hid (HB.out.below hb8); have H10 := Lib.hid hr8; clear hb8 hr8)
      | (go_at_call 20; (with_reducible refine (num_is _ 10 _ HB.out.hg H10.out).mono ?_); rintro e w9 ⟨rfl, hb9⟩; have HB := Lib.hid (HB.out.below hb9); clear hb9)
      | (go_at_call 20; (with_reducible refine (num_is _ _ _ HB.out.hg HB.out.ie).mono ?_); rintro e w9 ⟨rfl, hb9⟩; have HB := Lib.hid (HB.out.below hb9); clear hb9)
      | (go_at_call 20; (with_reducible refine (num_is _ _ _ HB.out.hg HB.out.io).mono ?_); rintro e w9 ⟨rfl, hb9⟩; have HB := Lib.hid (HB.out.below hb9); clear hb9)
      | (go_at_call 26; (with_reducible refine (head_nil _).mono ?_); rintro e w7 ⟨rfl, hb7⟩; have HB := Lib.hid (HB.out.below hb7); clear hb7)
      | (refine wpList_build_g (by rfl) 25 #[] (by rfl) (markL zeroM).toArray (by exact built_zero_mark) ?_)
      | (refine wpList_eq_self_g (by rfl) 25 (.tmp 85) (.tmp 86) (by rfl) (markL zeroM).toArray (by kernel_rfl) (by rfl) (by rfl) (zmk_self _) ?_))
    go_ret
    exact ⟨rfl, HB.out.bel⟩
  · have hbad : OpenBad first n place 150 := by unfold OpenBad; unfold OpenFine at hok; omega
    have hop := open_bad w4 (.pointer (some ⟨db, 0, none⟩)) first n place num 150 last (by decide) (by decide) (fun w hw => by
      have := (H4.out.1.below hw).size
      rw [(onB_new 150).len] at this
      exact this) hbad
    unfold markV at hop
    have H0 := Lib.hid (And.intro (show w4.heap[W.heap.size]? = some (.cells (.int .i64 place :: .int .u64 ((num : Nat) : Int) :: bv last).toArray 25 (0, 0)) from HM4.out.1) (mkv_info place ((num : Nat) : Int) last HM.out.1))
    go_upto_region 7 with (first
      | (refine wpList_load_row (by rfl) 25 (.tmp 5) (by rfl) W.heap.size (by rfl) 25 _ (0, 0) _ H0.out.1 Tryd.underlying25 (by rfl) H0.out.2 ?_)
      | (go_at_call 18; (with_reducible refine hop.mono ?_); rintro e w5 ⟨v5, rfl, -, hn5, hb5⟩; have H5 := Lib.hid (And.intro (HM4.out.2.trans (hb5.mono HM4.out.2.size)) hn5); have cp5 := (hb5.cell (cell_lt HCP.out)).trans HCP.out; clear hn5 hb5))
    clear hop
    go_cut [13] (fun b wx => b = .bool false ∧ wx = w5)
    case first =>
      unfold OpenBad at hbad
      by_cases q1 : first < 0
      · clear hbad
        go_wp2_with fail
        go_meet
        exact ⟨rfl, rfl⟩
      by_cases q2 : n < 96
      · clear hbad
        go_wp2_with fail
        go_meet
        exact ⟨rfl, rfl⟩
      by_cases q3 : 150 < n
      · clear hbad
        go_wp2_with fail
        go_meet
        exact ⟨rfl, rfl⟩
      by_cases q4 : 150 - n < first
      · clear hbad
        go_wp2_with fail
        go_meet
        exact ⟨rfl, rfl⟩
      by_cases q5 : place < 0
      · clear hbad
        go_wp2_with fail
        go_meet
        exact ⟨rfl, rfl⟩
      have q6 : n ≤ place := by omega
      have q7 : ¬ place < n := by omega
      clear hbad
      go_wp2_with fail
      go_meet
      exact ⟨by first | rfl | rw [decide_eq_false q7], rfl⟩
    case rest =>
      obtain ⟨rfl, rfl⟩ := hcut
      go_wp2_with (first
        | (refine wpList_build (by rfl) 25 #[] (by rfl) (markL RS0).toArray (by exact built_zero_mark) ?_)
        | (go_at_call 18; (with_reducible refine (open_none _).mono ?_); rintro e w6 ⟨v6, rfl, -, hn6, hb6⟩; have HB := Lib.hid (show NoneI W w6 _ v6 _ from ⟨H5.out.1.trans (hb6.mono H5.out.1.size), (HG.out.below H5.out.1).below hb6, H5.out.2.below hb6, hn6⟩); clear hn6 hb6)
        | (go_at_call 27; (with_reducible refine (room_nil _).mono ?_); rintro e w' ⟨rfl, hw'⟩; obtain rfl := hw'.symm)
        | (go_at_call 22; (with_reducible refine (fits_nil _).mono ?_); rintro e w' ⟨rfl, hw'⟩; obtain rfl := hw'.symm)
        | (go_at_call 14; (with_reducible refine (one_change _).mono ?_); rintro e w7 ⟨v7, rfl, hb7⟩; have HB := Lib.hid (HB.out.below hb7); clear hb7)
        | (go_at_call 24; (with_reducible refine (add_nil _ _).mono ?_); rintro e w8 ⟨v8, rfl, hr8, hb8⟩; have HB := Lib.hid (HB.out.below hb8); have H10 := Lib.hid hr8; clear hb8 hr8)
        | (go_at_call 20; (with_reducible refine (num_is _ 10 _ HB.out.hg H10.out).mono ?_); rintro e w9 ⟨rfl, hb9⟩; have HB := Lib.hid (HB.out.below hb9); clear hb9)
        | (go_at_call 20; (with_reducible refine (num_is _ _ _ HB.out.hg HB.out.ie).mono ?_); rintro e w9 ⟨rfl, hb9⟩; have HB := Lib.hid (HB.out.below hb9); clear hb9)
        | (go_at_call 20; (with_reducible refine (num_is _ _ _ HB.out.hg HB.out.io).mono ?_); rintro e w9 ⟨rfl, hb9⟩; have HB := Lib.hid (HB.out.below hb9); clear hb9)
        | (go_at_call 26; (with_reducible refine (head_nil _).mono ?_); rintro e w7 ⟨rfl, hb7⟩; have HB := Lib.hid (HB.out.below hb7); clear hb7)
        | (refine wpList_build_g (by rfl) 25 #[] (by rfl) (markL zeroM).toArray (by exact built_zero_mark) ?_)
        | (refine wpList_eq_self_g (by rfl) 25 (.tmp 85) (.tmp 86) (by rfl) (markL zeroM).toArray (by kernel_rfl) (by rfl) (by rfl) (zmk_self _) ?_))
      go_ret
      exact ⟨rfl, HB.out.bel⟩
end Go.Proofs.YtkabkehfckbhcaaDoor
