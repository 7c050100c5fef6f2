/-
  disk: DiskFuel walked.
-/
import Derived.Test.YtjmjfgbpjecgfaaDoorDkNone
namespace Go.Proofs.YtjmjfgbpjecgfaaDoor
set_option linter.unusedVariables false
set_option linter.unusedSimpArgs false
open Go.RowKit

/-- A disk behind i tries, with fuel for f of them. -/
def Tried (f i : Nat) (d : DK) : Prop := d.firm.length = 4 ∧ d.pend.length ≤ i ∧ d.off = decide (f < i) ∧ (i ≤ f → d.fuel = ((f - i : Nat) : Int))
theorem tried_start (f : Nat) : Tried f 0 ((DK.new 4).setFuel (f : Int)) := by
  refine ⟨rfl, Nat.le_refl _, by simp [DK.setFuel, DK.new], fun _ => ?_⟩
  show max (f : Int) (-1) = _
  omega
theorem tried_may {f i : Nat} {d : DK} (h : Tried f i d) : d.may = decide (i < f) := by
  obtain ⟨_, _, h3, h4⟩ := h
  unfold DK.may
  rw [h3]
  by_cases hi : i ≤ f
  · rw [h4 hi]
    by_cases he : i < f
    · have : ¬ f < i := by omega
      have h2 : ((f - i : Nat) : Int) ≠ 0 := by omega
      have h2' : ¬ (f - i = 0) := by omega
      simp [he, this, h2']
    · have e0 : i = f := by omega
      subst e0
      simp
  · have h1 : f < i := by omega
    have h2 : ¬ i < f := by omega
    simp [h1, h2]
theorem tried_step {f i : Nat} {d : DK} (h : Tried f i d) : d.step.off = decide (f < i + 1) ∧ (i + 1 ≤ f → d.step.fuel = ((f - (i + 1) : Nat) : Int)) := by
  obtain ⟨_, _, h3, h4⟩ := h
  unfold DK.step
  by_cases hi : i ≤ f
  · have ho : d.off = false := by rw [h3]; simp; omega
    rw [if_neg (by rw [ho]; decide), h4 hi]
    by_cases he : i < f
    · rw [if_neg (by omega), if_pos (by omega)]
      refine ⟨by show d.off = _; rw [ho]; simp; omega, fun _ => ?_⟩
      show (((f - i : Nat) : Int)) - 1 = _
      omega
    · rw [if_pos (by omega)]
      exact ⟨by simp; omega, fun h => by omega⟩
  · have ho : d.off = true := by rw [h3]; simp; omega
    rw [if_pos ho]
    exact ⟨by rw [ho]; simp; omega, fun h => by omega⟩
theorem tried_bad {f i : Nat} {d : DK} (h : Tried f i d) (k : Nat) (hk : k < 4) : d.bad (k : Int) = false := by
  simp only [DK.bad, h.1, Bool.or_eq_false_iff, decide_eq_false_iff_not]
  omega
theorem tried_readE {f i : Nat} {d : DK} (h : Tried f i d) (k : Nat) (hk : k < 4) : d.readE (k : Int) = if f < i then 10 else 0 := by
  unfold DK.readE
  rw [tried_bad h k hk, h.2.2.1]
  by_cases hi : f < i <;> simp [hi]
theorem tried_write {f i : Nat} {d : DK} (h : Tried f i d) (k : Nat) (hk : k < 4) (p : List Nat) : d.writeE (k : Int) = (if i < f then 0 else 10) ∧ Tried f (i + 1) (d.write (k : Int) p) := by
  have hm := tried_may h
  have hb := tried_bad h k hk
  obtain ⟨s1, s2⟩ := tried_step h
  obtain ⟨f1, f2⟩ := step_firm d
  obtain ⟨h1, h2, h3, h4⟩ := h
  by_cases ho : f < i
  · have ho' : d.off = true := by rw [h3]; simpa using ho
    have e : d.step = d := by unfold DK.step; rw [if_pos ho']
    rw [e] at s1 s2
    have e1 : d.writeE (k : Int) = 10 := by simp [DK.writeE, ho']
    have e2 : d.write (k : Int) p = d := by simp [DK.write, ho']
    rw [e1, e2, if_neg (by omega)]
    exact ⟨rfl, h1, by omega, s1, s2⟩
  · have ho' : d.off = false := by rw [h3]; simpa using ho
    by_cases he : i < f
    · have e1 : d.writeE (k : Int) = 0 := by simp [DK.writeE, ho', hb, hm, he]
      have e2 : d.write (k : Int) p = { d.step with pend := d.pend ++ [(k, p)] } := by simp [DK.write, ho', hb, hm, he]
      rw [e1, e2, if_pos he]
      refine ⟨rfl, by show d.step.firm.length = 4; rw [f1]; exact h1, ?_, s1, s2⟩
      show (d.pend ++ [_]).length ≤ _
      simp; exact h2
    · have e1 : d.writeE (k : Int) = 10 := by simp [DK.writeE, ho', hb, hm, he]
      have e2 : d.write (k : Int) p = d.step := by simp [DK.write, ho', hb, hm, he]
      rw [e1, e2, if_neg he]
      exact ⟨rfl, by rw [f1]; exact h1, by rw [f2]; omega, s1, s2⟩
theorem tried_flush {f i : Nat} {d : DK} (h : Tried f i d) : d.flushE = (if i < f then 0 else 10) ∧ Tried f (i + 1) d.flush := by
  have hm := tried_may h
  obtain ⟨s1, s2⟩ := tried_step h
  obtain ⟨f1, f2⟩ := step_firm d
  obtain ⟨h1, h2, h3, h4⟩ := h
  by_cases he : i < f
  · have e1 : d.flushE = 0 := by simp [DK.flushE, hm, he]
    have e2 : d.flush = { d.step with firm := d.cur, pend := [] } := by simp [DK.flush, hm, he]
    rw [e1, e2, if_pos he]
    exact ⟨rfl, by show d.cur.length = 4; rw [cur_length]; exact h1, Nat.zero_le _, s1, s2⟩
  · have e1 : d.flushE = 10 := by simp [DK.flushE, hm, he]
    have e2 : d.flush = d.step := by simp [DK.flush, hm, he]
    rw [e1, e2, if_neg he]
    exact ⟨rfl, by rw [f1]; exact h1, by rw [f2]; omega, s1, s2⟩
theorem mod_pos (x : Int) (m : Nat) (hm : 0 < m) (hm2 : (m : Int) ≤ 1000) : ∃ F : Nat, F < m ∧ (wrap64 (x.tmod m + m)).tmod m = (F : Int) := by
  have h1 : -(m : Int) < x.tmod m := by
    have := Int.lt_tmod_of_pos x (show (0 : Int) < m by omega)
    omega
  have h2 : x.tmod m < m := Int.tmod_lt_of_pos x (by omega)
  rw [IntWalk.wrap64_in _ (by omega)]
  have h3 : 0 ≤ (x.tmod m + m).tmod m := Int.tmod_nonneg _ (by omega)
  have h4 : (x.tmod m + m).tmod m < m := Int.tmod_lt_of_pos _ (by omega)
  exact ⟨((x.tmod m + m).tmod m).toNat, by omega, by omega⟩

theorem new4 (w : World) : Calls Tryd.prog 10 #[.int .i64 4] w fun e w' => ∃ db, e = .returned (.tuple #[.pointer (some ⟨db, 0, none⟩), .nilIface]) ∧ Dk w.heap.size w' db (DK.new 4) ∧ Below w.heap.size w w' := new_D w 4 (by decide) (by decide)

theorem res_err {w : World} {v : Value} (h : IsRes w v 10) : ∃ b, v = .iface 75 (.pointer (some ⟨b, 0, none⟩)) := by
  obtain ⟨b, h1, _⟩ := h
  exact ⟨b, h1⟩

set_option maxRecDepth 100000 in
set_option maxHeartbeats 4000000 in
theorem fuel_walk (v0 v1 : Value) (D0 D1 : D) (W : World) (r0 : RdV Tryd.prog W 3 v0 D0) (r1 : RdV Tryd.prog W 3 v1 D1) (hg : HasET W) :
    Calls Tryd.prog 4 #[v0, v1] W fun e w' => e = .returned (.bool true) ∧ Below W.heap.size W w' := by
  obtain ⟨x, rfl, rfl, hx⟩ := r0.int Tryd.underlying3
  obtain ⟨y, rfl, rfl, hy⟩ := r1.int Tryd.underlying3
  clear r0 r1
  go_enter Tryd.func4, Tryd.ntmps4
  go_upto_region 4 with (first
    | (go_at_call 9; (with_reducible refine (stands_any _).mono ?_); rintro e w1 ⟨rfl, hb1⟩))
  obtain ⟨F, hF, eF⟩ := mod_pos x 40 (by decide) (by decide)
  obtain ⟨T, hT, eT⟩ := mod_pos y 60 (by decide) (by decide)
  rw [show ((40 : Nat) : Int) = 40 from rfl] at eF
  rw [show ((60 : Nat) : Int) = 60 from rfl] at eT
  rw [eF, eT]
  clear eF eT hx hy
  have HB1 := Lib.hid hb1
  clear hb1
  go_upto_region 6 with (first
    | (go_at_call 10; (with_reducible refine (new4 _).mono ?_); rintro e w2 ⟨db, rfl, h2, hb2⟩; have hfu := h2.fuel (F : Int) (by omega) hb2.size; have HB2 := Lib.hid (HB1.out.trans (hb2.mono HB1.out.size)); have HN2 := Lib.hid hb2; clear hb2)
    | (go_at_call 16; (with_reducible refine hfu.mono ?_); rintro e w3 ⟨⟨v, rfl⟩, h3, hb3⟩; have H3 := Lib.hid (And.intro h3 (And.intro (HB2.out.trans (hb3.mono HB1.out.size)) (Nat.le_trans HN2.out.size hb3.size))); clear h3 hb3))
  clear hfu
  go_upto_region 7 with fail
  go_wp2
  go_loopw [7, 29] (fun dn i wr => ∃ k : Nat, ∃ dk : DK, k ≤ T ∧ i = .int .i64 k ∧ dn = .int .i64 ((min k F : Nat) : Int) ∧ Hid (Tried F k dk ∧ Dk w1.heap.size wr db dk ∧ Below W.heap.size W wr ∧ w1.heap.size ≤ wr.heap.size)) (fun _ i _ => T - (intOf i).toNat)
  case atStart => exact ⟨0, _, by omega, rfl, by simp, tried_start F, H3.out.1, H3.out.2.1, H3.out.2.2⟩
  case round =>
    obtain ⟨k, dk, hk, rfl, rfl, HR⟩ := hrel
    by_cases hlt : k < T
    · have hm4 : (k : Int).tmod 4 = ((k % 4 : Nat) : Int) := by rw [Int.tmod_eq_emod_of_nonneg (by omega)]; omega
      have hm3 : (k : Int).tmod 3 = ((k % 3 : Nat) : Int) := by rw [Int.tmod_eq_emod_of_nonneg (by omega)]; omega
      have hq : k % 4 < 4 := by omega
      generalize hqe : k % 4 = q at hm4 hq
      clear hqe
      have hrd := HR.out.2.1.read (q : Int)
      rw [tried_readE HR.out.1 q hq] at hrd
      have hpl : (dk.read (q : Int)).length = 64 := HR.out.2.1.read_length _
      generalize hr3 : k % 3 = r3 at hm3
      clear hr3
      have HP := Lib.hid hpl
      clear hpl
      have hw1 : W.heap.size ≤ w1.heap.size := HB1.out.size
      by_cases hFk : F < k
      · rw [if_pos hFk] at hrd
        go_upto_region 11 with (first
          | (go_at_call 15; (with_reducible refine hrd.mono ?_); rintro e w4 ⟨v4, rfl, hr4, hb4⟩; obtain ⟨b4, rfl⟩ := res_err hr4; have H4 := Lib.hid hb4; clear hb4 hr4)
          | (refine wpList_alloc_info (by rfl) 33 (by rfl) (.agg (nv .u8 zeroPg)) (nv .u8 zeroPg) (by kernel_rfl) rfl ?_)
          | (refine wpList_store_row (by rfl) 33 (.tmp 9) (.tmp 37) (by rfl) _ (nv .u8 (dk.read (q : Int))) (by rfl) (by rfl) 33 (nv .u8 zeroPg) (heap_alloc_new _ _) (info_pg _ HP.out) (by rw [nv_size, nv_size, HP.out]; rfl) (nv_one _ _) ?_))
        have hv := pg_var w4 (dk.read (q : Int))
        generalize (w4.alloc (.cells (nv .u8 zeroPg) 33)).setRow w4.heap.size (nv .u8 (dk.read (q : Int))) = w5 at hv ⊢
        have hd5 := (HR.out.2.1.below H4.out).below hv.2
        have hb5 := H4.out.trans (hv.2.mono H4.out.size)
        have hoff := hd5.off
        rw [HR.out.1.2.2.1, show decide (F < k) = true by simp; omega] at hoff
        have hs5 : w1.heap.size ≤ w5.heap.size := Nat.le_trans HR.out.2.2.2 hb5.size
        have hpn : dk.pend.length < 1000000 := by have := HR.out.1.2.1; omega
        have hfl := hd5.flush (by omega) hs5
        have hwr := hd5.write (q : Int) (pg1 1) (pg1_length 1) hpn hs5
        rw [(tried_flush HR.out.1).1, if_neg (by omega)] at hfl
        rw [(tried_write HR.out.1 q hq (pg1 1)).1, if_neg (by omega)] at hwr
        have H5 := Lib.hid (And.intro (HR.out.2.2.1.trans (hb5.mono HR.out.2.2.1.size)) (And.intro hs5 (And.intro (tried_flush HR.out.1).2 (tried_write HR.out.1 q hq (pg1 1)).2)))
        clear hv hd5 hb5 hs5 hpn
        by_cases h3 : r3 = 2
        · subst h3
          go_wp2_with (first
            | (go_at_call 17; (with_reducible refine hoff.mono ?_); rintro e w' ⟨rfl, rfl⟩)
            | (go_at_call 12; (with_reducible refine hfl.mono ?_); rintro e w6 ⟨v6, rfl, hr6, h6, hb6⟩; obtain ⟨b6, rfl⟩ := res_err hr6; have hnum := num_off _ w6 (hg.below (H5.out.1.trans (hb6.mono hw1))) hr6; have H6 := Lib.hid (And.intro h6 hb6); clear h6 hb6)
            | (go_at_call 14; (with_reducible refine hnum.mono ?_); rintro e w7 ⟨rfl, hb7⟩; have H7 := Lib.hid hb7; clear hb7))
          go_round
          case rel => exact ⟨k + 1, _, by omega, by go_num, by congr 1; omega, H5.out.2.2.1, H6.out.1.below H7.out, (H5.out.1.trans (H6.out.2.mono hw1)).trans (H7.out.mono (Nat.le_trans H5.out.1.size H6.out.2.size)), Nat.le_trans H5.out.2.1 (Nat.le_trans H6.out.2.size H7.out.size)⟩
          case measure => simp [intOf]; omega
        · go_wp2_with (first
            | (go_at_call 17; (with_reducible refine hoff.mono ?_); rintro e w' ⟨rfl, rfl⟩)
            | (go_at_call 11; refine hwr.mono ?_; rintro e w6 ⟨v6, rfl, hr6, h6, hb6⟩; obtain ⟨b6, rfl⟩ := res_err hr6; have hnum := num_off _ w6 (hg.below (H5.out.1.trans (hb6.mono hw1))) hr6; have H6 := Lib.hid (And.intro h6 hb6); clear h6 hb6)
            | (go_at_call 14; (with_reducible refine hnum.mono ?_); rintro e w7 ⟨rfl, hb7⟩; have H7 := Lib.hid hb7; clear hb7))
          go_round
          case rel => exact ⟨k + 1, _, by omega, by go_num, by congr 1; omega, H5.out.2.2.2, H6.out.1.below H7.out, (H5.out.1.trans (H6.out.2.mono hw1)).trans (H7.out.mono (Nat.le_trans H5.out.1.size H6.out.2.size)), Nat.le_trans H5.out.2.1 (Nat.le_trans H6.out.2.size H7.out.size)⟩
          case measure => simp [intOf]; omega
      · rw [if_neg hFk] at hrd
        by_cases hkF : k < F
        · go_upto_region 11 with (first
            | (go_at_call 15; (with_reducible refine hrd.mono ?_); rintro e w4 ⟨v4, rfl, hr4, hb4⟩; obtain rfl := res_nil hr4; have H4 := Lib.hid hb4; clear hb4 hr4)
            | (refine wpList_alloc_info (by rfl) 33 (by rfl) (.agg (nv .u8 zeroPg)) (nv .u8 zeroPg) (by kernel_rfl) rfl ?_)
            | (refine wpList_store_row (by rfl) 33 (.tmp 9) (.tmp 37) (by rfl) _ (nv .u8 (dk.read (q : Int))) (by rfl) (by rfl) 33 (nv .u8 zeroPg) (heap_alloc_new _ _) (info_pg _ HP.out) (by rw [nv_size, nv_size, HP.out]; rfl) (nv_one _ _) ?_))
          have hv := pg_var w4 (dk.read (q : Int))
          generalize (w4.alloc (.cells (nv .u8 zeroPg) 33)).setRow w4.heap.size (nv .u8 (dk.read (q : Int))) = w5 at hv ⊢
          have hd5 := (HR.out.2.1.below H4.out).below hv.2
          have hb5 := H4.out.trans (hv.2.mono H4.out.size)
          have hoff := hd5.off
          rw [HR.out.1.2.2.1, show decide (F < k) = false by simp; omega] at hoff
          have hs5 : w1.heap.size ≤ w5.heap.size := Nat.le_trans HR.out.2.2.2 hb5.size
          have hpn : dk.pend.length < 1000000 := by have := HR.out.1.2.1; omega
          have hfl := hd5.flush (by omega) hs5
          have hwr := hd5.write (q : Int) (pg1 1) (pg1_length 1) hpn hs5
          rw [(tried_flush HR.out.1).1, if_pos (by omega)] at hfl
          rw [(tried_write HR.out.1 q hq (pg1 1)).1, if_pos (by omega)] at hwr
          have H5 := Lib.hid (And.intro (HR.out.2.2.1.trans (hb5.mono HR.out.2.2.1.size)) (And.intro hs5 (And.intro (tried_flush HR.out.1).2 (tried_write HR.out.1 q hq (pg1 1)).2)))
          clear hv hd5 hb5 hs5 hpn
          by_cases h3 : r3 = 2
          · subst h3
            go_wp2_with (first
              | (go_at_call 17; (with_reducible refine hoff.mono ?_); rintro e w' ⟨rfl, rfl⟩)
              | (go_at_call 12; (with_reducible refine hfl.mono ?_); rintro e w6 ⟨v6, rfl, hr6, h6, hb6⟩; obtain rfl := res_nil hr6; have H6 := Lib.hid (And.intro h6 hb6); clear h6 hb6)
              | (go_at_call 14; (with_reducible refine hnum.mono ?_); rintro e w7 ⟨rfl, hb7⟩; have H7 := Lib.hid hb7; clear hb7))
            go_round
            case rel => exact ⟨k + 1, _, by omega, by go_num, by congr 1; omega, H5.out.2.2.1, H6.out.1, H5.out.1.trans (H6.out.2.mono hw1), Nat.le_trans H5.out.2.1 H6.out.2.size⟩
            case measure => simp [intOf]; omega
          · go_wp2_with (first
              | (go_at_call 17; (with_reducible refine hoff.mono ?_); rintro e w' ⟨rfl, rfl⟩)
              | (go_at_call 11; refine hwr.mono ?_; rintro e w6 ⟨v6, rfl, hr6, h6, hb6⟩; obtain rfl := res_nil hr6; have H6 := Lib.hid (And.intro h6 hb6); clear h6 hb6)
              | (go_at_call 14; (with_reducible refine hnum.mono ?_); rintro e w7 ⟨rfl, hb7⟩; have H7 := Lib.hid hb7; clear hb7))
            go_round
            case rel => exact ⟨k + 1, _, by omega, by go_num, by congr 1; omega, H5.out.2.2.2, H6.out.1, H5.out.1.trans (H6.out.2.mono hw1), Nat.le_trans H5.out.2.1 H6.out.2.size⟩
            case measure => simp [intOf]; omega
        · go_upto_region 11 with (first
            | (go_at_call 15; (with_reducible refine hrd.mono ?_); rintro e w4 ⟨v4, rfl, hr4, hb4⟩; obtain rfl := res_nil hr4; have H4 := Lib.hid hb4; clear hb4 hr4)
            | (refine wpList_alloc_info (by rfl) 33 (by rfl) (.agg (nv .u8 zeroPg)) (nv .u8 zeroPg) (by kernel_rfl) rfl ?_)
            | (refine wpList_store_row (by rfl) 33 (.tmp 9) (.tmp 37) (by rfl) _ (nv .u8 (dk.read (q : Int))) (by rfl) (by rfl) 33 (nv .u8 zeroPg) (heap_alloc_new _ _) (info_pg _ HP.out) (by rw [nv_size, nv_size, HP.out]; rfl) (nv_one _ _) ?_))
          have hv := pg_var w4 (dk.read (q : Int))
          generalize (w4.alloc (.cells (nv .u8 zeroPg) 33)).setRow w4.heap.size (nv .u8 (dk.read (q : Int))) = w5 at hv ⊢
          have hd5 := (HR.out.2.1.below H4.out).below hv.2
          have hb5 := H4.out.trans (hv.2.mono H4.out.size)
          have hoff := hd5.off
          rw [HR.out.1.2.2.1, show decide (F < k) = false by simp; omega] at hoff
          have hs5 : w1.heap.size ≤ w5.heap.size := Nat.le_trans HR.out.2.2.2 hb5.size
          have hpn : dk.pend.length < 1000000 := by have := HR.out.1.2.1; omega
          have hfl := hd5.flush (by omega) hs5
          have hwr := hd5.write (q : Int) (pg1 1) (pg1_length 1) hpn hs5
          rw [(tried_flush HR.out.1).1, if_neg (by omega)] at hfl
          rw [(tried_write HR.out.1 q hq (pg1 1)).1, if_neg (by omega)] at hwr
          have H5 := Lib.hid (And.intro (HR.out.2.2.1.trans (hb5.mono HR.out.2.2.1.size)) (And.intro hs5 (And.intro (tried_flush HR.out.1).2 (tried_write HR.out.1 q hq (pg1 1)).2)))
          clear hv hd5 hb5 hs5 hpn
          by_cases h3 : r3 = 2
          · subst h3
            go_wp2_with (first
              | (go_at_call 17; (with_reducible refine hoff.mono ?_); rintro e w' ⟨rfl, rfl⟩)
              | (go_at_call 12; (with_reducible refine hfl.mono ?_); rintro e w6 ⟨v6, rfl, hr6, h6, hb6⟩; obtain ⟨b6, rfl⟩ := res_err hr6; have hnum := num_off _ w6 (hg.below (H5.out.1.trans (hb6.mono hw1))) hr6; have H6 := Lib.hid (And.intro h6 hb6); clear h6 hb6)
              | (go_at_call 14; (with_reducible refine hnum.mono ?_); rintro e w7 ⟨rfl, hb7⟩; have H7 := Lib.hid hb7; clear hb7))
            go_round
            case rel => exact ⟨k + 1, _, by omega, by go_num, by congr 1; omega, H5.out.2.2.1, H6.out.1.below H7.out, (H5.out.1.trans (H6.out.2.mono hw1)).trans (H7.out.mono (Nat.le_trans H5.out.1.size H6.out.2.size)), Nat.le_trans H5.out.2.1 (Nat.le_trans H6.out.2.size H7.out.size)⟩
            case measure => simp [intOf]; omega
          · go_wp2_with (first
              | (go_at_call 17; (with_reducible refine hoff.mono ?_); rintro e w' ⟨rfl, rfl⟩)
              | (go_at_call 11; refine hwr.mono ?_; rintro e w6 ⟨v6, rfl, hr6, h6, hb6⟩; obtain ⟨b6, rfl⟩ := res_err hr6; have hnum := num_off _ w6 (hg.below (H5.out.1.trans (hb6.mono hw1))) hr6; have H6 := Lib.hid (And.intro h6 hb6); clear h6 hb6)
              | (go_at_call 14; (with_reducible refine hnum.mono ?_); rintro e w7 ⟨rfl, hb7⟩; have H7 := Lib.hid hb7; clear hb7))
            go_round
            case rel => exact ⟨k + 1, _, by omega, by go_num, by congr 1; omega, H5.out.2.2.2, H6.out.1.below H7.out, (H5.out.1.trans (H6.out.2.mono hw1)).trans (H7.out.mono (Nat.le_trans H5.out.1.size H6.out.2.size)), Nat.le_trans H5.out.2.1 (Nat.le_trans H6.out.2.size H7.out.size)⟩
            case measure => simp [intOf]; omega
    · obtain rfl : k = T := by omega
      go_wp2
      all_goals
        go_ret
        exact ⟨by simp; omega, HR.out.2.2.1⟩
end Go.Proofs.YtjmjfgbpjecgfaaDoor
