/-
  sha: round, of the reference.
-/
import Derived.Test.YtkabkehfckbhcaaDoorMgF
import Derived.Test.YtkabkehfckbhcaaDoorMgF
namespace Go.Proofs.YtkabkehfckbhcaaDoor
set_option linter.unusedVariables false
set_option linter.unusedSimpArgs false
open Go.RowKit
attribute [local go_sem ↓] Go.wp_at_zero Go.wp_at_succ

/-- The first k words of a block's schedule. -/
def wl (p : List Nat) (k : Nat) : List Nat := (List.range k).map (wd p)
theorem wl_length (p : List Nat) (k : Nat) : (wl p k).length = k := by simp [wl]
theorem wl_get (p : List Nat) (k i : Nat) (h : i < k) : (wl p k).getD i 0 = wd p i := by simp [wl, List.getD, h]
theorem wl_succ (p : List Nat) (k : Nat) : wl p (k + 1) = wl p k ++ [wd p k] := by simp [wl, List.range_succ]

theorem mul4w (c0 c1 c2 c3 : Nat) (h0 : c0 < 256) (h1 : c1 < 256) (h2 : c2 < 256) (h3 : c3 < 256) :
    IntKind.u64.wrap (IntKind.u64.wrap (IntKind.u64.wrap (IntKind.u64.wrap (IntKind.u64.wrap c0 * 16777216) + IntKind.u64.wrap (IntKind.u64.wrap c1 * 65536)) + IntKind.u64.wrap (IntKind.u64.wrap c2 * 256)) + IntKind.u64.wrap c3) = ((c0 * 16777216 + c1 * 65536 + c2 * 256 + c3 : Nat) : Int) := by
  simp only [IntKind.wrap_u64]
  omega

theorem xor_u64 (a b : Nat) (ha : a < 4294967296) (hb : b < 4294967296) : bits .xor .u64 (a : Int) (b : Int) = ((a ^^^ b : Nat) : Int) := u64_xor_nat a b (by omega) (by omega)
theorem and_u64 (a b : Nat) (ha : a < 4294967296) (hb : b < 4294967296) : bits .and .u64 (a : Int) (b : Int) = ((a &&& b : Nat) : Int) := u64_and_nat a b (by omega) (by omega)
theorem sg0_r (x : Nat) (hx : x < 4294967296) : bits .xor .u64 (bits .xor .u64 (rot x 7 : Nat) (rot x 18 : Nat)) ((x : Int) / 8) = ((sg0 x : Nat) : Int) := by
  rw [xor_u64 _ _ (rot_lt _ _) (rot_lt _ _)]
  exact xor_u64 _ (x / 8) (xor_lt (rot_lt _ _) (rot_lt _ _)) (by omega)
theorem sg1_r (x : Nat) (hx : x < 4294967296) : bits .xor .u64 (bits .xor .u64 (rot x 17 : Nat) (rot x 19 : Nat)) ((x : Int) / 1024) = ((sg1 x : Nat) : Int) := by
  rw [xor_u64 _ _ (rot_lt _ _) (rot_lt _ _)]
  exact xor_u64 _ (x / 1024) (xor_lt (rot_lt _ _) (rot_lt _ _)) (by omega)
theorem sum4_r (a b c d : Nat) (ha : a < 4294967296) (hb : b < 4294967296) (hc : c < 4294967296) (hd : d < 4294967296) :
    (IntKind.u64.wrap (IntKind.u64.wrap (IntKind.u64.wrap ((a : Int) + b) + c) + d)).tmod 4294967296 = (((a + b + c + d) % 4294967296 : Nat) : Int) := by
  rw [Int.tmod_eq_emod_of_nonneg (by rw [IntKind.wrap_u64]; omega)]
  simp only [IntKind.wrap_u64]; omega

theorem S1_r (x : Nat) : bits .xor .u64 (bits .xor .u64 (rot x 6 : Nat) (rot x 11 : Nat)) (rot x 25 : Nat) = ((S1 x : Nat) : Int) := by
  rw [xor_u64 _ _ (rot_lt _ _) (rot_lt _ _)]
  exact xor_u64 _ _ (xor_lt (rot_lt _ _) (rot_lt _ _)) (rot_lt _ _)
theorem S0_r (x : Nat) : bits .xor .u64 (bits .xor .u64 (rot x 2 : Nat) (rot x 13 : Nat)) (rot x 22 : Nat) = ((S0 x : Nat) : Int) := by
  rw [xor_u64 _ _ (rot_lt _ _) (rot_lt _ _)]
  exact xor_u64 _ _ (xor_lt (rot_lt _ _) (rot_lt _ _)) (rot_lt _ _)
theorem mj_r (a b c : Nat) (ha : a < 4294967296) (hb : b < 4294967296) (hc : c < 4294967296) : bits .xor .u64 (bits .xor .u64 (bits .and .u64 (a : Int) (b : Int)) (bits .and .u64 (a : Int) (c : Int))) (bits .and .u64 (b : Int) (c : Int)) = ((mj a b c : Nat) : Int) := by
  rw [and_u64 _ _ ha hb, and_u64 _ _ ha hc, and_u64 _ _ hb hc, xor_u64 _ _ (and_lt hb) (and_lt hc)]
  exact xor_u64 _ _ (xor_lt (and_lt hb) (and_lt hc)) (and_lt hc)
theorem ch_r (e f g : Nat) (he : e < 4294967296) (hf : f < 4294967296) (hg : g < 4294967296) :
    bits .xor .u64 (bits .and .u64 (e : Int) (f : Int)) (bits .and .u64 (4294967295 - (e : Int)) (g : Int)) = ((ch e f g : Nat) : Int) := by
  have h : (4294967295 - (e : Int)) = ((4294967295 - e : Nat) : Int) := by omega
  rw [h, and_u64 _ _ he hf, and_u64 _ _ (by omega) hg]
  exact xor_u64 _ _ (and_lt hf) (and_lt hg)
theorem sum2_r (a b : Nat) (ha : a < 4294967296) (hb : b < 4294967296) : (IntKind.u64.wrap ((a : Int) + b)).tmod 4294967296 = (((a + b) % 4294967296 : Nat) : Int) := by
  rw [Int.tmod_eq_emod_of_nonneg (by rw [IntKind.wrap_u64]; omega)]
  simp only [IntKind.wrap_u64]; omega
theorem sum5_r (a b c d e : Nat) (ha : a < 4294967296) (hb : b < 4294967296) (hc : c < 4294967296) (hd : d < 4294967296) (he : e < 4294967296) :
    (IntKind.u64.wrap (IntKind.u64.wrap (IntKind.u64.wrap (IntKind.u64.wrap ((a : Int) + b) + c) + d) + e)).tmod 4294967296 = (((a + b + c + d + e) % 4294967296 : Nat) : Int) := by
  rw [Int.tmod_eq_emod_of_nonneg (by rw [IntKind.wrap_u64]; omega)]
  simp only [IntKind.wrap_u64]; omega

theorem addTo_comm (h V : List Nat) : addTo h V = addTo V h := by
  unfold addTo
  apply List.map_congr_left
  intro i _
  rw [Nat.add_comm]

set_option maxRecDepth 100000 in
set_option maxHeartbeats 4000000 in
theorem roundR_any (hb : Nat) (h : List Nat) (hcap : Nat) (a : Option Addr) (p : List Nat) (cap : Nat) (w : World)
    (hk : ∀ i, i < 8 → w.cell? ⟨hb, i, none⟩ = some (.int .u64 ((h.getD i 0 : Nat) : Int))) (hp : IsBytes w a p) (hl : p.length = 64) (hh : h.length = 8) (hlt : ∀ i, h.getD i 0 < 4294967296) :
    Calls Tryd.prog 49 #[.slice (some ⟨hb, 0, none⟩) 8 hcap, .slice a 64 cap] w fun e w' => ∃ nb, e = .returned (.slice (some ⟨nb, 0, none⟩) 8 8) ∧ (∀ i, i < 8 → w'.cell? ⟨nb, i, none⟩ = some (.int .u64 (((comp h p).getD i 0 : Nat) : Int))) ∧ Below w.heap.size w w' := by
  obtain ⟨hp1, hp2⟩ := hp
  obtain ⟨b, off, rfl, hc⟩ := hp2.resolve_left (by rintro rfl; simp at hl)
  have HL := Lib.hid hl
  have HK := Lib.hid hk
  have HC : Hid (∀ i, i < 64 → w.cell? ⟨b, off + i, none⟩ = some (.int .u8 (p.getD i 0 : Nat))) := fun i hi => hc i (by omega)
  have HP : Hid (∀ i, i < 64 → p.getD i 0 < 256) := fun i hi => hp1 _ (by simp [List.getD, List.getElem?_eq_getElem (show i < p.length by omega)])
  have HP1 := Lib.hid hp1
  have HLT := Lib.hid hlt
  have HH := Lib.hid hh
  have hbw : b < w.heap.size := cell?_some_lt (hc 0 (by omega))
  clear hc hp1 hp2 hl hk hlt hh
  go_enter Tryd.func49, Tryd.ntmps49
  go_wp2
  go_loopw [5, 6] (fun v i wr => ∃ k : Nat, k ≤ 64 ∧ i = .int .i64 k ∧ OwnN wr w.heap.size v (wl p k) ∧ Below w.heap.size w wr) (fun _ i _ => 64 - (intOf i).toNat)
  case atStart => exact ⟨0, by omega, rfl, OwnN.nil _ _, Below.refl _ _⟩
  case round =>
    obtain ⟨k, hk64, rfl, hown, hbel⟩ := hrel
    by_cases hlt : k < 16
    ·
      -- {
      obtain ⟨q, hq⟩ : ∃ q, q = 4 * k := ⟨_, rfl⟩
      have f0 := (hbel.cell (p := ⟨b, off + q, none⟩) hbw).trans (HC.out q (by omega))
      have f1 := (hbel.cell (p := ⟨b, off + (q + 1), none⟩) hbw).trans (HC.out (q + 1) (by omega))
      have f2 := (hbel.cell (p := ⟨b, off + (q + 2), none⟩) hbw).trans (HC.out (q + 2) (by omega))
      have f3 := (hbel.cell (p := ⟨b, off + (q + 3), none⟩) hbw).trans (HC.out (q + 3) (by omega))
      have g0 := HP.out q (by omega)
      have g1 := HP.out (q + 1) (by omega)
      have g2 := HP.out (q + 2) (by omega)
      have g3 := HP.out (q + 3) (by omega)
      have e := mul4w _ _ _ _ g0 g1 g2 g3
      have hwk : p.getD q 0 * 16777216 + p.getD (q + 1) 0 * 65536 + p.getD (q + 2) 0 * 256 + p.getD (q + 3) 0 = wd p k := by rw [wd_lo p k hlt, hq]; rfl
      rw [hwk] at e
      have b0 : (0 : Int) ≤ (q : Int) := by omega
      have b1 : (q : Int) < 64 := by omega
      have b2 : (q : Int) + 1 < 64 := by omega
      have b3 : (q : Int) + 2 < 64 := by omega
      have b4 : (q : Int) + 3 < 64 := by omega
      have b5 : (0 : Int) ≤ (q : Int) + 1 := by omega
      have b6 : (0 : Int) ≤ (q : Int) + 2 := by omega
      have b7 : (0 : Int) ≤ (q : Int) + 3 := by omega
      have t1 : ((q : Int) + 1).toNat = q + 1 := by omega
      have t2 : ((q : Int) + 2).toNat = q + 2 := by omega
      have t3 : ((q : Int) + 3).toNat = q + 3 := by omega
      have w0 : IntKind.i64.wrap (4 * (k : Int)) = (q : Int) := by rw [IntWalk.i64_in _ (by omega)]; omega
      have w1 : IntKind.i64.wrap ((q : Int) + 1) = (q : Int) + 1 := IntWalk.i64_in _ (by omega)
      have w2 : IntKind.i64.wrap ((q : Int) + 2) = (q : Int) + 2 := IntWalk.i64_in _ (by omega)
      have w3 : IntKind.i64.wrap ((q : Int) + 3) = (q : Int) + 3 := IntWalk.i64_in _ (by omega)
      have HF := Lib.hid (And.intro (HC.out q (by omega)) (And.intro (HC.out (q + 1) (by omega)) (And.intro (HC.out (q + 2) (by omega)) (HC.out (q + 3) (by omega)))))
      have hbr : b < wr.heap.size := by have := hbel.size; omega
      have hws : w.heap.size ≤ wr.heap.size := hbel.size
      have HS : Hid (wl p (k + 1) = wl p k ++ [wd p k]) := wl_succ p k
      have hlen := wl_length p k
      have HN := Lib.hid hlen
      have HO := Lib.hid hown
      have HB := Lib.hid hbel
      obtain ⟨a', cap', rfl, -, -, -⟩ := hown.form
      have HAC := Lib.hid hlen
      clear hwk hq hown hbel hlen
      generalize p.getD q 0 = x0 at *
      generalize p.getD (q + 1) 0 = x1 at *
      generalize p.getD (q + 2) 0 = x2 at *
      generalize p.getD (q + 3) 0 = x3 at *
      go_wp2
      go_region_held3 (fun w' => w'.cell? ⟨b, off + q, none⟩ = some (.int .u8 x0) ∧ w'.cell? ⟨b, off + (q + 1), none⟩ = some (.int .u8 x1) ∧ w'.cell? ⟨b, off + (q + 2), none⟩ = some (.int .u8 x2) ∧ w'.cell? ⟨b, off + (q + 3), none⟩ = some (.int .u8 x3))
        (first | (go_keep; done) | exact ⟨(HW1.out.cell (p := ⟨b, off + q, none⟩) hbw).trans HF.out.1, (HW1.out.cell (p := ⟨b, off + (q + 1), none⟩) hbw).trans HF.out.2.1, (HW1.out.cell (p := ⟨b, off + (q + 2), none⟩) hbw).trans HF.out.2.2.1, (HW1.out.cell (p := ⟨b, off + (q + 3), none⟩) hbw).trans HF.out.2.2.2⟩)
        ((refine step_num (by rfl) _ _ (by rfl) w.heap.size _ (wl p k) (by rfl) (HO.out.alloc _) wr.heap.size 1 (wd p k) (by rfl) ((IsBlk.new wr #[.int .u64 (wd p k : Nat)] _).cell 0 rfl) (by have := HN.out; omega) (by simp; omega) ?_; intro v' w4 ho4 hb4 _; have HW1 := Lib.hid ((HB.out.alloc hws _).drew.trans hb4); have HO4 := Lib.hid ho4; clear ho4 hb4))
      go_wp2
      go_roundw
      case rel => exact ⟨k + 1, by omega, by go_num, by rw [HS.out]; exact HO4.out, HW1.out⟩
      case measure => simp [intOf]; omega
      -- }
    · by_cases hlt2 : k < 64
      ·
        -- {
        obtain ⟨q0, hk⟩ : ∃ q, k = q + 16 := ⟨k - 16, by omega⟩
        obtain ⟨q1, hq1⟩ : ∃ q, q = q0 + 1 := ⟨_, rfl⟩
        obtain ⟨q2, hq2⟩ : ∃ q, q = q0 + 9 := ⟨_, rfl⟩
        obtain ⟨q3, hq3⟩ : ∃ q, q = q0 + 14 := ⟨_, rfl⟩
        obtain ⟨a', cap', rfl, -, -, hat⟩ := hown.form
        rw [wl_length] at hat
        obtain ⟨g, rfl, hg1, hg2, hcell⟩ := hat.resolve_left (fun e => by have := wl_length p k; rw [e] at this; simp at this; omega)
        have HO : Hid (∀ W, Pushed wr W (.cells #[.int .u64 (wd p k : Nat)] 22) → OwnN W w.heap.size (.slice (some ⟨g, 0, none⟩) k cap') (wl p k)) := by rw [wl_length] at hown; exact fun _ hW => hown.below hW.below
        rw [wl_length]
        have e0 := hcell q0 (by omega)
        have e1 := hcell q1 (by omega)
        have e2 := hcell q2 (by omega)
        have e3 := hcell q3 (by omega)
        rw [wl_get p k _ (by omega)] at e0 e1 e2 e3
        have l0 := wd_lt p HP1.out HL.out q0 (by omega)
        have l1 := wd_lt p HP1.out HL.out q1 (by omega)
        have l2 := wd_lt p HP1.out HL.out q2 (by omega)
        have l3 := wd_lt p HP1.out HL.out q3 (by omega)
        have hw := wd_hi p q0 (by omega)
        rw [← hk, ← hq1, ← hq2, ← hq3] at hw
        have w0 : IntKind.i64.wrap ((k : Int) - 15) = (q1 : Int) := by rw [IntWalk.i64_in _ (by omega)]; omega
        have w1 : IntKind.i64.wrap ((k : Int) - 2) = (q3 : Int) := by rw [IntWalk.i64_in _ (by omega)]; omega
        have w2 : IntKind.i64.wrap ((k : Int) - 16) = (q0 : Int) := by rw [IntWalk.i64_in _ (by omega)]; omega
        have w3 : IntKind.i64.wrap ((k : Int) - 7) = (q2 : Int) := by rw [IntWalk.i64_in _ (by omega)]; omega
        have b0 : (0 : Int) ≤ (q1 : Int) := by omega
        have b1 : (q1 : Int) < (k : Int) := by omega
        have b2 : (0 : Int) ≤ (q2 : Int) := by omega
        have b3 : (q2 : Int) < (k : Int) := by omega
        have b4 : (0 : Int) ≤ (q3 : Int) := by omega
        have b5 : (q3 : Int) < (k : Int) := by omega
        have b6 : (0 : Int) ≤ (q0 : Int) := by omega
        have b7 : (q0 : Int) < (k : Int) := by omega
        have n0 : q0 < k := by omega
        have n2 : q2 < k := by omega
        have hws : w.heap.size ≤ wr.heap.size := hbel.size
        have HS : Hid (wl p (k + 1) = wl p k ++ [wd p k]) := wl_succ p k
        have HN := Lib.hid (wl_length p k)
        have HB : Hid (∀ W, Pushed wr W (.cells #[.int .u64 (wd p k : Nat)] 22) → Below w.heap.size w W) := fun _ hW => hbel.trans (hW.below.mono hws)
        have HE := Lib.hid (And.intro n0 n2)
        clear hown hbel hcell hk hq1 hq2 hq3 hg1 n0 n2
        have E0 := sg0_r _ l1
        have E1 := sg1_r _ l3
        have E2 := sum4_r _ _ _ _ l0 (sg0_lt l1) l2 (sg1_lt l3)
        rw [← hw] at E2
        clear hw
        have HEa : Hid (∀ W, Pushed wr W (.cells #[.int .u64 (wd p k : Nat)] 22) → W.cell? ⟨g, q0, none⟩ = some (.int .u64 (wd p q0 : Nat))) := fun W hW => (hW.below.cell (p := ⟨g, q0, none⟩) hg2).trans e0
        have HEb : Hid (∀ W, Pushed wr W (.cells #[.int .u64 (wd p k : Nat)] 22) → W.cell? ⟨g, q2, none⟩ = some (.int .u64 (wd p q2 : Nat))) := fun W hW => (hW.below.cell (p := ⟨g, q2, none⟩) hg2).trans e2
        generalize wd p q0 = x0 at *
        generalize wd p q1 = x1 at *
        generalize wd p q2 = x2 at *
        generalize wd p q3 = x3 at *
        generalize sg0 x1 = y0 at *
        generalize sg1 x3 = y1 at *
        go_wp2
        go_quiet ((go_at_call 57; exact Calls.quiet_of_same (turnR_q x1 _ l1 (by omega) (by omega) _)))
        go_wp2
        go_quiet ((go_at_call 57; exact quiet_more (turnR_q x3 _ l3 (by omega) (by omega) _)))
        go_wp2
        go_region_held3 (fun w' => w'.cell? ⟨g, q0, none⟩ = some (.int .u64 x0) ∧ w'.cell? ⟨g, q2, none⟩ = some (.int .u64 x2))
          (first | (go_keep; done) | exact ⟨HW2.out.1, HW2.out.2⟩)
          ((refine step_num (by rfl) _ _ (by rfl) w.heap.size _ (wl p k) (by rfl) (by exact HO.out _ ⟨rfl, rfl, rfl, rfl⟩) wr.heap.size 1 (wd p k) (by rfl) (by exact Pushed.cell0 (w := wr) (t := 22) ⟨rfl, rfl, rfl, rfl⟩) (by have := HN.out; omega) (by simp; omega) ?_; intro v' w4 ho4 hb4 hk4; have HW1 : Hid (Below w.heap.size w w4) := Lib.hid (Below.trans (by exact HB.out _ ⟨rfl, rfl, rfl, rfl⟩) hb4); have HO4 := Lib.hid ho4; have HW2 : Hid (w4.cell? ⟨g, q0, none⟩ = some (.int .u64 x0) ∧ w4.cell? ⟨g, q2, none⟩ = some (.int .u64 x2)) := Lib.hid ⟨(hk4 g q0 rfl (by rw [wl_length]; exact HE.out.1)).trans (by exact HEa.out _ ⟨rfl, rfl, rfl, rfl⟩), (hk4 g q2 rfl (by rw [wl_length]; exact HE.out.2)).trans (by exact HEb.out _ ⟨rfl, rfl, rfl, rfl⟩)⟩; clear ho4 hb4 hk4))
        go_wp2
        go_roundw
        case rel => exact ⟨k + 1, by omega, by go_num, by rw [HS.out]; exact HO4.out, HW1.out⟩
        case measure => simp [intOf]; omega
        -- }
      · have hk : k = 64 := by omega
        obtain ⟨a', cap', rfl, -, -, hat⟩ := hown.form
        rw [wl_length] at hat
        obtain ⟨g, rfl, hg1, hg2, hcell⟩ := hat.resolve_left (fun e => by have := wl_length p k; rw [e] at this; simp at this; omega)
        rw [wl_length]
        have hc2 : ∀ i, i < 64 → wr.cell? ⟨g, i, none⟩ = some (.int .u64 (wd p i : Nat)) := fun i hi => by have := hcell i (by omega); rw [wl_get p k i (by omega)] at this; exact this
        obtain ⟨h0, h1, h2, h3, h4, h5, h6, h7, rfl⟩ := list8 h HH.out
        have hbh : hb < w.heap.size := cell?_some_lt (HK.out 0 (by omega))
        have hc0 := (hbel.cell (p := ⟨hb, 0, none⟩) hbh).trans (HK.out 0 (by omega))
        have hc1 := (hbel.cell (p := ⟨hb, 1, none⟩) hbh).trans (HK.out 1 (by omega))
        have hc2' := (hbel.cell (p := ⟨hb, 2, none⟩) hbh).trans (HK.out 2 (by omega))
        have hc3 := (hbel.cell (p := ⟨hb, 3, none⟩) hbh).trans (HK.out 3 (by omega))
        have hc4 := (hbel.cell (p := ⟨hb, 4, none⟩) hbh).trans (HK.out 4 (by omega))
        have hc5 := (hbel.cell (p := ⟨hb, 5, none⟩) hbh).trans (HK.out 5 (by omega))
        have hc6 := (hbel.cell (p := ⟨hb, 6, none⟩) hbh).trans (HK.out 6 (by omega))
        have hc7 := (hbel.cell (p := ⟨hb, 7, none⟩) hbh).trans (HK.out 7 (by omega))
        have HB := Lib.hid hbel
        have HK2 := Lib.hid (And.intro hk (And.intro hg1 (And.intro hg2 (And.intro hc2 hbh))))
        clear hk hat hcell hown hbel hc2 hg1 hg2 hbh
        simp only [List.getD_cons_zero, List.getD_cons_succ] at hc0 hc1 hc2' hc3 hc4 hc5 hc6 hc7
        go_wp2
        go_quiet (fail)
        go_wp2_with fail
        refine (roots_any _).mono ?_
        rintro e W2 ⟨rfl, tt, hw2⟩
        have hk1 : ∀ i, i < 64 → W2.cell? ⟨wr.heap.size, i, none⟩ = some (.int .u64 (kw.getD i 0 : Nat)) := fun i hi => by
          rw [hw2]; exact (IsBlk.new _ _ _).cell i (nv_get .u64 kw i (by rw [kw_length]; exact hi))
        have hb2 : Below wr.heap.size wr W2 := by rw [hw2]; exact (drawn_below (Below.refl _ _) _).alloc (Nat.le_refl _) _
        have HW : Hid (Below w.heap.size w W2 ∧ (∀ i, i < 64 → W2.cell? ⟨wr.heap.size, i, none⟩ = some (.int .u64 (kw.getD i 0 : Nat))) ∧ (∀ i, i < 64 → W2.cell? ⟨g, i, none⟩ = some (.int .u64 (wd p i : Nat)))) :=
          ⟨HB.out.trans (hb2.mono HB.out.size), hk1, fun i hi => (hb2.cell (p := ⟨g, i, none⟩) HK2.out.2.2.1).trans (HK2.out.2.2.2.1 i hi)⟩
        clear hw2 hk1 hb2 hc0 hc1 hc2' hc3 hc4 hc5 hc6 hc7
        have hwz : w.heap.size ≤ wr.heap.size := HB.out.size
        go_wp2
        go_loopw [9, 10, 11, 12, 13, 14, 15, 16, 18] (fun s0 s1 s2 s3 s4 s5 s6 s7 i wr => ∃ (k n : Nat), k ≤ 64 ∧ i = .int .i64 k ∧ wr = W2.drewN n ∧
            s0 = .int .u64 (rst p [h0, h1, h2, h3, h4, h5, h6, h7] k).a ∧ s1 = .int .u64 (rst p [h0, h1, h2, h3, h4, h5, h6, h7] k).b ∧ s2 = .int .u64 (rst p [h0, h1, h2, h3, h4, h5, h6, h7] k).c ∧ s3 = .int .u64 (rst p [h0, h1, h2, h3, h4, h5, h6, h7] k).d ∧
            s4 = .int .u64 (rst p [h0, h1, h2, h3, h4, h5, h6, h7] k).e ∧ s5 = .int .u64 (rst p [h0, h1, h2, h3, h4, h5, h6, h7] k).f ∧ s6 = .int .u64 (rst p [h0, h1, h2, h3, h4, h5, h6, h7] k).g ∧ s7 = .int .u64 (rst p [h0, h1, h2, h3, h4, h5, h6, h7] k).l) (fun _ _ _ _ _ _ _ _ i _ => 64 - (intOf i).toNat)
        case atStart => exact ⟨0, 0, by omega, rfl, rfl, rfl, rfl, rfl, rfl, rfl, rfl, rfl, rfl⟩
        case round =>
          obtain ⟨k, n, hk64, rfl, rfl, rfl, rfl, rfl, rfl, rfl, rfl, rfl, rfl⟩ := hrel
          by_cases hlt : k < 64
          ·
            -- {
            have hst := rst_succ p [h0, h1, h2, h3, h4, h5, h6, h7] k
            have hok := rst_ok p [h0, h1, h2, h3, h4, h5, h6, h7] HLT.out k
            have ck := HW.out.2.1 k hlt
            have cw := HW.out.2.2 k hlt
            have lk := kw_lt k
            have lw := wd_lt p HP1.out HL.out k hlt
            have HS := Lib.hid hst
            clear hst
            generalize rst p [h0, h1, h2, h3, h4, h5, h6, h7] k = s at *
            generalize kw.getD k 0 = kk at *
            generalize wd p k = ww at *
            obtain ⟨a, b', c, d, e, f, g', l⟩ := s
            obtain ⟨oa, ob, oc, od, oe, of, og, ol⟩ := hok
            simp only at oa ob oc od oe of og ol
            have X1 := S1_r e
            have X2 := ch_r e f g' oe of og
            have X4 := S0_r a
            have X5 := mj_r a b' c oa ob oc
            have X3 := sum5_r l (S1 e) (ch e f g') kk ww ol (S1_lt _) (ch_lt of og) lk lw
            have X6 := sum2_r (S0 a) (mj a b' c) (S0_lt _) (mj_lt ob oc)
            obtain ⟨t, ht⟩ : ∃ t, t = (l + S1 e + ch e f g' + kk + ww) % 4294967296 := ⟨_, rfl⟩
            obtain ⟨u, hu⟩ : ∃ u, u = (S0 a + mj a b' c) % 4294967296 := ⟨_, rfl⟩
            have X7 := sum2_r d t od (by omega)
            have X8 := sum2_r t u (by omega) (by omega)
            obtain ⟨d2, hd2⟩ : ∃ x, x = (d + t) % 4294967296 := ⟨_, rfl⟩
            obtain ⟨a2, ha2⟩ : ∃ x, x = (t + u) % 4294967296 := ⟨_, rfl⟩
            rw [← ht] at X3
            rw [← hu] at X6
            rw [← hd2] at X7
            rw [← ha2] at X8
            have hst2 : rst p [h0, h1, h2, h3, h4, h5, h6, h7] (k + 1) = ⟨a2, a, b', c, d2, e, f, g'⟩ := by rw [HS.out, hd2, ha2, ht, hu]; rfl
            have HT := Lib.hid hst2
            clear ht hu hd2 ha2 hst2 HS
            have b0 : (0 : Int) ≤ (k : Int) := by omega
            have b1 : (k : Int) < 64 := by omega
            go_wp2
            go_quiet ((go_at_call 57; exact quiet_more (turnR_q e _ oe (by omega) (by omega) _)))
            go_wp2_with (go_at_call 57; refine (turnR_i a _ oa (by omega) (by omega) _).mono ?_; rintro e w' ⟨rfl, rfl⟩)
            go_roundw
            case rel =>
              refine ⟨k + 1, _, by omega, by go_num, rfl, ?_⟩
              rw [HT.out]
              exact ⟨rfl, rfl, rfl, rfl, rfl, rfl, rfl, rfl⟩
            case measure => simp [intOf]; omega
            -- }
          · have hk : k = 64 := by omega
            have hV : rst p [h0, h1, h2, h3, h4, h5, h6, h7] k = rst p [h0, h1, h2, h3, h4, h5, h6, h7] 64 := by rw [hk]
            have hok := rst_ok p [h0, h1, h2, h3, h4, h5, h6, h7] HLT.out 64
            rw [hV]
            have HO := Lib.hid hok
            have HH2 : Hid (∀ i, i < 8 → W2.cell? ⟨hb, i, none⟩ = some (.int .u64 (([h0, h1, h2, h3, h4, h5, h6, h7].getD i 0 : Nat) : Int))) := fun i hi => (HW.out.1.cell (p := ⟨hb, i, none⟩) HK2.out.2.2.2.2).trans (HK.out i hi)
            have hbs : hb < W2.heap.size := by have := HW.out.1.size; have := HK2.out.2.2.2.2; omega
            have hws := HW.out.1.size
            have hcm : comp [h0, h1, h2, h3, h4, h5, h6, h7] p = addTo (ofSt (rst p [h0, h1, h2, h3, h4, h5, h6, h7] 64)) [h0, h1, h2, h3, h4, h5, h6, h7] := by rw [comp_rst, addTo_comm]
            have HCM := Lib.hid hcm
            clear hV hok hk hcm
            generalize rst p [h0, h1, h2, h3, h4, h5, h6, h7] 64 = s at *
            obtain ⟨sa, sb, sc, sd, se, sf, sg, sl⟩ := s
            go_wp2
            go_loopw [22] (fun i wr => ∃ j : Nat, j ≤ 8 ∧ i = .int .i64 j ∧ Below W2.heap.size W2 wr ∧ IsBlk wr W2.heap.size (nv .u64 (addRow [sa, sb, sc, sd, se, sf, sg, sl] [h0, h1, h2, h3, h4, h5, h6, h7] j)) 22) (fun i _ => 8 - (intOf i).toNat)
            case atStart => exact ⟨0, by omega, rfl, (drawn_below (Below.refl _ _) _).alloc (Nat.le_refl _) _, by rw [addRow_zero _ _ rfl]; exact IsBlk.new _ _ _⟩
            case round =>
              obtain ⟨j, hj8, rfl, hbel, hblk⟩ := hrel
              by_cases hlt : j < 8
              · have r0 := hblk.cell j (nv_get .u64 _ j (by rw [addRow_length]; exact hlt))
                rw [addRow_get _ _ _ _ hlt, if_neg (by omega)] at r0
                have r1 := (hbel.cell (p := ⟨hb, j, none⟩) hbs).trans (HH2.out j hlt)
                have r2 := hblk.fz j
                have hset := nv_set .u64 (addRow [sa, sb, sc, sd, se, sf, sg, sl] [h0, h1, h2, h3, h4, h5, h6, h7] j) j (([sa, sb, sc, sd, se, sf, sg, sl].getD j 0 + [h0, h1, h2, h3, h4, h5, h6, h7].getD j 0) % 4294967296)
                rw [addRow_set _ _ _ hlt] at hset
                have o0 : [sa, sb, sc, sd, se, sf, sg, sl].getD j 0 < 4294967296 := by
                  obtain ⟨oa, ob, oc, od, oe, of, og, ol⟩ := HO.out
                  match j, hlt with
                  | 0, _ => exact oa
                  | 1, _ => exact ob
                  | 2, _ => exact oc
                  | 3, _ => exact od
                  | 4, _ => exact oe
                  | 5, _ => exact of
                  | 6, _ => exact og
                  | 7, _ => exact ol
                have o1 := HLT.out j
                obtain ⟨y, hy⟩ : ∃ y, y = ([sa, sb, sc, sd, se, sf, sg, sl].getD j 0 + [h0, h1, h2, h3, h4, h5, h6, h7].getD j 0) % 4294967296 := ⟨_, rfl⟩
                rw [← hy] at hset
                have HE := Lib.hid (And.intro hbel (And.intro hblk hset))
                clear hbel hblk hset
                generalize [h0, h1, h2, h3, h4, h5, h6, h7].getD j 0 = x0 at *
                generalize [sa, sb, sc, sd, se, sf, sg, sl].getD j 0 = x1 at *
                have X : ((x1 : Int) + x0) % 4294967296 = (y : Int) := by omega
                have HY := Lib.hid hy
                have b0 : (0 : Int) ≤ (j : Int) := by omega
                have b1 : (j : Int) < 8 := by omega
                have hne : W2.heap.size ≠ hb := by omega
                clear hy
                go_wp2
                go_region
                all_goals
                  go_wp2
                  go_roundw
                  case rel =>
                    have h1 := HE.out.2.1.set j (.int .u64 (y : Int))
                    rw [HE.out.2.2] at h1
                    exact ⟨j + 1, by omega, by go_num, (HE.out.1.setCell (p := ⟨W2.heap.size, j, none⟩) (Nat.le_refl _) _).drew, h1⟩
                  case measure => simp [intOf]; omega
              · have hj : j = 8 := by omega
                rw [hj, addRow_end, show addTo [sa, sb, sc, sd, se, sf, sg, sl] [h0, h1, h2, h3, h4, h5, h6, h7] = comp [h0, h1, h2, h3, h4, h5, h6, h7] p from HCM.out.symm] at hblk
                clear hj
                have HE := Lib.hid (And.intro hbel hblk)
                clear hbel hblk
                go_wp2
                go_ret
                exact ⟨_, rfl, fun i hi => HE.out.2.cell i (nv_get .u64 _ i (by rw [comp_rst, ← addRow_end, addRow_length]; exact hi)), HW.out.1.trans (HE.out.1.mono hws)⟩
end Go.Proofs.YtkabkehfckbhcaaDoor
