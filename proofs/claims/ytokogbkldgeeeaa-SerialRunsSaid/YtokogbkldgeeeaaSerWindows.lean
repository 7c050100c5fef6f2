/-
  serial: the law SerialWindows.
-/
import Derived.Test.YtokogbkldgeeeaaSerOrder
namespace Go.Proofs.Ytokogbkldgeeeaa
set_option linter.unusedVariables false
set_option linter.unusedSimpArgs false
open Go.RowKit

theorem comeB_eq {nx rm : Int} (h0 : 0 ≤ nx) (h1 : nx < 4294967296) (h2 : 0 ≤ rm) (h3 : rm ≤ 65536) (S : Int → Bool) (x : Int) : comeB nx rm S x = (decide ((x - nx) % 4294967296 < rm) && !S x) := by
  unfold comeB withinB
  by_cases hr : rm = 0
  · subst hr
    have : ¬ (x - nx) % 4294967296 < 0 := by omega
    simp [this]
  · have e : ((nx + rm - 1) % 4294967296 - nx) % 4294967296 = rm - 1 := by omega
    rw [e]
    have h4 : rm - 1 < 2147483648 := by omega
    have h5 : ((x - nx) % 4294967296 ≤ rm - 1) ↔ ((x - nx) % 4294967296 < rm) := by omega
    simp only [ne_eq, hr, not_false_eq_true, decide_true, Bool.true_and, h4, h5]

/-- Just the numbers whose way from 'nx' is from lo on and below hi. -/
def Span (S : Int → Bool) (nx lo hi : Int) : Prop := ∀ n, 0 ≤ n → n < 4294967296 → S n = decide (lo ≤ (n - nx) % 4294967296 ∧ (n - nx) % 4294967296 < hi)

theorem idx_40 (i : Int) : ∃ j : Int, 0 ≤ j ∧ j < 40 ∧ (i.tmod 40 + 40) % 40 = j ∧ -40 ≤ i.tmod 40 ∧ i.tmod 40 ≤ 40 := by
  have h1 : i.tmod 40 < 40 := Int.tmod_lt_of_pos i (by decide)
  have h2 : -40 < i.tmod 40 := Int.lt_tmod_of_pos i (by decide)
  exact ⟨(i.tmod 40 + 40) % 40, by omega, by omega, rfl, by omega, by omega⟩

set_option maxHeartbeats 4000000 in
set_option maxRecDepth 100000 in
theorem windows_walk (nx room0 less0 : Int) (w : World) (hn : 0 ≤ nx ∧ nx < 4294967296) :
    Calls Try.prog 7 #[.int .u32 nx, .int .i64 room0, .int .i64 less0] w fun e w' => e = .returned (.bool true) ∧ Below w.heap.size w w' := by
  obtain ⟨hn0, hn1⟩ := hn
  obtain ⟨room, hr0, hr1, hrm, hrt1, hrt2⟩ := idx_40 room0
  obtain ⟨less, hl0, hl1, hle, hlt1, hlt2⟩ := idx_40 less0
  go_enter Try.func7, Try.ntmps7
  go_wp2_with fail
  refine (stands_any _).mono ?_
  rintro e w1 ⟨rfl, hb1⟩
  go_wp2_with fail
  refine (new_any nx room _ hn0 hn1).mono ?_
  rintro e w2 ⟨rfl, hw, hb2, hsz⟩
  have hB : Below w.heap.size w w2 := hb1.trans (hb2.mono hb1.size)
  have hwb1 : w.heap.size ≤ w1.heap.size + 1 := by have := hb1.size; omega
  have hwb0 : w.heap.size ≤ w1.heap.size := hb1.size
  have hfr : fitR room = room := by unfold fitR; omega
  rw [hfr] at hw
  have hsp : Span (fun _ => false) nx 45 room := fun n h0 h1 => by
    have : ¬ (45 ≤ (n - nx) % 4294967296 ∧ (n - nx) % 4294967296 < room) := by omega
    simp [this]
  clear hb1 hb2 hsz hfr
  generalize w1.heap.size + 1 = wb at *
  generalize w1.heap.size = mb at *
  go_wp2
  go_loopw [8, 24] (fun c i wr => ∃ (k : Int) (S : Int → Bool), 0 ≤ k ∧ k ≤ 45 ∧ i = .int .u32 k ∧ c = .int .i64 (max 0 (k + room - 45)) ∧ IsWin wr wb mb nx room S ∧ Span S nx (45 - k) room ∧ Below w.heap.size w wr) (fun _ i _ => 45 - (intOf i).toNat)
  case atStart => exact ⟨0, _, by omega, by omega, rfl, by rw [show max 0 (0 + room - 45) = 0 by omega], hw, hsp, hB⟩
  case round =>
    clear hw hsp hB
    obtain ⟨k, S, hk0, hk1, rfl, rfl, hwr, hsr, hBr⟩ := hrel
    by_cases hlt : k < 45
    · have ex : ((nx + 44) % 4294967296 - k) % 4294967296 = (nx + 44 - k) % 4294967296 := by omega
      have hd : ((nx + 44 - k) % 4294967296 - nx) % 4294967296 = 44 - k := by omega
      have hx0 : 0 ≤ (nx + 44 - k) % 4294967296 := by omega
      have hx1 : (nx + 44 - k) % 4294967296 < 4294967296 := by omega
      have hcome : comeB nx room S ((nx + 44 - k) % 4294967296) = decide (44 - k < room) := by
        rw [comeB_eq hn0 hn1 hr0 (by omega), hsr _ hx0 hx1, hd]
        have : ¬ (45 - k ≤ 44 - k ∧ 44 - k < room) := by omega
        simp [this]
      have hcnt1 : 0 ≤ max 0 (k + room - 45) := by omega
      have hcnt2 : max 0 (k + room - 45) ≤ 45 := by omega
      have hspan' : ∀ b : Bool, decide (44 - k < room) = b → Span (bif b then addS S ((nx + 44 - k) % 4294967296) else S) nx (45 - (k + 1)) room := by
        intro b hb n h0 h1
        have := hsr n h0 h1
        cases b with
        | true =>
          have hb' : 44 - k < room := by simpa using hb
          show (n == (nx + 44 - k) % 4294967296 || S n) = _
          rw [this, Bool.eq_iff_iff]
          simp only [Bool.or_eq_true, beq_iff_eq, decide_eq_true_eq]
          omega
        | false =>
          have hb' : ¬ 44 - k < room := by simpa using hb
          show S n = _
          rw [this, Bool.eq_iff_iff]
          simp only [decide_eq_true_eq]
          omega
      have HSP := Lib.hid hspan'
      have HC := Lib.hid hcome
      clear hspan' hcome hsr hd
      by_cases hc : 44 - k < room
      · have hcb : decide (44 - k < room) = true := by simp [hc]
        have hmx : max 0 (k + room - 45) = k + room - 45 := by omega
        have hmx' : max 0 (k + 1 + room - 45) = k + room - 45 + 1 := by omega
        have HM := Lib.hid hmx'
        clear hmx'
        rw [hcb] at HC
        rw [hmx] at hcnt1 hcnt2 ⊢
        clear hmx hcb
        go_wp2_with fail
        refine (come_is hwr _ true hx0 hx1 HC.out).mono ?_
        rintro e w5 ⟨rfl, hw5, hb5⟩
        have hB5 := hb5.step hBr hwb1 hwb0
        go_wp2
        go_roundw
        case rel => exact ⟨k + 1, _, by omega, by omega, rfl, by rw [HM.out], hw5, HSP.out true (by simp [hc]), hB5⟩
        case measure => simp [intOf]; omega
      · have hcb : decide (44 - k < room) = false := by simp [hc]
        have hmx : max 0 (k + room - 45) = 0 := by omega
        have hmx' : max 0 (k + 1 + room - 45) = 0 := by omega
        have HM := Lib.hid hmx'
        rw [hcb] at HC
        rw [hmx] at hcnt1 hcnt2 ⊢
        clear hmx hcb hmx'
        go_wp2_with fail
        refine (come_is hwr _ false hx0 hx1 HC.out).mono ?_
        rintro e w5 ⟨rfl, hw5, hb5⟩
        have hB5 := hb5.step hBr hwb1 hwb0
        go_wp2
        go_roundw
        case rel => exact ⟨k + 1, _, by omega, by omega, rfl, by rw [HM.out], hw5, HSP.out false (by simp [hc]), hB5⟩
        case measure => simp [intOf]; omega
    · obtain rfl : k = 45 := by omega
      rw [show max 0 (45 + room - 45) = room by omega]
      go_wp2_with fail
      have hself : (room != room) = false := by simp
      have hfl : fitR less = less := by unfold fitR; omega
      refine (resize_any hwr less).mono ?_
      rintro e w6 ⟨rfl, hw6, hb6⟩
      rw [hfl] at hw6
      have hB6 := hb6.step hBr hwb1 hwb0
      clear hfl hwr hBr
      have hsr0 : Span S nx 0 room := by simpa using hsr
      clear hsr
      by_cases hpos : 0 < room
      · have hpd : decide (0 < room) = true := by simp [hpos]
        have hs0 : S nx = true := by rw [hsr0 nx hn0 hn1, decide_eq_true_eq]; omega
        have hcm : comeB nx less S nx = false := by rw [comeB_eq hn0 hn1 hl0 (by omega), hs0]; simp
        clear hs0
        go_wp2_with fail
        refine (come_is hw6 nx false hn0 hn1 hcm).mono ?_
        rintro e w7 ⟨rfl, hw7', hb7⟩
        have hw7 : IsWin w7 wb mb nx less S := hw7'
        have hB7 := hb7.step hB6 hwb1 hwb0
        clear hcm hw7' hw6 hB6
        have hnx0 : nx = (nx + 0) % 4294967296 := by omega
        have hw8 : ∃ x, IsWin _ wb mb x less S ∧ x = (nx + 0) % 4294967296 := ⟨nx, hw7, hnx0⟩
        obtain ⟨x8, hw8, hx8⟩ := hw8
        have HX8 := Lib.hid hx8
        clear hnx0 hx8 hw7
        go_wp2
        go_loopw [52] (fun i wr => ∃ (k : Int) (S : Int → Bool), 0 ≤ k ∧ k ≤ room ∧ i = .int .i64 k ∧ IsWin wr wb mb ((nx + k) % 4294967296) less S ∧ Span S nx k room ∧ Below w.heap.size w wr) (fun i _ => (room - intOf i).toNat)
        case atStart => exact ⟨0, S, by omega, hr0, rfl, by rw [← HX8.out]; exact hw8, hsr0, hB7⟩
        case round =>
          clear hw8 HX8 hB7 hsr0
          obtain ⟨k, T, hk0, hk1, rfl, hwr, hsr, hBr⟩ := hrel
          have hx0 : 0 ≤ (nx + k) % 4294967296 := by omega
          have hx1 : (nx + k) % 4294967296 < 4294967296 := by omega
          by_cases hlt : k < room
          · have hT : T ((nx + k) % 4294967296) = true := by rw [hsr _ hx0 hx1, decide_eq_true_eq]; omega
            have hspan : Span (delS T ((nx + k) % 4294967296)) nx (k + 1) room := by
              intro n h0 h1
              have := hsr n h0 h1
              show (n != (nx + k) % 4294967296 && T n) = _
              rw [this, Bool.eq_iff_iff]
              simp only [Bool.and_eq_true, bne_iff_ne, decide_eq_true_eq]
              omega
            have HT := Lib.hid hT
            have he : ((nx + k) % 4294967296 + 1) % 4294967296 = (nx + (k + 1)) % 4294967296 := by omega
            have HE := Lib.hid he
            clear hT he hsr
            go_wp2_with fail
            refine (turn_is hwr true HT.out).mono ?_
            rintro e w9 ⟨rfl, hw9', hb9⟩
            have hw9 : IsWin w9 wb mb (((nx + k) % 4294967296 + 1) % 4294967296) less (delS T ((nx + k) % 4294967296)) := hw9'
            have hc0 := hw9.c0
            have hB9 := hb9.step hBr hwb1 hwb0
            go_wp2
            go_roundw
            case rel => exact ⟨k + 1, _, by omega, by omega, rfl, by rw [← HE.out]; exact hw9, hspan, hB9⟩
            case measure => simp [intOf]; omega
          · obtain rfl : k = room := by omega
            have hT : T ((nx + k) % 4294967296) = false := by rw [hsr _ hx0 hx1, decide_eq_false_iff_not]; omega
            have hcm : comeB ((nx + k) % 4294967296) less T ((nx + k) % 4294967296) = decide (0 < less) := by
              rw [comeB_eq hx0 hx1 hl0 (by omega), hT, show ((nx + k) % 4294967296 - (nx + k) % 4294967296) % 4294967296 = 0 by omega]
              simp
            have HT := Lib.hid hT
            have HC := Lib.hid hcm
            clear hT hcm hsr
            go_wp2_with fail
            refine (turn_is hwr false HT.out).mono ?_
            rintro e w9 ⟨rfl, hw9', hb9⟩
            have hw9 : IsWin w9 wb mb ((nx + k) % 4294967296) less T := hw9'
            have hc0 := hw9.c0
            have hB9 := hb9.step hBr hwb1 hwb0
            generalize hq : decide (0 < less) = q at *
            have hqq : (q == q) = true := by simp
            clear hw9'
            go_wp2_with fail
            refine (come_is hw9 _ q hx0 hx1 HC.out).mono ?_
            rintro e w10 ⟨rfl, hw10, hb10⟩
            go_wp2
            go_ret
            exact ⟨rfl, hb10.step hB9 hwb1 hwb0⟩
      · have hpd : decide (0 < room) = false := by simp [hpos]
        have hw7 := hw6
        have hB7 := hB6
        clear hw6 hB6
        have hnx0 : nx = (nx + 0) % 4294967296 := by omega
        have hw8 : ∃ x, IsWin _ wb mb x less S ∧ x = (nx + 0) % 4294967296 := ⟨nx, hw7, hnx0⟩
        obtain ⟨x8, hw8, hx8⟩ := hw8
        have HX8 := Lib.hid hx8
        clear hnx0 hx8 hw7
        go_wp2
        go_loopw [52] (fun i wr => ∃ (k : Int) (S : Int → Bool), 0 ≤ k ∧ k ≤ room ∧ i = .int .i64 k ∧ IsWin wr wb mb ((nx + k) % 4294967296) less S ∧ Span S nx k room ∧ Below w.heap.size w wr) (fun i _ => (room - intOf i).toNat)
        case atStart => exact ⟨0, S, by omega, hr0, rfl, by rw [← HX8.out]; exact hw8, hsr0, hB7⟩
        case round =>
          clear hw8 HX8 hB7 hsr0
          obtain ⟨k, T, hk0, hk1, rfl, hwr, hsr, hBr⟩ := hrel
          have hx0 : 0 ≤ (nx + k) % 4294967296 := by omega
          have hx1 : (nx + k) % 4294967296 < 4294967296 := by omega
          by_cases hlt : k < room
          · exfalso; omega
          · obtain rfl : k = room := by omega
            have hT : T ((nx + k) % 4294967296) = false := by rw [hsr _ hx0 hx1, decide_eq_false_iff_not]; omega
            have hcm : comeB ((nx + k) % 4294967296) less T ((nx + k) % 4294967296) = decide (0 < less) := by
              rw [comeB_eq hx0 hx1 hl0 (by omega), hT, show ((nx + k) % 4294967296 - (nx + k) % 4294967296) % 4294967296 = 0 by omega]
              simp
            have HT := Lib.hid hT
            have HC := Lib.hid hcm
            clear hT hcm hsr
            go_wp2_with fail
            refine (turn_is hwr false HT.out).mono ?_
            rintro e w9 ⟨rfl, hw9', hb9⟩
            have hw9 : IsWin w9 wb mb ((nx + k) % 4294967296) less T := hw9'
            have hc0 := hw9.c0
            have hB9 := hb9.step hBr hwb1 hwb0
            generalize hq : decide (0 < less) = q at *
            have hqq : (q == q) = true := by simp
            clear hw9'
            go_wp2_with fail
            refine (come_is hw9 _ q hx0 hx1 HC.out).mono ?_
            rintro e w10 ⟨rfl, hw10, hb10⟩
            go_wp2
            go_ret
            exact ⟨rfl, hb10.step hB9 hwb1 hwb0⟩

theorem serialWindows_law (v0 v1 v2 : Value) (D0 D1 D2 : D) (W : World) (r0 : RdV Try.prog W 22 v0 D0) (r1 : RdV Try.prog W 3 v1 D1) (r2 : RdV Try.prog W 3 v2 D2) :
    Calls Try.prog 7 #[v0, v1, v2] W fun e w' => e = .returned (.bool true) ∧ Below W.heap.size W w' := by
  obtain ⟨a, rfl, _, ha⟩ := r0.int Try.underlying22
  obtain ⟨b, rfl, _, _⟩ := r1.int Try.underlying3
  obtain ⟨n, rfl, _, _⟩ := r2.int Try.underlying3
  exact windows_walk a b n W (u32_bd ha)

end Go.Proofs.Ytokogbkldgeeeaa
