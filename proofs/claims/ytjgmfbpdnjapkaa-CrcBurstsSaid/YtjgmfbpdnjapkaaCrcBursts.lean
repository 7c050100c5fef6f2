/-
  CRC: the law CrcBursts.
-/
import Derived.Test.YtjgmfbpdnjapkaaCrcLawFits
import Derived.Test.YtjgmfbpdnjapkaaCrcBurstPlain
namespace Go.Proofs.Ytjgmfbpdnjapkaa
set_option linter.unusedVariables false
set_option linter.unusedSimpArgs false
open Go.RowKit
attribute [local go_sem ↓] Go.wp_at_zero Go.wp_at_succ

theorem idx_any (i : Int) (n : Nat) (hn : 0 < n) : ∃ j : Nat, j < n ∧ (i.tmod n + n) % n = (j : Int) ∧ -(n : Int) ≤ i.tmod n ∧ i.tmod n ≤ n := by
  have h1 : i.tmod n < n := Int.tmod_lt_of_pos i (by omega)
  have h2 : -(n : Int) < i.tmod n := Int.lt_tmod_of_pos i (by omega)
  have h3 : 0 ≤ (i.tmod n + n) % n := Int.emod_nonneg _ (by omega)
  have h4 : (i.tmod n + n) % n < n := Int.emod_lt_of_pos _ (by omega)
  exact ⟨((i.tmod n + n) % n).toNat, by omega, by omega, by omega, by omega⟩

theorem isBytes_cell {w : World} {g : Nat} {L : List Nat} (h : IsBytes w (some ⟨g, 0, none⟩) L) (p : Nat) (hp : p < L.length) : w.cell? ⟨g, p, none⟩ = some (.int .u8 ((L.getD p 0 : Nat) : Int)) := by
  obtain ⟨b, off, he, hc⟩ := h.2.resolve_left (by rintro rfl; simp at hp)
  cases he
  have := hc p hp
  rwa [Nat.zero_add] at this
theorem isBytes_set {w : World} {g : Nat} {L : List Nat} (h : IsBytes w (some ⟨g, 0, none⟩) L) (p v : Nat) (hp : p < L.length) (hv : v < 256) : IsBytes (w.setCell ⟨g, p, none⟩ (.int .u8 (v : Int))) (some ⟨g, 0, none⟩) (L.set p v) := by
  refine ⟨?_, .inr ⟨g, 0, rfl, fun i hi => ?_⟩⟩
  · intro c hc
    rcases List.mem_or_eq_of_mem_set hc with hc | rfl
    · exact h.1 c hc
    · exact hv
  · simp only [List.length_set] at hi
    rw [Nat.zero_add]
    by_cases hip : p = i
    · subst hip
      rw [World.cell?_setCell_same w _ _ (isBytes_cell h p hp)]
      simp [List.getD, hp]
    · rw [World.cell?_setCell_other _ _ _ _ (by intro he; injection he with _ he; exact hip he)]
      rw [isBytes_cell h i hi]
      simp [List.getD, List.getElem?_set_ne hip]

set_option maxHeartbeats 4000000 in
set_option maxRecDepth 100000 in
theorem crcBursts_walk (a : Option Addr) (l : List Nat) (cap : Nat) (at_ : Int) (burst : Nat) (w : World) (hl : IsBytes w a l) (hl2 : l.length ≤ 2000) (hc0 : a = none → cap = 0)
    (hat1 : -9223372036854775808 ≤ at_) (hat2 : at_ ≤ 9223372036854775807) (hbu : burst < 4294967296) (hb0 : burst ≠ 0) :
    Calls Try.prog 7 #[.slice a l.length cap, .int .i64 at_, .int .u32 burst] w fun e w' => e = .returned (.bool true) ∧ Below w.heap.size w w' := by
  have hz4 : ∀ w, (zeroValue 36).run Try.prog w = .ok (.agg #[.int .u8 0, .int .u8 0, .int .u8 0, .int .u8 0]) w := fun _ => by kernel_rfl
  have hmx : l.length ≤ maxLen := by unfold maxLen; omega
  have hbb : ((burst : Int) == 0) = false := by simp; omega
  have hd : decide ((2000 : Int) < (l.length : Int)) = false := by simp; omega
  have hd' : decide (2000 < l.length) = false := by simp; omega
  obtain ⟨pos, hpos, hposI, hpos1, hpos2⟩ := idx_any at_ (8 * (l.length + 4)) (by omega)
  rw [show ((8 * (l.length + 4) : Nat) : Int) = 8 * ((l.length : Int) + 4) by omega] at hposI hpos1 hpos2
  go_enter Try.func7, Try.ntmps7
  go_wp2_with fail
  refine (stands_any _).mono ?_
  rintro e w1 ⟨rfl, hb1⟩
  go_wp2_with fail
  refine (sum_nil_below _ _ _ _ (hl.of_below hb1) hmx).mono ?_
  rintro e w2 ⟨rfl, hb2⟩
  go_wp2_with fail
  refine (bytes_vars _ (sumPlain_lt l) _).mono ?_
  rintro e w3 ⟨c0, c1, c2, c3, rfl, hfour, hb3⟩
  go_wp2
  have hfl := four_lt hfour.out
  have hB3 := hb1.trans ((hb2.mono hb1.size).trans (hb3.mono (Nat.le_trans hb1.size hb2.size)))
  have hsW : (w3.alloc (.cells #[.int .u8 c0, .int .u8 c1, .int .u8 c2, .int .u8 c3] 36)).heap[w3.heap.size]? = some (.cells #[.int .u8 c0, .int .u8 c1, .int .u8 c2, .int .u8 c3] 36) := heap_alloc_new w3 _
  have hBW : Below w.heap.size w (w3.alloc (.cells #[.int .u8 c0, .int .u8 c1, .int .u8 c2, .int .u8 c3] 36)) := hB3.alloc hB3.size _
  clear hb1 hb2 hb3 hB3
  generalize w3.alloc (.cells #[.int .u8 c0, .int .u8 c1, .int .u8 c2, .int .u8 c3] 36) = W at *
  generalize w3.heap.size = sb at *
  have hlW := hl.of_below hBW
  have hsb := block_four hsW hfl.1 hfl.2.1 hfl.2.2.1 hfl.2.2.2
  go_region_law (first
    | (refine step_app (by rfl) _ _ (by rfl) W.heap.size _ [] (by rfl) (Own.nil _ _) a cap l (by rfl) (by exact hlW) hc0 (by simp; omega) (by simp) ?_; intro v1 W1 hown1 hb1 _)
    | (refine step_app (by rfl) _ _ (by rfl) W.heap.size _ ([] ++ l) (by rfl) (by exact hown1) (some ⟨sb, 0, none⟩) 4 [c0, c1, c2, c3] (by rfl) (by exact hsb.of_below_drew hb1) (by simp) (by simp; omega) (by exact hb1.size) ?_; intro v2 W2 hown2 hb2 _))
  have hLs : (l ++ [c0, c1, c2, c3]).length = l.length + 4 := by simp
  rw [List.nil_append] at hown2
  have hbW2 : Below W.heap.size W W2 := (Below.refl _ W).drew.trans (hb1.trans hb2)
  obtain ⟨g, cap2, hv2, hcs2, hfz2, hgb, hgs, hlc2, hcm2⟩ := hown2.block (by simp)
  rw [hLs] at hv2 hlc2
  subst hv2
  have hBW2 := hBW.trans (hbW2.mono hBW.size)
  have hgw : w.heap.size ≤ g := Nat.le_trans hBW.size hgb
  clear hb1 hb2 hown1 hlW hsW hsb hbW2 hgb
  have hcl := hcs2.1
  have hrun : runPlain (l ++ [c0, c1, c2, c3]) = halves 4294967295 32 :=
    (fits_iff l [c0, c1, c2, c3] hl.1 (fun c hc => hcl c (List.mem_append_right _ hc)) rfl).1 hfour.out
  have HRUN := Lib.hid hrun
  clear hrun
  obtain ⟨C, hC⟩ : ∃ C, C = l ++ [c0, c1, c2, c3] := ⟨_, rfl⟩
  rw [← hC] at HRUN hcs2 hcl hLs
  have hbp : burstBits burst pos (8 * (l.length + 4)) 0 = 0 := rfl
  go_wp2
  go_loopw [10, 38] (fun tu iv wr => ∃ (i : Nat) (L : List Nat), i ≤ 32 ∧ iv = .int .i64 i ∧ tu = .bool (decide (burstBits burst pos (8 * (l.length + 4)) i ≠ 0)) ∧ L.length = l.length + 4 ∧ IsBytes wr (some ⟨g, 0, none⟩) L ∧ (∀ j, wr.frozen? ⟨g, j, none⟩ = false) ∧ num L = num C ^^^ burstBits burst pos (8 * (l.length + 4)) i * 2 ^ pos ∧ Below w.heap.size w wr) (fun _ i _ => 32 - (intOf i).toNat)
  case atStart => exact ⟨0, C, by omega, rfl, by rw [hbp]; rfl, hLs, hcs2, hfz2, by rw [hbp]; simp, hBW2⟩
  case round =>
    clear hcs2 hfz2 hBW2 hbp
    obtain ⟨i, L, hi, rfl, rfl, hLl, hLb, hLf, hLn, hBr⟩ := hrel
    by_cases hlt : i < 32
    · generalize htu : burstBits burst pos (8 * (l.length + 4)) i = B at *
      have hba := u32_and_1 (burst / 2 ^ i) (Nat.lt_of_le_of_lt (Nat.div_le_self _ _) hbu)
      rw [show ((burst / 2 ^ i : Nat) : Int) = (burst : Int) / 2 ^ i by simp] at hba
      by_cases hbit : burst / 2 ^ i % 2 = 1
      · rw [hbit] at hba
        have hba' : bits BinOp.and IntKind.u32 ((burst : Int) / 2 ^ i) 1 = 1 := hba
        clear hba
        by_cases hin : pos + i < 8 * (l.length + 4)
        · have hin' : decide ((pos : Int) + (i : Int) < 8 * ((l.length : Int) + 4)) = true := by simp; omega
          obtain ⟨p, q, hpq, hq8, hpL⟩ : ∃ p q, pos + i = 8 * p + q ∧ q < 8 ∧ p < L.length := ⟨(pos + i) / 8, (pos + i) % 8, by omega, by omega, by omega⟩
          have hdiv : ((pos : Int) + (i : Int)) / 8 = (p : Int) := by omega
          have hmod : ((pos : Int) + (i : Int)) % 8 = (q : Int) := by omega
          have HFL := Lib.hid (num_flip L p q hLb.1 hpL hq8)
          have HST := Lib.hid (isBytes_set hLb p (L.getD p 0 ^^^ 2 ^ q) hpL (Nat.xor_lt_two_pow (n := 8) (hLb.1 _ (by simp [List.getD, hpL])) (Nat.pow_lt_pow_right (by decide) hq8)))
          have hcell := isBytes_cell hLb p hpL
          have hfrz := hLf p
          have hb256 : L.getD p 0 < 256 := hLb.1 _ (by simp [List.getD, hpL])
          have hx0 := u8_xor_nat (L.getD p 0) (2 ^ q) hb256 (Nat.pow_lt_pow_right (n := 8) (by decide) hq8)
          have hpw : (2 : Int) ^ q % 256 = ((2 ^ q : Nat) : Int) := by
            have : 2 ^ q < 256 := Nat.pow_lt_pow_right (n := 8) (by decide) hq8
            rw [show (2 : Int) ^ q = ((2 ^ q : Nat) : Int) by simp]
            exact Int.emod_eq_of_lt (Int.natCast_nonneg _) (Int.ofNat_lt.2 this)
          have hx : bits BinOp.xor IntKind.u8 ((L.getD p 0 : Nat) : Int) ((2 : Int) ^ q % 256) = ((L.getD p 0 ^^^ 2 ^ q : Nat) : Int) := by rw [hpw]; exact hx0
          clear hx0 hpw
          generalize L.getD p 0 = c at *
          have hp0 : (0 : Int) ≤ (p : Int) := by omega
          have hp1 : (p : Int) < (l.length : Int) + 4 := by omega
          go_wp2
          go_region
          all_goals go_wp2
          go_roundw
          case rel => exact ⟨i + 1, L.set p (c ^^^ 2 ^ q), by omega, by go_num, by rw [decide_eq_true (burstBits_ne ⟨hbit, hin⟩)], by simp [hLl], HST.out, fun j => by rw [World.frozen?_drew, World.frozen?_setCell]; exact hLf j, by rw [HFL.out, hLn, burstBits_flip ⟨hbit, hin⟩, htu, mul_xor, ← Nat.pow_add, Nat.xor_assoc, show i + pos = 8 * p + q by omega], (hBr.setCell (by exact hgw) _).drew⟩
          case measure => simp [intOf]; omega
        · have hin' : decide ((pos : Int) + (i : Int) < 8 * ((l.length : Int) + 4)) = false := by simp; omega
          go_wp2
          go_roundw
          case rel => exact ⟨i + 1, L, by omega, by go_num, by rw [burstBits_keep (fun h => hin h.2), htu], hLl, hLb, hLf, by rw [burstBits_keep (fun h => hin h.2), htu, hLn], hBr⟩
          case measure => simp [intOf]; omega
      · have hbz : burst / 2 ^ i % 2 = 0 := by omega
        have hba' : bits BinOp.and IntKind.u32 ((burst : Int) / 2 ^ i) 1 = 0 := by rw [hba, hbz]; rfl
        clear hba
        go_wp2
        go_roundw
        case rel => exact ⟨i + 1, L, by omega, by go_num, by rw [burstBits_keep (fun h => hbit h.1), htu], hLl, hLb, hLf, by rw [burstBits_keep (fun h => hbit h.1), htu, hLn], hBr⟩
        case measure => simp [intOf]; omega
    · obtain rfl : i = 32 := by omega
      have hB32 := burstBits_lt burst pos (8 * (l.length + 4)) 32
      have hBn := burstBits_lt' burst pos (8 * (l.length + 4)) 32
      have hfit : fitsB L = !decide (burstBits burst pos (8 * (l.length + 4)) 32 ≠ 0) := by
        have h1 := fits_iff (L.take (L.length - 4)) (L.drop (L.length - 4)) (fun c hc => hLb.1 c (List.mem_of_mem_take hc)) (fun c hc => hLb.1 c (List.mem_of_mem_drop hc)) (by simp; omega)
        rw [List.take_append_drop] at h1
        have h2 := burst_law C L hcl hLb.1 (by omega) pos _ (by simpa using hB32) (by rw [hLs]; exact hBn) (by rw [hLs]; omega) hLn HRUN.out
        rw [Bool.eq_iff_iff]
        have h3 : fitsB L = true ↔ fourD (sumPlain (L.take (L.length - 4))) = L.drop (L.length - 4) := by unfold fitsB; exact beq_iff_eq
        rw [h3, h1, h2]
        simp
      have hL4 : L.length = l.length + 4 := hLl
      have hFC := fits_nil_any (some ⟨g, 0, none⟩) L (l.length + 4) cap2 wr hLb hLl (by omega) hlc2 hcm2
      rw [hfit] at hFC
      have HFC := Lib.hid hFC
      clear hFC hfit hB32 hBn
      generalize decide (burstBits burst pos (8 * (l.length + 4)) 32 ≠ 0) = tu at *
      have hself : ((!tu) == (!tu)) = true := by simp
      go_wp2_with fail
      refine HFC.out.mono ?_
      rintro e w9 ⟨rfl, hb9⟩
      go_wp2
      go_ret
      exact ⟨rfl, hBr.trans (hb9.mono hBr.size)⟩

set_option maxHeartbeats 1000000 in
/-- No burst, or too many bytes: nothing is asked. -/
theorem crcBursts_easy (a : Option Addr) (n cap : Nat) (at_ : Int) (burst : Nat) (w : World) (h : burst = 0 ∨ 2000 < n) :
    Calls Try.prog 7 #[.slice a n cap, .int .i64 at_, .int .u32 burst] w fun e w' => e = .returned (.bool true) ∧ Below w.heap.size w w' := by
  by_cases h0 : burst = 0
  · have hbb : ((burst : Int) == 0) = true := by simp; omega
    go_enter Try.func7, Try.ntmps7
    go_wp2_with fail
    refine (stands_any _).mono ?_
    rintro e w1 ⟨rfl, hb1⟩
    go_wp2
    go_ret
    exact ⟨rfl, hb1⟩
  · have hbb : ((burst : Int) == 0) = false := by simp; omega
    have hd : decide ((2000 : Int) < (n : Int)) = true := by simp; omega
    have hd' : decide (2000 < n) = true := by simp; omega
    go_enter Try.func7, Try.ntmps7
    go_wp2_with fail
    refine (stands_any _).mono ?_
    rintro e w1 ⟨rfl, hb1⟩
    go_wp2
    go_ret
    exact ⟨rfl, hb1⟩

theorem i64_bd {x : Int} (h : (Lit.int .i64 x).wf = true) : -9223372036854775808 ≤ x ∧ x ≤ 9223372036854775807 := by
  simp only [Lit.wf, IntKind.min, IntKind.max, IntKind.signed, IntKind.bits, Bool.and_eq_true] at h
  simp at h
  omega

theorem crcBursts_law (v0 v1 v2 : Value) (D0 D1 D2 : D) (W : World) (r0 : RdV Try.prog W 29 v0 D0) (r1 : RdV Try.prog W 3 v1 D1) (r2 : RdV Try.prog W 22 v2 D2) :
    Calls Try.prog 7 #[v0, v1, v2] W fun e w' => e = .returned (.bool true) ∧ Below W.heap.size W w' := by
  obtain ⟨a, len, cap, zs, rfl, _, hzl, hlc, hcm, hrc, hn, hz⟩ := r0.ints Try.underlying29 Try.underlying5 (by kernel_rfl)
  obtain ⟨at_, rfl, _, hat⟩ := r1.int Try.underlying3
  obtain ⟨bu, rfl, _, hbw⟩ := r2.int Try.underlying22
  obtain ⟨burst, rfl, hbu⟩ := nat_of_u32 hbw
  by_cases h : burst = 0 ∨ 2000 < len
  · exact crcBursts_easy a len cap at_ burst W h
  · obtain ⟨l, hll, hl, _⟩ := hz.bytes
    obtain rfl : len = l.length := by omega
    have hb := i64_bd hat
    exact crcBursts_walk a l cap at_ burst W hl (by omega) hn hb.1 hb.2 hbu (by omega)

end Go.Proofs.Ytjgmfbpdnjapkaa
