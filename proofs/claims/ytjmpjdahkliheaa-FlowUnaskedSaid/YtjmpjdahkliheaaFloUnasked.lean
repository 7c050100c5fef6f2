/-
  flow: the law FlowUnasked.
-/
import Derived.Test.YtjmpjdahkliheaaFloEnds
namespace Go.Proofs.Ytjmpjdahkliheaa
set_option linter.unusedVariables false
set_option linter.unusedSimpArgs false
open Go.RowKit

theorem ask_shut (s : FS) (burst need : Int) (h : okA s burst need = false) : askS s burst need = s ∧ askV s burst need = .tuple #[.int .u32 0, .agg #[.int .i64 0, .int .i64 0, .bool false], .bool false] := by
  simp [askS, askV, h]

theorem idx_any (i : Int) (F : Nat) (hF : 1 ≤ F) : ∃ j : Nat, j < F ∧ (i.tmod F + F) % (F : Int) = j ∧ (i.tmod F + F).tmod (F : Int) = j ∧ -(F : Int) ≤ i.tmod F ∧ i.tmod F ≤ F ∧ 0 ≤ i.tmod F + F := by
  have h1 : i.tmod F < F := Int.tmod_lt_of_pos i (by omega)
  have h2 : -(F : Int) < i.tmod F := Int.lt_tmod_of_pos i (by omega)
  have h3 := Int.emod_nonneg (i.tmod F + F) (show (F : Int) ≠ 0 by omega)
  have h4 := Int.emod_lt_of_pos (i.tmod F + F) (show (0 : Int) < F by omega)
  refine ⟨((i.tmod F + F) % (F : Int)).toNat, by omega, by omega, ?_, by omega, by omega, by omega⟩
  rw [Int.tmod_eq_emod_of_nonneg (by omega)]
  omega
theorem IsBytes.take {w : World} {a : Option Addr} {l : List Nat} (h : IsBytes w a l) (k : Nat) : IsBytes w a (l.take k) := by
  refine ⟨fun c hc => h.1 c (List.mem_of_mem_take hc), ?_⟩
  rcases h.2 with rfl | ⟨b, off, rfl, hc⟩
  · left; simp
  · refine .inr ⟨b, off, rfl, fun i hi => ?_⟩
    simp at hi
    rw [hc i (by omega)]
    congr 3
    have hik : i < k := by omega
    simp [List.getD, List.getElem?_take, hik]
theorem cells_blk {w : World} {b : Nat} {t : TypeId} {x0 x1 x2 x3 x4 x5 x6 x7 : Value} (h : IsBlk w b #[x0, x1, x2, x3, x4, x5, x6, x7] t) :
    w.cell? ⟨b, 0, none⟩ = some x0 ∧ w.cell? ⟨b, 1, none⟩ = some x1 ∧ w.cell? ⟨b, 2, none⟩ = some x2 ∧ w.cell? ⟨b, 3, none⟩ = some x3 ∧ w.cell? ⟨b, 4, none⟩ = some x4 ∧ w.cell? ⟨b, 5, none⟩ = some x5 ∧ w.cell? ⟨b, 6, none⟩ = some x6 ∧ w.cell? ⟨b, 7, none⟩ = some x7 :=
  ⟨h.cell 0 rfl, h.cell 1 rfl, h.cell 2 rfl, h.cell 3 rfl, h.cell 4 rfl, h.cell 5 rfl, h.cell 6 rfl, h.cell 7 rfl⟩

theorem one_come (d : List Nat) (p q : Nat) (turn : Int) (hd : p + q ≤ d.length) (hq : 1 ≤ q) :
    okC (midS d p q 0 0 turn) 0 (p : Int) ((d.drop p).take q).length true = true ∧ comeS (midS d p q 0 0 turn) 0 (p : Int) ((d.drop p).take q) true = ⟨d.take (p + q), -1, 0, turn, false⟩ := by
  have h := mid_come d p q 0 0 q turn true hd (by omega) (by omega) hq (by simp) (by omega)
  simp only [Nat.add_zero, Nat.zero_add, mid_end] at h
  simpa using h
theorem new_mid (first : Int) (n F wt : Nat) (d : List Nat) (hF : (F : Int) = min first (n : Int)) (hw : wt < F) : newS first n (d.take wt) false = midS d wt (F - wt) 0 0 0 := by
  have h1 : ¬ (0 = F - wt) := by omega
  have h2 : ((wt + (F - wt) : Nat) : Int) = min first (n : Int) := by omega
  simp only [newS, midS, h1, if_false, cond_false, Nat.add_zero, h2]
  rfl
theorem mid_open (d : List Nat) (p q : Nat) (turn burst need : Int) (hq : 1 ≤ q) : okA (midS d p q 0 0 turn) burst need = false ∧ doneB (midS d p q 0 0 turn) need = false := by
  have h1 : ¬ (0 = q) := by omega
  simp [okA, doneB, midS, h1]
  omega
theorem shut_end (d : List Nat) (turn burst : Int) (n : Nat) (hn : n = d.length) : okA ⟨d.take n, -1, 0, turn, false⟩ burst n = false := by
  subst hn
  simp [okA]

set_option maxHeartbeats 8000000 in
set_option maxRecDepth 100000 in
theorem unasked_walk (d0 d3 burst first : Int) (d1 d2 ready tog : Bool) (A : Option Addr) (n c : Nat) (dat : List Nat) (wi : Int) (w : World)
    (HN : Hid (n = dat.length)) (hd : IsBytes w A dat) (hc0 : A = none → c = 0) (hnc : n ≤ c) (hcm : c ≤ maxLen) (HBL : Hid (∀ x, A = some x → dat ≠ [] → x.block < w.heap.size)) (hw0 : -9223372036854775808 ≤ wi) (hw1 : wi < 9223372036854775808) :
    Calls Try.prog 7 #[.agg #[.int .i64 d0, .bool d1, .bool d2, .int .i64 d3, .int .i64 burst, .int .i64 first, .bool ready, .bool tog], .slice A n c, .int .i64 wi] w fun e w' => e = .returned (.bool true) ∧ Below w.heap.size w w' := by
  unfold maxLen at hcm
  go_enter Try.func7, Try.ntmps7
  go_wp2_with fail
  have hW := Below.alloc (Below.refl w.heap.size w) (Nat.le_refl _) (.cells #[.int .i64 d0, .bool d1, .bool d2, .int .i64 d3, .int .i64 burst, .int .i64 first, .bool ready, .bool tog] 32)
  have hP0 := IsBlk.new w #[.int .i64 d0, .bool d1, .bool d2, .int .i64 d3, .int .i64 burst, .int .i64 first, .bool ready, .bool tog] 32
  refine (stands_any _).mono ?_
  rintro e w1 ⟨rfl, hb1⟩
  have hP := hP0.below hb1 (by simp)
  have hB1 := hW.trans (hb1.mono (by simp))
  have HD := Lib.hid hd
  clear hP0 hW hb1 hd
  have p0 := hP.cell 0 rfl
  have p1 := hP.cell 1 rfl
  have p2 := hP.cell 2 rfl
  have p3 := hP.cell 3 rfl
  have p4 := hP.cell 4 rfl
  have p5 := hP.cell 5 rfl
  have p6 := hP.cell 6 rfl
  have p7 := hP.cell 7 rfl
  have hfz := hP.fz
  have hP2 := (hP.set 6 (.bool false)).set 7 (.bool true)
  have HP := Lib.hid hP2
  have HB1 := Lib.hid hB1
  clear hP hP2 hB1
  go_upto_region 4 with fail
  have hB2 : Below w.heap.size w ((w1.setCell ⟨w.heap.size, 6, none⟩ (.bool false)).setCell ⟨w.heap.size, 7, none⟩ (.bool true)) := (HB1.out.setCell (Nat.le_refl _) _).setCell (Nat.le_refl _) _
  have HB := Lib.hid hB2
  have hlt2 : w.heap.size < ((w1.setCell ⟨w.heap.size, 6, none⟩ (.bool false)).setCell ⟨w.heap.size, 7, none⟩ (.bool true)).heap.size := HP.out.lt
  clear hB2 p0 p1 p2 p3 p4 p5 p6 p7 hfz HB1
  generalize (w1.setCell ⟨w.heap.size, 6, none⟩ (.bool false)).setCell ⟨w.heap.size, 7, none⟩ (.bool true) = W2 at *
  obtain ⟨p0, p1, p2, p3, p4, p5, p6, p7⟩ := cells_blk HP.out
  by_cases hn2 : 2000 < n
  · go_wp2
    go_ret
    exact ⟨rfl, HB.out⟩
  by_cases hf2 : first < 2
  · go_wp2
    go_ret
    exact ⟨rfl, HB.out⟩
  by_cases hbu : burst < 1
  · go_wp2
    go_ret
    exact ⟨rfl, HB.out⟩
  by_cases hnn : n < 2
  · go_wp2
    go_ret
    exact ⟨rfl, HB.out⟩
  obtain ⟨b, off, rfl, hbd⟩ := HD.out.2.resolve_left (by intro e; have h1 := HN.out; rw [e] at h1; simp at h1; omega)
  clear hbd
  obtain ⟨F, hF⟩ : ∃ F : Nat, (F : Int) = min first (n : Int) := ⟨(min first (n : Int)).toNat, by omega⟩
  have hF2 : 2 ≤ F := by omega
  have hFn : F ≤ n := by omega
  have HFF := Lib.hid hF
  obtain ⟨wt, hwt, hw2, hw3, hw4, hw5, hw6⟩ := idx_any wi F (by omega)
  have hF0 : ¬ ((F : Int) = 0) := by omega
  have hFif : (if (n : Int) < first then (n : Int) else first) = (F : Int) := by split <;> omega
  clear hF
  go_upto_region 8 with fail
  have hok : okN first n false true (dat.take wt).length false = true := by
    have h1 := HN.out
    have h2 := HFF.out
    have h3 : (dat.take wt).length = wt := by simp; omega
    rw [okN_iff, h3]
    exact ⟨by omega, by omega, .inr rfl, by omega, .inr ⟨rfl, by omega, by omega⟩⟩
  have hlw : wt = (dat.take wt).length := by have h1 := HN.out; simp; omega
  have HOK := Lib.hid hok
  have HLW := Lib.hid hlw
  have s1 : (0 : Int) ≤ (wt : Int) := by omega
  have s2 : (wt : Int) ≤ (c : Int) := by omega
  have HW23 := Lib.hid (And.intro hw2 hw3)
  clear hok hlw hw2 hw3 hw4 hw5 hw6 hFif
  go_region_held3 (fun w' => w'.cell? ⟨w.heap.size, 0, none⟩ = some (.int .i64 d0) ∧ w'.cell? ⟨w.heap.size, 1, none⟩ = some (.bool d1) ∧ w'.cell? ⟨w.heap.size, 2, none⟩ = some (.bool d2) ∧ w'.cell? ⟨w.heap.size, 3, none⟩ = some (.int .i64 d3) ∧ w'.cell? ⟨w.heap.size, 4, none⟩ = some (.int .i64 burst) ∧ w'.cell? ⟨w.heap.size, 5, none⟩ = some (.int .i64 first) ∧ w'.cell? ⟨w.heap.size, 6, none⟩ = some (.bool false) ∧ w'.cell? ⟨w.heap.size, 7, none⟩ = some (.bool true)) (go_keep) (first
    | (go_at_call 12; (with_reducible refine (new_any d0 d3 burst first n d1 d2 false true false (some ⟨b, off, none⟩) wt c (dat.take wt) _ HLW.out ((HD.out.of_below HB.out.drew).take wt) (by simp) (by omega) (by omega) true HOK.out).mono ?_); rintro e w3 ⟨v, rfl, hb3, hf3⟩; replace hf3 := hf3 rfl; have hP3 := (HP.out.drew).below hb3 HP.out.lt; obtain ⟨p0, p1, p2, p3, p4, p5, p6, p7⟩ := cells_blk hP3; have hB3 := HB.out.drew.trans (hb3.mono HB.out.drew.size); have HB3 := Lib.hid hB3; have HF3 := Lib.hid (hf3.mono HB.out.drew.size); clear hP3 hB3 hf3 hb3))
  have hnm := new_mid first n F wt dat HFF.out (by omega)
  have h3 := HF3.out
  rw [hnm] at h3
  have hmo := mid_open dat wt (F - wt) 0 burst n (by omega)
  have hoc := one_come dat wt (F - wt) 0 (by have := HN.out; omega) (by omega)
  rw [show wt + (F - wt) = F by omega] at hoc
  have H3 := Lib.hid h3
  have HMO := Lib.hid hmo
  have HOC := Lib.hid hoc
  clear hnm h3 hmo hoc HF3 p0 p1 p2 p3 p4 p5 p6 p7 HOK HLW HP
  obtain ⟨fb, hfb⟩ : ∃ fb, fb = W2.drew.heap.size + 1 := ⟨_, rfl⟩
  rw [← hfb] at H3
  have hfb' : W2.heap.size + 1 = fb := hfb.symm
  rw [hfb']
  clear hfb hfb'
  have hsh := ask_shut (midS dat wt (F - wt) 0 0 0) burst n HMO.out.1
  have HSH := Lib.hid hsh
  clear hsh
  go_wp2_with fail
  refine (ask_one H3.out (Since.refl _ _ _) _ _ _ _ _ HSH.out.1 HSH.out.2).mono ?_
  rintro e w4 ⟨rfl, h4, hS4⟩
  have hB4 := since_below HB3.out H3.out hS4
  have h4a := h4.below ((Below.refl _ _).alloc (Nat.le_refl _) (.cells #[.int .i64 0, .int .i64 0, .bool false] 28))
  have hB4a := hB4.alloc hB4.size (.cells #[.int .i64 0, .int .i64 0, .bool false] 28)
  have H4 := Lib.hid h4a
  have HB4 := Lib.hid hB4a
  clear h4 hS4 hB4 h4a hB4a
  go_wp2_with fail
  generalize w4.alloc (.cells #[.int .i64 0, .int .i64 0, .bool false] 28) = w4a at *
  refine (done_one H4.out (Since.refl _ _ _) false HMO.out.2).mono ?_
  rintro e w5 ⟨rfl, h5, hS5⟩
  have hB5 := since_below HB4.out H4.out hS5
  have H5 := Lib.hid h5
  have HB5 := Lib.hid hB5
  clear h5 hS5 hB5
  have hl1 : (midS dat wt (F - wt) 0 0 0).data.length ≤ 100000 := by simp [midS]; omega
  have hl2 : ((dat.drop wt).take (F - wt)).length ≤ 100000 := by simp; omega
  have hl3 : F - wt = ((dat.drop wt).take (F - wt)).length := by have := HN.out; simp; omega
  have HL1 := Lib.hid hl1
  have HL2 := Lib.hid hl2
  have HL3 := Lib.hid hl3
  have s4 : (wt : Int) ≤ (F : Int) := by omega
  have s5 : (F : Int) ≤ (c : Int) := by omega
  have s9 : ¬ (c = wt) := by omega
  clear hl1 hl2 hl3
  go_wp2_with fail
  refine (come_one H5.out (Since.refl _ _ _) 0 (wt : Int) (some ⟨b, off + wt, none⟩) ((dat.drop wt).take (F - wt)) (F - wt) (c - wt) true _ true HL3.out ((HD.out.sub wt (F - wt) (by have := HN.out; omega)).of_below HB5.out) (by simp) HL1.out HL2.out HOC.out.2 HOC.out.1).mono ?_
  rintro e w6 ⟨v6, rfl, h6, hS6⟩
  have hB6 := since_below HB5.out H5.out hS6
  have HF := Lib.hid h6
  have HB6 := Lib.hid hB6
  clear h6 hS6 hB6 H3 H4 H5 HB3 HB4 HB5 HL1 HL2 HL3 HSH HMO HOC s1 s2 s4 s5 s9 HB
  go_wp2
  go_loopw [85] (fun i wr => ∃ (k p : Nat) (v : Value), k ≤ n ∧ i = .int .i64 k ∧ p ≤ n ∧ (F + k ≤ p ∨ p = n) ∧ Hid (IsFlow wr w.heap.size fb v burst n ⟨dat.take p, -1, 0, (k : Int), false⟩) ∧ Hid (Below w.heap.size w wr)) (fun i _ => n - (intOf i).toNat)
  case atStart => exact ⟨0, F, v6, by omega, rfl, hFn, .inl (by omega), HF.out, HB6.out⟩
  case round =>
    clear HF HB6
    obtain ⟨k, p, v, hk, rfl, hp, hkp, HF, HB⟩ := hrel
    by_cases hlt : k < n
    · by_cases hpn : p = n
      · have hsh := ask_shut ⟨dat.take p, -1, 0, (k : Int), false⟩ burst n (by rw [hpn]; exact shut_end dat k burst n HN.out)
        have HSH := Lib.hid hsh
        clear hsh
        have hpn' : dat.take p = dat := by rw [hpn, HN.out]; exact List.take_length
        have hdn : doneB ⟨dat.take p, -1, 0, (k : Int), false⟩ n = true := by have h1 := HN.out; rw [hpn']; simp [doneB]; omega
        have hl : (dat.take p).length ≤ 100000 := by simp; omega
        have HDN := Lib.hid hdn
        have HL := Lib.hid hl
        have HPN := Lib.hid hpn'
        clear hdn hl hpn'
        go_wp2_with fail
        refine (ask_one HF.out (Since.refl _ _ _) _ _ _ _ _ HSH.out.1 HSH.out.2).mono ?_
        rintro e w4 ⟨rfl, h4, hS4⟩
        have hB4 := since_below HB.out HF.out hS4
        have h4a := h4.below ((Below.refl _ _).alloc (Nat.le_refl _) (.cells #[.int .i64 0, .int .i64 0, .bool false] 28))
        have hB4a := hB4.alloc hB4.size (.cells #[.int .i64 0, .int .i64 0, .bool false] 28)
        have cA := conv_bytes (cap := c) (HD.out.of_below hB4a.drew) HN.out
        have H4 := Lib.hid h4a
        have HB4 := Lib.hid hB4a
        clear h4 hS4 hB4 h4a hB4a HSH HF HB
        go_wp2
        generalize w4.alloc (.cells #[.int .i64 0, .int .i64 0, .bool false] 28) = w4a at *
        go_region_law (first
          | (go_simp; go_at_call 18; (with_reducible refine (done_one H4.out.drew ((Since.refl _ _ _).drew) true HDN.out).mono ?_); rintro e w5 ⟨rfl, h5, hS5⟩; have hB5 := since_below HB4.out H4.out hS5; have cA := conv_bytes (cap := c) (HD.out.of_below hB5) HN.out; have H5 := Lib.hid h5; have HS5 := Lib.hid hS5; have HB5 := Lib.hid hB5; clear h5 hS5 hB5)
          | (go_simp; go_at_call 20; (with_reducible refine (data_one H5.out HS5.out HL.out).mono ?_); rintro e w6 ⟨a6, n6, c6, rfl, hn6, cv6, h6, hS6⟩; rw [HPN.out] at cv6; have hB6 := since_below HB4.out H4.out hS6; have cA := conv_bytes (cap := c) (HD.out.of_below hB6) HN.out; have HB6 := Lib.hid hB6; clear h6 hS6 hB6))
        all_goals
          go_wp2
          go_ret
          exact ⟨rfl, HB6.out⟩
      · obtain ⟨q, hq⟩ : ∃ q : Nat, (q : Int) = min burst ((dat.length : Int) - p) := ⟨(min burst ((dat.length : Int) - p)).toNat, by have h1 := HN.out; omega⟩
        have hst := mid_start dat p q k burst (by omega) (by have h1 := HN.out; omega) hq _ rfl
        have hq1 : 1 ≤ q := by have h1 := HN.out; omega
        have hpq : p + q ≤ n := by have h1 := HN.out; omega
        have hk1 : ((k : Int) + 1) % 4294967296 = ((k + 1 : Nat) : Int) := by omega
        rw [← HN.out, hk1] at hst
        have hoc := one_come dat p q ((k + 1 : Nat) : Int) (by have := HN.out; omega) hq1
        have HST := Lib.hid hst
        have HOC := Lib.hid hoc
        clear hst hq hoc hk1
        go_wp2_with fail
        refine (ask_one HF.out (Since.refl _ _ _) _ _ _ _ _ HST.out.1 HST.out.2).mono ?_
        rintro e w4 ⟨rfl, h4, hS4⟩
        have hB4 := since_below HB.out HF.out hS4
        have h4a := h4.below ((Below.refl _ _).alloc (Nat.le_refl _) (.cells #[.int .i64 p, .int .i64 q, .bool false] 28))
        have hB4a := hB4.alloc hB4.size (.cells #[.int .i64 p, .int .i64 q, .bool false] 28)
        have hPb := IsBlk.new w4 #[.int .i64 p, .int .i64 q, .bool false] 28
        have e0 := hPb.cell 0 rfl
        have e1 := hPb.cell 1 rfl
        have hkl : w4.heap.size < (w4.alloc (.cells #[.int .i64 p, .int .i64 q, .bool false] 28)).heap.size := by simp
        have hkf : w4.heap.size ≠ fb := by have := h4.lt; omega
        have hkv : v.ownBlock ≠ some w4.heap.size := fun e => by have := h4.own.lt _ e; omega
        have H4 := Lib.hid h4a
        have HB4 := Lib.hid hB4a
        clear h4 hS4 hB4 h4a hB4a HST HF HB hPb
        go_upto_region 18 with fail
        generalize w4.alloc (.cells #[.int .i64 p, .int .i64 q, .bool false] 28) = W at *
        generalize w4.heap.size = kb at *
        have hnn := HN.out
        have s1 : IntKind.i64.wrap ((p : Int) + (q : Int)) = (p : Int) + (q : Int) := IntWalk.i64_in _ (by omega)
        have s2 : (0 : Int) ≤ (p : Int) := by omega
        have s3 : (p : Int) ≤ (p : Int) + (q : Int) := by omega
        have s4 : (p : Int) + (q : Int) ≤ (c : Int) := by omega
        have s5 : ((p : Int) + (q : Int)).toNat = p + q := by omega
        have s8 : p + q - p = q := by omega
        have s9 : ¬ (c = p) := by omega
        have s10 : decide (2000 < (k : Int)) = false := by simp; omega
        have hl1 : (midS dat p q 0 0 ((k + 1 : Nat) : Int)).data.length ≤ 100000 := by simp [midS]; omega
        have hl2 : ((dat.drop p).take q).length ≤ 100000 := by simp; omega
        have hl3 : q = ((dat.drop p).take q).length := by simp; omega
        have HL1 := Lib.hid hl1
        have HL2 := Lib.hid hl2
        have HL3 := Lib.hid hl3
        have HSUB := Lib.hid (HD.out.sub p q (by omega))
        clear hl1 hl2 hl3 hnn
        go_region_held3 (fun w' => w'.cell? ⟨kb, 0, none⟩ = some (.int .i64 p) ∧ w'.cell? ⟨kb, 1, none⟩ = some (.int .i64 q)) (go_keep) (first
          | (go_at_call 16; (with_reducible refine (come_one H4.out.drew (Since.refl _ _ _) 0 (p : Int) (some ⟨b, off + p, none⟩) ((dat.drop p).take q) q (c - p) true _ true HL3.out (HSUB.out.of_below HB4.out.drew) (by simp) HL1.out HL2.out HOC.out.2 HOC.out.1).mono ?_); rintro e w6 ⟨v6, rfl, h6, hS6⟩; have e0 := (hS6.cell (p := ⟨kb, 0, none⟩) hkl hkf hkv).trans e0; have e1 := (hS6.cell (p := ⟨kb, 1, none⟩) hkl hkf hkv).trans e1; have hB6 := since_below HB4.out.drew H4.out.drew hS6; have H6 := Lib.hid h6; have HB6 := Lib.hid hB6; clear h6 hS6 hB6))
        go_wp2
        go_roundw
        case rel => exact ⟨k + 1, p + q, v6, by omega, by go_num, by omega, by omega, H6.out, HB6.out⟩
        case measure => simp [intOf]; omega
    · have hpn : p = n := by omega
      have hpn' : dat.take p = dat := by rw [hpn, HN.out]; exact List.take_length
      have hdn : doneB ⟨dat.take p, -1, 0, (k : Int), false⟩ n = true := by have h1 := HN.out; rw [hpn']; simp [doneB]; omega
      have hl : (dat.take p).length ≤ 100000 := by simp; omega
      have HDN := Lib.hid hdn
      have HL := Lib.hid hl
      have HPN := Lib.hid hpn'
      clear hdn hl hpn'
      have cA := conv_bytes (cap := c) (HD.out.of_below HB.out.drew) HN.out
      go_wp2
      go_region_law (first
        | (go_simp; go_at_call 18; (with_reducible refine (done_one HF.out.drew ((Since.refl _ _ _).drew) true HDN.out).mono ?_); rintro e w5 ⟨rfl, h5, hS5⟩; have hB5 := since_below HB.out HF.out hS5; have cA := conv_bytes (cap := c) (HD.out.of_below hB5) HN.out; have H5 := Lib.hid h5; have HS5 := Lib.hid hS5; have HB5 := Lib.hid hB5; clear h5 hS5 hB5)
        | (go_simp; go_at_call 20; (with_reducible refine (data_one H5.out HS5.out HL.out).mono ?_); rintro e w6 ⟨a6, n6, c6, rfl, hn6, cv6, h6, hS6⟩; rw [HPN.out] at cv6; have hB6 := since_below HB.out HF.out hS6; have cA := conv_bytes (cap := c) (HD.out.of_below hB6) HN.out; have HB6 := Lib.hid hB6; clear h6 hS6 hB6))
      all_goals
        go_wp2
        go_ret
        exact ⟨rfl, HB6.out⟩

theorem flowUnasked_any (v0 v1 v2 : Value) (D0 D1 D2 : D) (W : World) (r0 : RdV Try.prog W 32 v0 D0) (r1 : RdV Try.prog W 33 v1 D1) (r2 : RdV Try.prog W 3 v2 D2) :
    Calls Try.prog 7 #[v0, v1, v2] W fun e w' => e = .returned (.bool true) ∧ Below W.heap.size W w' := by
  obtain ⟨d0, d3, d4, d5, d1, d2, d6, d7, rfl⟩ := rd_dealV r0
  obtain ⟨a, l, c, rfl, h1, h2, h3, h4, h5, _⟩ := rd_bytesV r1
  obtain ⟨n, rfl, _, hn⟩ := r2.int Try.underlying3
  exact unasked_walk d0 d3 d4 d5 d1 d2 d6 d7 a _ c l n W (Lib.hid rfl) h1 h2 h3 h4 h5 (i64_bd hn).1 (i64_bd hn).2
end Go.Proofs.Ytjmpjdahkliheaa
