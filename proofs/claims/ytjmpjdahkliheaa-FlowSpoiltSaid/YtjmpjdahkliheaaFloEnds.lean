/-
  flow: the law FlowEnds.
-/
import Derived.Test.YtjmpjdahkliheaaFloOne
import Derived.Test.YtjmpjdahkliheaaFloReads
import Derived.IntWalk
namespace Go.Proofs.Ytjmpjdahkliheaa
set_option linter.unusedVariables false
set_option linter.unusedSimpArgs false
open Go.RowKit

theorem IsBytes.sub {w : World} {b off : Nat} {l : List Nat} (h : IsBytes w (some ⟨b, off, none⟩) l) (i k : Nat) (hik : i + k ≤ l.length) : IsBytes w (some ⟨b, off + i, none⟩) ((l.drop i).take k) := by
  refine ⟨fun c hc => h.1 c (List.mem_of_mem_drop (List.mem_of_mem_take hc)), ?_⟩
  by_cases hk : k = 0
  · subst hk; left; simp
  · right
    obtain ⟨b', off', he, hcs⟩ := h.2.resolve_left (by intro e; subst e; simp at hik; omega)
    cases he
    refine ⟨b, off + i, rfl, fun j hj => ?_⟩
    have hj' : j < k := by simp at hj; omega
    rw [Nat.add_assoc, hcs (i + j) (by omega)]
    congr 3
    simp [List.getD, List.getElem?_take, hj', List.getElem?_drop]

set_option maxHeartbeats 8000000 in
set_option maxRecDepth 100000 in
theorem ends_walk (d0 d3 burst first : Int) (d1 d2 ready tog : Bool) (A : Option Addr) (n c : Nat) (dat : List Nat) (seg : Int) (w : World)
    (HN : Hid (n = dat.length)) (hd : IsBytes w A dat) (hc0 : A = none → c = 0) (hnc : n ≤ c) (hcm : c ≤ maxLen) (HBL : Hid (∀ x, A = some x → dat ≠ [] → x.block < w.heap.size)) (hsg : seg < 9223372036854775808) :
    Calls Try.prog 5 #[.agg #[.int .i64 d0, .bool d1, .bool d2, .int .i64 d3, .int .i64 burst, .int .i64 first, .bool ready, .bool tog], .slice A n c, .int .i64 seg] w fun e w' => e = .returned (.bool true) ∧ Below w.heap.size w w' := by
  unfold maxLen at hcm
  go_enter Try.func5, Try.ntmps5
  go_wp2_with fail
  have hW := Below.alloc (Below.refl w.heap.size w) (Nat.le_refl _) (.cells #[.int .i64 d0, .bool d1, .bool d2, .int .i64 d3, .int .i64 burst, .int .i64 first, .bool ready, .bool tog] 32)
  have hP0 := IsBlk.new w #[.int .i64 d0, .bool d1, .bool d2, .int .i64 d3, .int .i64 burst, .int .i64 first, .bool ready, .bool tog] 32
  refine (stands_any _).mono ?_
  rintro e w1 ⟨rfl, hb1⟩
  have hP := hP0.below hb1 (by simp)
  have hB1 := hW.trans (hb1.mono (by simp))
  have HD := Lib.hid hd
  clear hP0 hW hb1 hd
  have p0 := hP.cell 0 rfl
  have p1 := hP.cell 1 rfl
  have p2 := hP.cell 2 rfl
  have p3 := hP.cell 3 rfl
  have p4 := hP.cell 4 rfl
  have p5 := hP.cell 5 rfl
  have p6 := hP.cell 6 rfl
  have p7 := hP.cell 7 rfl
  by_cases hn4 : 4000 < n
  · go_wp2
    go_ret
    exact ⟨rfl, hB1⟩
  by_cases hs1 : seg < 1
  · go_wp2
    go_ret
    exact ⟨rfl, hB1⟩
  by_cases hb1 : burst < 1
  · go_wp2
    go_ret
    exact ⟨rfl, hB1⟩
  cases hok : okN first n ready tog ([] : List Nat).length true with
  | false =>
    have hf : first < 0 := by
      by_cases h : first < 0
      · exact h
      · have := (okN_iff first n ready tog 0 true).2 ⟨by omega, by omega, .inl rfl, by omega, .inl rfl⟩
        simp only [List.length_nil] at hok
        rw [hok] at this; cases this
    go_wp2_with fail
    refine (new_any d0 d3 burst first n d1 d2 ready tog true none 0 0 [] _ rfl ⟨by simp, .inl rfl⟩ (fun _ => rfl) (by omega) (by omega) false hok).mono ?_
    rintro e w3 ⟨v, rfl, hb3, _⟩
    have hP3 := hP.below hb3 hP.lt
    have hB3 := hB1.trans (hb3.mono hB1.size)
    have q5 := hP3.cell 5 rfl
    clear hP hb3 hB1 p0 p1 p2 p3 p4 p5 p6 p7 hok
    go_wp2
    go_ret
    exact ⟨rfl, hB3⟩
  | true =>
    go_wp2_with fail
    refine (new_any d0 d3 burst first n d1 d2 ready tog true none 0 0 [] _ rfl ⟨by simp, .inl rfl⟩ (fun _ => rfl) (by omega) (by omega) true hok).mono ?_
    rintro e w3 ⟨v, rfl, hb3, hf3⟩
    replace hf3 := (hf3 rfl).mono hB1.size
    have hB3 := hB1.trans (hb3.mono hB1.size)
    have HF := Lib.hid hf3
    have HB := Lib.hid hB3
    clear hP hb3 hB1 p0 p1 p2 p3 p4 p5 p6 p7 hok hf3 hB3
    generalize w1.heap.size + 1 = fb at *
    go_wp2
    go_loopw [43] (fun i wr => ∃ (k p : Nat) (v : Value) (turn : Int), k ≤ n + 1 ∧ i = .int .i64 k ∧ p ≤ n ∧ (k ≤ p ∨ p = n) ∧ Hid (IsFlow wr w.heap.size fb v burst n ⟨dat.take p, -1, 0, turn, false⟩) ∧ Hid (Below w.heap.size w wr)) (fun i _ => n + 1 - (intOf i).toNat)
    case atStart => exact ⟨0, 0, v, 0, by omega, rfl, by omega, .inl (by omega), HF.out, HB.out⟩
    case round =>
      clear HF HB
      obtain ⟨k, p, v, turn, hk, rfl, hp, hkp, HF, HB⟩ := hrel
      by_cases hlt : k < n + 1
      · have hlt' : (k : Int) < (n : Int) + 1 := by omega
        by_cases hpn : p = n
        · have hpn' : dat.take p = dat := by rw [hpn, HN.out]; exact List.take_length
          have hdn : doneB ⟨dat.take p, -1, 0, turn, false⟩ n = true := by have h1 := HN.out; rw [hpn']; simp [doneB]; omega
          have hl : (dat.take p).length ≤ 100000 := by simp; omega
          have HDN := Lib.hid hdn
          have HL := Lib.hid hl
          have HPN := Lib.hid hpn'
          clear hdn hl hpn'
          go_wp2_with fail
          refine (done_one HF.out (Since.refl _ _ _) true HDN.out).mono ?_
          rintro e w4 ⟨rfl, h4, hS4⟩
          have hB4 := since_below HB.out HF.out hS4
          have cA := conv_bytes (cap := c) (HD.out.of_below hB4.drew) HN.out
          have H4 := Lib.hid h4
          have HB4 := Lib.hid hB4
          clear h4 hS4 hB4 HF HB
          go_wp2
          go_region_law (first
            | (go_simp; go_at_call 18; (with_reducible refine (done_one H4.out.drew ((Since.refl _ _ _).drew) true HDN.out).mono ?_); rintro e w5 ⟨rfl, h5, hS5⟩; have hB5 := since_below HB4.out H4.out hS5; have cA := conv_bytes (cap := c) (HD.out.of_below hB5) HN.out; have H5 := Lib.hid h5; have HS5 := Lib.hid hS5; have HB5 := Lib.hid hB5; clear h5 hS5 hB5)
            | (go_simp; go_at_call 20; (with_reducible refine (data_one H5.out HS5.out HL.out).mono ?_); rintro e w6 ⟨a6, n6, c6, rfl, hn6, cv6, h6, hS6⟩; rw [HPN.out] at cv6; have hB6 := since_below HB4.out H4.out hS6; have cA := conv_bytes (cap := c) (HD.out.of_below hB6) HN.out; have HB6 := Lib.hid hB6; clear h6 hS6 hB6))
          all_goals
            go_wp2
            go_ret
            exact ⟨rfl, HB6.out⟩

        · have hdn : doneB ⟨dat.take p, -1, 0, turn, false⟩ n = false := by have h1 := HN.out; simp [doneB]; omega
          have HDN := Lib.hid hdn
          clear hdn
          go_wp2_with fail
          refine (done_one HF.out (Since.refl _ _ _) false HDN.out).mono ?_
          rintro e w5 ⟨rfl, h5, hS5⟩
          obtain ⟨q, hq⟩ : ∃ q : Nat, (q : Int) = min burst ((dat.length : Int) - p) := ⟨(min burst ((dat.length : Int) - p)).toNat, by have h1 := HN.out; omega⟩
          have hst := mid_start dat p q turn burst (by omega) (by have h1 := HN.out; omega) hq _ rfl
          have hq1 : 1 ≤ q := by have h1 := HN.out; omega
          have hpq : p + q ≤ n := by have h1 := HN.out; omega
          rw [← HN.out] at hst
          have HST := Lib.hid hst
          have H5 := Lib.hid h5
          have HS5 := Lib.hid hS5
          clear hst hq h5 hS5 HDN
          go_wp2_with fail
          refine (ask_one H5.out HS5.out _ _ _ _ _ HST.out.1 HST.out.2).mono ?_
          rintro e w6 ⟨rfl, h6, hS6⟩
          have h6a := h6.below ((Below.refl _ _).alloc (Nat.le_refl _) (.cells #[.int .i64 p, .int .i64 q, .bool false] 28))
          have hS6a := hS6.below ((Below.refl _ _).alloc (Nat.le_refl _) (.cells #[.int .i64 p, .int .i64 q, .bool false] 28))
          have hP6 := IsBlk.new w6 #[.int .i64 p, .int .i64 q, .bool false] 28
          have hpb1 : w6.heap.size ≠ fb := by have := h6.lt; omega
          have hpb2 : v.ownBlock ≠ some w6.heap.size := fun e => by have := h6.own.lt _ e; omega
          have HP6 := Lib.hid (And.intro hP6 (And.intro hpb1 hpb2))
          have H6 := Lib.hid (And.intro h6a hS6a)
          clear h6 hS6 h6a hS6a hP6 HST H5 HS5 hpb1 hpb2
          go_wp2_with fail
          generalize w6.heap.size = pb at *
          generalize w6.alloc (.cells #[.int .i64 p, .int .i64 q, .bool false] 28) = w7 at *
          obtain ⟨sg, rfl⟩ : ∃ sg : Nat, seg = (sg : Int) := ⟨seg.toNat, by omega⟩
          refine (split_any q sg q hq1 (by omega) (by omega) (by omega) hq1 (by omega) w7).mono ?_
          rintro e w8 ⟨lv, rfl, hown, hb8⟩
          have hne : parts q sg q 0 q ≠ [] := by
            intro e
            have := tilesF_parts q sg (by omega) (by omega) (q - 0) 0 rfl (by omega) q (fun _ => by omega)
            rw [e] at this
            have h0 : 0 = q := this
            omega
          obtain ⟨la, lc, rfl, hlc, hlm, hlx⟩ := hown.form
          obtain ⟨lb, rfl, hlb1, hlb2, hlx⟩ := hlx.resolve_left hne
          have hlf : lb ≠ fb := by have := H6.out.1.lt; omega
          have hlv : v.ownBlock ≠ some lb := fun e => by have := H6.out.1.own.lt _ e; omega
          have hpf := HP6.out.2
          have hpl : pb < w8.heap.size := (HP6.out.1.below hb8 HP6.out.1.lt).lt
          clear hne hlb1
          have hti : TilesF q 0 ((parts q sg q 0 q).drop 0) := tilesF_parts q sg (by omega) (by omega) (q - 0) 0 rfl (by omega) q (fun _ => by omega)
          have h8 := H6.out.1.below hb8
          have hS8 := H6.out.2.below hb8
          have hP8 := HP6.out.1.below hb8 HP6.out.1.lt
          have hB8 := since_below HB.out HF.out hS8
          obtain ⟨b, off, rfl, hbd⟩ := HD.out.2.resolve_left (by intro e; have h1 := HN.out; rw [e] at h1; simp at h1; omega)
          have hbl : b < w.heap.size := HBL.out _ rfl (by intro e; have h1 := HN.out; rw [e] at h1; simp at h1; omega)
          have hll := tilesF_len hti
          simp only [List.drop_zero, Nat.zero_add] at hll
          have HT := Lib.hid hti
          have HLX := Lib.hid hlx
          have HS8 := Lib.hid hS8
          have HB8 := Lib.hid hB8
          have H8 := Lib.hid h8
          have HP8 := Lib.hid hP8
          clear hti hlx h8 hS8 hP8 hB8 hown hb8 hbd H6
          generalize parts q sg q 0 q = l at *
          obtain ⟨ln, hln⟩ : ∃ ln, ln = l.length := ⟨_, rfl⟩
          rw [← hln] at hlc hll
          have HLN := Lib.hid hln
          simp only [← hln]
          clear hln
          go_wp2
          go_loopw [62] (fun i wr => ∃ (j r : Nat) (v' : Value), j ≤ ln ∧ i = .int .i64 j ∧ r ≤ q ∧ Hid (TilesF q r (l.drop j)) ∧ Hid (IsFlow wr w.heap.size fb v' burst n (midS dat p q r j ((turn + 1) % 4294967296))) ∧ Hid (Since w8 v fb wr v')) (fun i _ => ln - (intOf i).toNat)
          case atStart => exact ⟨0, 0, v, by omega, rfl, by omega, HT.out, H8.out, Since.refl _ _ _⟩
          case round =>
            clear HT
            obtain ⟨j, r, v', hj, rfl, hr, HT, H9, HS9⟩ := hrel
            by_cases hjl : j < ln
            · obtain ⟨x, hx⟩ : ∃ x, l[j]? = some x := ⟨_, List.getElem?_eq_getElem (by have := HLN.out; omega)⟩
              obtain ⟨t1, t2, t3, t4, t5⟩ := tilesF_at j x hx r HT.out
              obtain ⟨c1, c2, c3⟩ := HLX.out j x hx
              obtain ⟨x1, kk, ff⟩ := x
              simp only at t1 t2 t3 t4 t5 c1 c2 c3
              subst t1
              rw [Nat.mul_comm 3 j] at c1 c2 c3
              have c1' := (HS9.out.cell (p := ⟨lb, j * 3, none⟩) hlb2 hlf hlv).trans c1
              have c2' := (HS9.out.cell (p := ⟨lb, j * 3 + 1, none⟩) hlb2 hlf hlv).trans c2
              have c3' := (HS9.out.cell (p := ⟨lb, j * 3 + 2, none⟩) hlb2 hlf hlv).trans c3
              have e0 := (HS9.out.cell (p := ⟨pb, 0, none⟩) hpl hpf.1 hpf.2).trans (HP8.out.cell 0 rfl)
              have e1 := (HS9.out.cell (p := ⟨pb, 1, none⟩) hpl hpf.1 hpf.2).trans (HP8.out.cell 1 rfl)
              have hmc := mid_come dat p q x1 j kk ((turn + 1) % 4294967296) ff (by have := HN.out; omega) (by omega) t2 t3 t4 (by omega)
              have hsub := (HD.out.sub (p + x1) kk (by have := HN.out; omega))
              have hBr := since_below HB8.out H8.out HS9.out
              have H9a := Lib.hid (H9.out.below ((Below.refl _ _).alloc (Nat.le_refl _) (.cells #[.int .i64 x1, .int .i64 kk, .bool ff] 28)))
              have HS9a := Lib.hid (HS9.out.below ((Below.refl _ _).alloc (Nat.le_refl _) (.cells #[.int .i64 x1, .int .i64 kk, .bool ff] 28)))
              have hplr : pb < wr.heap.size := Nat.lt_of_lt_of_le hpl HS9.out.but.size
              have HMC := Lib.hid hmc
              have HSUB := Lib.hid hsub
              have HBR := Lib.hid (hBr.alloc hBr.size (.cells #[.int .i64 x1, .int .i64 kk, .bool ff] 28))
              have HT5 := Lib.hid t5
              have hkf : wr.heap.size ≠ fb := by have := H9.out.lt; omega
              have hkv : v'.ownBlock ≠ some wr.heap.size := fun e => by have := H9.out.own.lt _ e; omega
              clear hmc hsub hBr c1 c2 c3 hx t4 t5 H9 HS9
              clear hsg hcm
              go_upto_region 17 with fail
              have hkl : wr.heap.size < (wr.alloc (.cells #[.int .i64 x1, .int .i64 kk, .bool ff] 28)).heap.size := by simp
              have hkb := IsBlk.new wr #[.int .i64 x1, .int .i64 kk, .bool ff] 28
              have e0' := (Below.heap_alloc wr (.cells #[.int .i64 x1, .int .i64 kk, .bool ff] 28) pb hplr)
              have e0 : (wr.alloc (.cells #[.int .i64 x1, .int .i64 kk, .bool ff] 28)).cell? ⟨pb, 0, none⟩ = some (.int .i64 p) := (World.cell?_of_block (w := wr) e0').trans e0
              have e1 : (wr.alloc (.cells #[.int .i64 x1, .int .i64 kk, .bool ff] 28)).cell? ⟨pb, 1, none⟩ = some (.int .i64 q) := (World.cell?_of_block (w := wr) e0').trans e1
              have f0 := hkb.cell 0 rfl
              have f1 := hkb.cell 1 rfl
              have f2 := hkb.cell 2 rfl
              clear hkb e0' c1' c2' c3'
              generalize wr.alloc (.cells #[.int .i64 x1, .int .i64 kk, .bool ff] 28) = W at *
              generalize wr.heap.size = kb at *
              have hnn := HN.out
              have s0 : IntKind.i64.wrap ((p : Int) + (x1 : Int)) = (p : Int) + (x1 : Int) := IntWalk.i64_in _ (by omega)
              have s1 : IntKind.i64.wrap ((p : Int) + (x1 : Int) + (kk : Int)) = (p : Int) + (x1 : Int) + (kk : Int) := IntWalk.i64_in _ (by omega)
              have s2 : (0 : Int) ≤ (p : Int) + (x1 : Int) := by omega
              have s3 : (p : Int) + (x1 : Int) ≤ (p : Int) + (x1 : Int) + (kk : Int) := by omega
              have s4 : (p : Int) + (x1 : Int) + (kk : Int) ≤ (c : Int) := by omega
              have s5 : ((p : Int) + (x1 : Int)).toNat = p + x1 := by omega
              have s6 : ((p : Int) + (x1 : Int) + (kk : Int)).toNat = p + x1 + kk := by omega
              have s7 : ¬ (c - (p + x1) = 0) := by omega
              have s8 : p + x1 + kk - (p + x1) = kk := by omega
              have s9 : ¬ (c = p + x1) := by omega
              have s10 : IntKind.u32.wrap (j : Int) = (j : Int) := IntWalk.u32_in _ (by omega)
              have hl1 : (midS dat p q x1 j ((turn + 1) % 4294967296)).data.length ≤ 100000 := by simp [midS]; omega
              have hl2 : ((dat.drop (p + x1)).take kk).length ≤ 100000 := by simp; omega
              have hll2 : kk = ((dat.drop (p + x1)).take kk).length := by simp; omega
              have HL1 := Lib.hid hl1
              have HL2 := Lib.hid hl2
              have HLL := Lib.hid hll2
              clear hnn hl1 hl2 hll2
              go_region_held3 (fun w' => w'.cell? ⟨pb, 0, none⟩ = some (.int .i64 p) ∧ w'.cell? ⟨kb, 0, none⟩ = some (.int .i64 x1) ∧ w'.cell? ⟨kb, 1, none⟩ = some (.int .i64 kk) ∧ w'.cell? ⟨kb, 2, none⟩ = some (.bool ff)) (go_keep) (first
                | (go_at_call 16; (with_reducible refine (come_one H9a.out.drew (Since.refl _ _ _) (j : Int) ((p : Int) + (x1 : Int)) (some ⟨b, off + (p + x1), none⟩) ((dat.drop (p + x1)).take kk) kk (c - (p + x1)) ff _ true HLL.out (HSUB.out.of_below HBR.out.drew) (by simp) HL1.out HL2.out HMC.out.2 HMC.out.1).mono ?_); rintro e w9 ⟨v9, rfl, h9, hS9⟩; have f0 := (hS9.cell (p := ⟨kb, 0, none⟩) hkl hkf hkv).trans f0; have f1 := (hS9.cell (p := ⟨kb, 1, none⟩) hkl hkf hkv).trans f1; have f2 := (hS9.cell (p := ⟨kb, 2, none⟩) hkl hkf hkv).trans f2; have hS9 := HS9a.out.drew.trans hS9; have e0 := (hS9.cell (p := ⟨pb, 0, none⟩) hpl hpf.1 hpf.2).trans (HP8.out.cell 0 rfl); have H9 := Lib.hid h9; have HS9 := Lib.hid hS9; clear h9 hS9))
              go_wp2
              go_roundw
              case rel => exact ⟨j + 1, x1 + kk, v9, by omega, by go_num, by omega, HT5.out, H9.out, HS9.out⟩
              case measure => simp [intOf]; omega
            · obtain rfl : j = ln := by omega
              have hrq : r = q := tilesF_end (l := l) (by have h1 := HT.out; rw [HLN.out] at h1; exact h1)
              subst hrq
              have h9 := H9.out
              rw [mid_end] at h9
              have hB9 := since_below HB8.out H8.out HS9.out
              have H9b := Lib.hid h9
              have HB9 := Lib.hid hB9
              clear h9 hB9 H9 HS9
              go_wp2
              go_roundw
              case rel => exact ⟨k + 1, p + r, v', _, by omega, by go_num, by omega, by omega, H9b.out, HB9.out⟩
              case measure => simp [intOf]; omega
      · have hpn : p = n := by omega
        have hpn' : dat.take p = dat := by rw [hpn, HN.out]; exact List.take_length
        have hdn : doneB ⟨dat.take p, -1, 0, turn, false⟩ n = true := by have h1 := HN.out; rw [hpn']; simp [doneB]; omega
        have hl : (dat.take p).length ≤ 100000 := by simp; omega
        have HDN := Lib.hid hdn
        have HL := Lib.hid hl
        have HPN := Lib.hid hpn'
        clear hdn hl hpn'
        have cA := conv_bytes (cap := c) (HD.out.of_below HB.out.drew) HN.out
        have hlt' : ¬ ((k : Int) < (n : Int) + 1) := by omega
        go_wp2
        go_region_law (first
          | (go_simp; go_at_call 18; (with_reducible refine (done_one HF.out.drew ((Since.refl _ _ _).drew) true HDN.out).mono ?_); rintro e w5 ⟨rfl, h5, hS5⟩; have hB5 := since_below HB.out HF.out hS5; have cA := conv_bytes (cap := c) (HD.out.of_below hB5) HN.out; have H5 := Lib.hid h5; have HS5 := Lib.hid hS5; have HB5 := Lib.hid hB5; clear h5 hS5 hB5)
          | (go_simp; go_at_call 20; (with_reducible refine (data_one H5.out HS5.out HL.out).mono ?_); rintro e w6 ⟨a6, n6, c6, rfl, hn6, cv6, h6, hS6⟩; rw [HPN.out] at cv6; have hB6 := since_below HB.out HF.out hS6; have cA := conv_bytes (cap := c) (HD.out.of_below hB6) HN.out; have HB6 := Lib.hid hB6; clear h6 hS6 hB6))
        all_goals
          go_wp2
          go_ret
          exact ⟨rfl, HB6.out⟩

theorem rd_dealV {W : World} {v : Value} {d : D} (r : RdV Try.prog W 32 v d) : ∃ (d0 d3 burst first : Int) (d1 d2 ready tog : Bool), v = .agg #[.int .i64 d0, .bool d1, .bool d2, .int .i64 d3, .int .i64 burst, .int .i64 first, .bool ready, .bool tog] := by
  obtain ⟨cs, l, rfl, rfl, h⟩ := r.struct Try.underlying32
  obtain ⟨d0, d3, d4, d5, d1, d2, d6, d7, hc⟩ := rd_deal h
  exact ⟨d0, d3, d4, d5, d1, d2, d6, d7, congrArg Value.agg (Array.toList_inj.1 (by rw [hc]))⟩
theorem rd_bytesV {W : World} {v : Value} {d : D} (r : RdV Try.prog W 33 v d) : ∃ a l c, v = .slice a l.length c ∧ IsBytes W a l ∧ (a = none → c = 0) ∧ l.length ≤ c ∧ c ≤ maxLen ∧ (∀ x, a = some x → l ≠ [] → x.block < W.heap.size) ∧ l.length ≤ 140737488355328 := by
  have h8 : Try.prog.cellsOf 5 = 1 := by kernel_rfl
  have hy : Try.prog.bytesOf 5 = 1 := by kernel_rfl
  obtain ⟨a, len, cap, zs, rfl, _, z1, z2, z3, z4, z5, z6⟩ := r.ints Try.underlying33 Try.underlying5 h8
  obtain ⟨l, hl1, hl2, hl3⟩ := z6.bytes
  have he : l.length = len := by omega
  rw [hy] at z4
  simp only [reachBytes] at z4
  subst he
  exact ⟨a, l, cap, rfl, hl2, z5, z2, z3, hl3, by omega⟩
theorem flowEnds_any (v0 v1 v2 : Value) (D0 D1 D2 : D) (W : World) (r0 : RdV Try.prog W 32 v0 D0) (r1 : RdV Try.prog W 33 v1 D1) (r2 : RdV Try.prog W 3 v2 D2) :
    Calls Try.prog 5 #[v0, v1, v2] W fun e w' => e = .returned (.bool true) ∧ Below W.heap.size W w' := by
  obtain ⟨d0, d3, d4, d5, d1, d2, d6, d7, rfl⟩ := rd_dealV r0
  obtain ⟨a, l, c, rfl, h1, h2, h3, h4, h5, _⟩ := rd_bytesV r1
  obtain ⟨n, rfl, _, hn⟩ := r2.int Try.underlying3
  exact ends_walk d0 d3 d4 d5 d1 d2 d6 d7 a _ c l n W (Lib.hid rfl) h1 h2 h3 h4 h5 (i64_bd hn).2

end Go.Proofs.Ytjmpjdahkliheaa
