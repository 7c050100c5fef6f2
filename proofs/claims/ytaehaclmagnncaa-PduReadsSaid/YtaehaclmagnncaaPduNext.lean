/-
  pdu: Next, its ways out ahead of the reading.
-/
import Derived.Test.YtaehaclmagnncaaPduTo
import Derived.Deep.DeepCutAuto
import Derived.Deep.CutBlock
import Derived.Deep.RegionHeld3
import Derived.Lib.EndianBits
import Derived.IntWalk
import Derived.Outline
namespace Go.Proofs.Ytaehaclmagnncaa
set_option linter.unusedVariables false
set_option linter.unusedSimpArgs false
open Go.RowKit
attribute [local go_sem ↓] Go.wp_at_zero Go.wp_at_succ

set_option maxRecDepth 100000 in
set_option maxHeartbeats 4000000 in
theorem next_long {w : World} {B rb : Nat} {v : Value} {tp : Option Addr} {l : List Nat} (hr : IsRd w B rb v tp l false) (hB : B ≤ w.heap.size) (hl : 48 ≤ l.length) (hlm : l.length ≤ 140737488355328) (h d : Bool) : Calls Try.prog 16 #[.pointer (some ⟨rb, 0, none⟩), .bool h, .bool d] w (NextR w B rb l h d) := by
  obtain ⟨g, cap, rfl, hby, hfz, hgB, hglt, hnc, hcm⟩ := hr.own.block (by rintro rfl; simp at hl)
  obtain ⟨n, hn⟩ : ∃ n, n = l.length := ⟨_, rfl⟩
  have c0 := hr.blk.cell 0 (v := .slice (some ⟨g, 0, none⟩) l.length cap) rfl
  rw [← hn] at c0 hl hr hlm
  have c1 := hr.blk.cell 1 (v := .bool false) rfl
  have c2 := hr.blk.cell 2 (v := .pointer tp) rfl
  have fz := hr.blk.fz
  have hlt := hr.blk.lt
  have HR := Lib.hid (And.intro hr (And.intro hn (And.intro hB (And.intro hnc hcm))))
  have g1 : decide (n < 48) = false := by simp; omega
  have g2 : decide ((n : Int) < 48) = false := by simp; omega
  clear hr hn hby hfz hgB hnc hcm
  go_enter Try.func16, Try.ntmps16
  go_upto_if 39 with fail
  obtain ⟨R, hR⟩ : ∃ R, R = w.heap.size := ⟨_, rfl⟩
  go_cut [] (fun wx => ∃ tb, Nx w wx B rb g n cap R tb l)
  case first =>
   as_aux_lemma =>
    cases tp with
    | none =>
      go_wp2_with (go_at_call 24; refine (table_any _).mono ?_; rintro e w' ⟨rfl, rfl⟩)
      go_meet
      exact ⟨_, Nx.made HR.out.1 hR⟩
    | some a =>
      obtain ⟨tb, rfl, ht⟩ := HR.out.1.tab a rfl
      go_wp2_with fail
      go_meet
      refine ⟨tb, HR.out.1.below ((Below.refl _ _).alloc (Nat.le_refl _) _), ?_, (But.refl _ _).alloc _, by omega, fun k hk => .inr ⟨_, HR.out.1.blk.cell 0 rfl, hk⟩⟩
      rw [hR]; exact IsBlk.new _ _ _
  case rest =>
    clear fz c0 c1 c2 hlt
    obtain ⟨tb, hx⟩ := hcut
    have hw0 : w.heap.size = R := hR.symm
    rw [hw0]
    have HW0 := Lib.hid hw0
    clear hw0 hR
    have hby : IsBytes wc (some ⟨g, 0, none⟩) l := by
      obtain ⟨a', cap', he, hb', -⟩ := hx.rd.own.form
      injection he with he1 he2 he3
      rw [he1]; exact hb'
    have hcell : ∀ i, i < n → wc.cell? ⟨g, i, none⟩ = some (.int .u8 ((l.getD i 0 : Nat) : Int)) := fun i hi => by
      obtain ⟨b', o', he', hc'⟩ := hby.2.resolve_left (by rintro rfl; have := HR.out.2.1; simp at this; omega)
      cases he'
      have := hc' i (by have := HR.out.2.1; omega)
      rw [Nat.zero_add] at this
      exact this
    have hlt256 : ∀ i, l.getD i 0 < 256 := fun i => by
      by_cases hi : i < l.length
      · exact hby.1 _ (by simp [List.getD, List.getElem?_eq_getElem hi])
      · simp [List.getD, List.getElem?_eq_none (show l.length ≤ i by omega)]
    have e0 := hcell 0 (by omega)
    have e4 := hcell 4 (by omega)
    have e5 := hcell 5 (by omega)
    have e6 := hcell 6 (by omega)
    have e7 := hcell 7 (by omega)
    have b0 := hlt256 0
    have b4 := hlt256 4
    have b5 := hlt256 5
    have b6 := hlt256 6
    have b7 := hlt256 7
    have hdn : dataN l = (l.getD 5 0 * 256 + l.getD 6 0) * 256 + l.getD 7 0 := by
      unfold dataN sub
      have e : (l.drop 5).take 3 = [l.getD 5 0, l.getD 6 0, l.getD 7 0] := by
        have h5 : 5 < l.length := by have := HR.out.2.1; omega
        have h6 : 6 < l.length := by have := HR.out.2.1; omega
        have h7 : 7 < l.length := by have := HR.out.2.1; omega
        apply List.ext_getElem?
        intro i
        rcases i with _ | _ | _ | i
        · simp [List.getD, List.getElem?_drop, h5]
        · simp [List.getD, List.getElem?_drop, h6]
        · simp [List.getD, List.getElem?_drop, h7]
        · rw [List.getElem?_take, if_neg (by omega)]; simp
      rw [e]; simp [numB]
    have han : ahsN l = 4 * l.getD 4 0 := rfl
    have hbad : badHead l = (decide (128 ≤ l.getD 0 0) || decide (32 < ahsN l) || decide (256 < dataN l)) := rfl
    have HX := Lib.hid hx
    have HF := Lib.hid (And.intro hby (And.intro hcell (And.intro hlt256 (And.intro hdn (And.intro han hbad)))))
    clear hx hby hcell hlt256 hdn han hbad
    obtain ⟨c0, hc0⟩ : ∃ c, c = l.getD 0 0 := ⟨_, rfl⟩
    obtain ⟨c4, hc4⟩ : ∃ c, c = l.getD 4 0 := ⟨_, rfl⟩
    obtain ⟨c5, hc5⟩ : ∃ c, c = l.getD 5 0 := ⟨_, rfl⟩
    obtain ⟨c6, hc6⟩ : ∃ c, c = l.getD 6 0 := ⟨_, rfl⟩
    obtain ⟨c7, hc7⟩ : ∃ c, c = l.getD 7 0 := ⟨_, rfl⟩
    rw [← hc0] at e0 b0
    rw [← hc4] at e4 b4
    rw [← hc5] at e5 b5
    rw [← hc6] at e6 b6
    rw [← hc7] at e7 b7
    have HC := Lib.hid (And.intro hc0 (And.intro hc4 (And.intro hc5 (And.intro hc6 hc7))))
    clear hc0 hc4 hc5 hc6 hc7
    obtain ⟨an, han⟩ : ∃ a : Nat, (4 : Int) * (c4 : Int) = (a : Int) := ⟨4 * c4, by omega⟩
    have han2 : an = 4 * c4 := by omega
    obtain ⟨dn, hdn⟩ : ∃ a : Nat, a = (c5 * 256 + c6) * 256 + c7 := ⟨_, rfl⟩
    have HA := Lib.hid (And.intro han2 hdn)
    have hdn2 : dn < 16777216 := by omega
    have han3 : an < 1024 := by omega
    have ws1 : IntKind.i64.wrap ((c5 : Int) * 65536) = (c5 : Int) * 65536 := IntWalk.i64_in _ (by omega)
    have ws2 : IntKind.i64.wrap ((c6 : Int) * 256) = (c6 : Int) * 256 := IntWalk.i64_in _ (by omega)
    have ws3 : IntKind.i64.wrap ((an : Int)) = (an : Int) := IntWalk.i64_in _ (by omega)
    have wo := or3 c5 c6 c7 b5 b6 b7
    rw [← hdn] at wo
    clear hdn han2
    go_upto_region 8 with fail
    go_quiet (fail)
    have HX := Lib.hid (HX.out.drewN nq)
    have f0 : (wc.drewN nq).cell? ⟨g, 0, none⟩ = some (.int .u8 (c0 : Nat)) := e0
    have HF := Lib.hid (And.intro (show ∀ i, i < n → (wc.drewN nq).cell? ⟨g, i, none⟩ = some (.int .u8 ((l.getD i 0 : Nat) : Int)) from HF.out.2.1) HF.out)
    generalize wc.drewN nq = W8 at *
    clear e0 e4 e5 e6 e7 ws1 ws2 ws3 wo b4 b5 b6 b7 han
    have x128 := and128 c0 b0
    have hbb : Hid (badHead l = (decide (128 ≤ c0) || decide (32 < an) || decide (256 < dn))) := Lib.hid (by rw [HF.out.2.2.2.2.2.2, HC.out.1, HF.out.2.2.2.2.2.1, ← HC.out.2.1, ← HA.out.1, HF.out.2.2.2.2.1, ← HC.out.2.2.1, ← HC.out.2.2.2.1, ← HC.out.2.2.2.2, ← HA.out.2])
    go_upto_region 9 with fail
    go_cut [77] (fun s77 wx => W8 = wx ∧ s77 = .bool (badHead l))
    case first =>
     as_aux_lemma =>
      obtain ⟨y, hy⟩ : ∃ y, y = c0 / 128 * 128 := ⟨_, rfl⟩
      rw [← hy] at x128
      by_cases h1 : 128 ≤ c0
      · have t1 : ((y : Int) != 0) = true := by simp; omega
        have HB1 : Hid (badHead l = true) := Lib.hid (by rw [hbb.out]; simp [h1])
        clear h1 hy
        go_wp2_with fail
        go_meet
        exact ⟨rfl, by rw [HB1.out]⟩
      · have t1 : ((y : Int) != 0) = false := by simp; omega
        by_cases h2 : 32 < an
        · have t3 : decide ((32 : Int) < (an : Int)) = true := by simp; omega
          have HB1 : Hid (badHead l = true) := Lib.hid (by rw [hbb.out]; simp [h2])
          clear h1 h2 hy
          go_wp2_with fail
          go_meet
          exact ⟨rfl, by rw [HB1.out]⟩
        · have t3 : decide ((32 : Int) < (an : Int)) = false := by simp; omega
          have HB1 : Hid (badHead l = decide ((256 : Int) < (dn : Int))) := Lib.hid (by rw [hbb.out]; simp [h1, h2]; omega)
          clear h1 h2 hy
          go_wp2_with fail
          go_meet
          exact ⟨rfl, by rw [HB1.out]⟩
    case rest =>
      obtain ⟨rfl, rfl⟩ := hcut
      cases hbd : badHead l with
      | true =>
       as_aux_lemma =>
        have HBD := Lib.hid hbd
        clear hbd
        go_wp2_with fail
        refine (stop_any HX.out.rd).mono ?_
        rintro e W9 ⟨rfl, hs9, hb9⟩
        have HS := Lib.hid (And.intro hs9 hb9)
        clear hs9 hb9
        have HRes : Hid (IsBlk W9 R pdZ 28) := Lib.hid (HS.out.2.blk HX.out.res (fun e => blk_ne HX.out.rd.blk HX.out.res (by decide) e.symm))
        go_wp2_with (refine wpList_store_row (by rfl) 28 (.tmp 6) (.tmp 80) (by rfl) R pdZ (by rfl) (by rfl) 28 pdZ (by exact HRes.out) (by kernel_rfl) (by rfl) pdZ_one ?_)
        exact bodyPost_ret (v := .tuple #[.agg pdZ, .int .i64 3]) (results_cell_tmp Try.results16 _ _ R 28 pdZ _ (by rfl) (isBlk_setRow HRes.out _) _ (by rfl) Try.underlying28 rfl (by kernel_rfl)) rfl (HX.out.broken (by unfold findP; rw [if_neg (by have := HR.out.2.1; omega), HBD.out]; simp) HS.out.1 HS.out.2)
      | false =>
        have hq : c0 < 128 ∧ an ≤ 32 ∧ dn ≤ 256 := by
          have := hbb.out; rw [hbd] at this
          simp only [Bool.false_eq, Bool.or_eq_false_iff, decide_eq_false_iff_not] at this
          omega
        obtain ⟨q1, q2, q3⟩ := hq
        have HBD := Lib.hid hbd
        clear hbd x128 hbb
        have HAN : Hid (ahsN l = an ∧ dataN l = dn) := Lib.hid ⟨by rw [HF.out.2.2.2.2.2.1, HA.out.1, HC.out.2.1], by rw [HF.out.2.2.2.2.1, HA.out.2, HC.out.2.2.1, HC.out.2.2.2.1, HC.out.2.2.2.2]⟩
        obtain ⟨a0, ha0⟩ : ∃ a0 : Nat, 48 + (an : Int) = (a0 : Int) := ⟨48 + an, by omega⟩
        have ha1 : a0 = 48 + an := by omega
        have HA1 := Lib.hid ha1
        clear ha1
        go_upto_region 11 with fail
        rename_i K11 hK11
        have HK11 := Lib.hid hK11
        clear hK11
        go_wp2_with fail
        refine HK11.out _ _ ?_
        exact nxt_12 HX.out HR.out.2.1.symm hl HAN.out.1 HAN.out.2 q2 q3 (by rw [← HC.out.1]; exact q1) HBD.out HA1.out (by have := HR.out.2.2.2.1; have := HR.out.2.1; omega) HR.out.2.2.2.2 hlm HR.out.2.2.1
/-- Next, of a reader that is whole. -/
theorem next_any {w : World} {B rb : Nat} {v : Value} {tp : Option Addr} {l : List Nat} (hr : IsRd w B rb v tp l false) (hB : B ≤ w.heap.size) (hlm : l.length ≤ 140737488355328) (h d : Bool) : Calls Try.prog 16 #[.pointer (some ⟨rb, 0, none⟩), .bool h, .bool d] w (NextR w B rb l h d) := by
  by_cases hl : l.length < 48
  · exact next_short hr hl h d
  · exact next_long hr hB (by omega) hlm h d
end Go.Proofs.Ytaehaclmagnncaa
