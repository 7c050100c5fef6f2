/-
  disk: the document's Flush and Crash.
-/
import Derived.Test.YtjmjfgbpjecgfaaDoorRdWrite
import Derived.Test.YtjmjfgbpjecgfaaDoorDkFn7
import Derived.Deep.LoopGhost
namespace Go.Proofs.YtjmjfgbpjecgfaaDoor
set_option linter.unusedVariables false
set_option linter.unusedSimpArgs false
open Go.RowKit

section
variable {w : World} {base rb fb cap : Nat} {av wv : Value} {d : DK}
/-- One more write made firm. -/
theorem IsRd.firm1 {w3 : World} {d1 d2 : DK} (h : IsRd w3 base rb fb cap av wv d1) {j : Nat} {p : List Nat} (hj : j < d1.firm.length) (hp : p.length = 64) (h2 : d2 = { d1 with firm := d1.firm.set j p }) :
    IsRd (w3.setCells fb (j * 64) (bv p)) base rb fb cap av wv d2 := by
  subst h2
  have hb : But (fun k => k = fb) w3 (w3.setCells fb (j * 64) (bv p)) := (But.refl (fun k => k = fb) w3).setCells (g := fb) rfl _ _
  refine ⟨?_, ?_, h.at_.but hb (fun k hk e => (h.av_ne hk).2.1 e), h.what.but hb (fun k hk e => (h.wv_ne hk).2.1 e), h.apart, ?_, ?_, ?_, h.f1, h.f2, h.brb⟩
  · have := hb.blk h.blk (fun e => h.fb_ne e.symm)
    simpa only [List.length_set] using this
  · have := h.firm.set (by decide) hj p (by rw [pgF_length, hp]) (g := fb) rfl
    rw [List.length_set]
    exact this
  · intro x hx; rw [List.length_set]; exact h.pend x hx
  · rw [List.length_set]; exact h.n1
  · rw [List.length_set]; exact h.n2
theorem IsRd.wlen (h : IsRd w base rb fb cap av wv d) {x : Nat × List Nat} (hx : x ∈ d.pend) : x.2.length = 64 := by
  have := h.what.1 x hx
  unfold whF at this
  rwa [bv_length] at this
/-- What a row of the k-th pending write holds. -/
theorem IsRd.atk (h : IsRd w base rb fb cap av wv d) {k : Nat} {x : Nat × List Nat} (hk : d.pend[k]? = some x) : ∃ ga ac, av = .slice (some ⟨ga, 0, none⟩) d.pend.length ac ∧ d.pend.length ≤ ac ∧ w.cell? ⟨ga, k, none⟩ = some (.int .i64 ((x.1 : Nat) : Int)) := by
  obtain ⟨g, cc, e, hrg, _⟩ := h.at_.range (by decide) hk
  obtain ⟨g', cap', cur', e', _, _, h5, _⟩ := h.at_.block (by intro e; rw [e] at hk; simp at hk)
  have hc : cap' = cc := by
    rw [e] at e'
    injection e' with _ _ e'
    exact e'.symm
  refine ⟨g, cc, e, by rw [← hc]; exact h5, ?_⟩
  have := hrg 0 _ rfl
  rwa [Nat.mul_one, Nat.add_zero] at this
theorem IsRd.whk (h : IsRd w base rb fb cap av wv d) {k : Nat} {x : Nat × List Nat} (hk : d.pend[k]? = some x) : ∃ gw wc, wv = .slice (some ⟨gw, 0, none⟩) d.pend.length wc ∧ d.pend.length ≤ wc ∧ w.rangeAt gw (k * 64) (bv x.2) := by
  obtain ⟨g, cc, e, hrg, _⟩ := h.what.range (by decide) hk
  obtain ⟨g', cap', cur', e', _, _, h5, _⟩ := h.what.block (by intro e; rw [e] at hk; simp at hk)
  have hc : cap' = cc := by
    rw [e] at e'
    injection e' with _ _ e'
    exact e'.symm
  exact ⟨g, cc, e, by rw [← hc]; exact h5, hrg⟩
theorem IsRd.fth (h : IsRd w base rb fb cap av wv d) {j : Nat} (hj : j < d.firm.length) : w.there fb (j * 64) 64 ∧ d.firm.length ≤ cap := by
  have hx0 : d.firm[j]? = some (d.firm.getD j zeroPg) := by simp [List.getD, List.getElem?_eq_getElem hj]
  obtain ⟨g5, c5, e5, _, hth⟩ := h.firm.range (k := j) (by decide) hx0
  injection e5 with e5 _ _
  injection e5 with e5
  injection e5 with e5
  subst e5
  obtain ⟨g', cap', cur', e, _, _, h5, _⟩ := h.firm.block (by intro e; rw [e] at hj; simp at hj)
  injection e with _ _ e
  subst e
  exact ⟨hth, h5⟩

set_option maxRecDepth 100000 in
set_option maxHeartbeats 4000000 in
theorem rflush_ok (h : IsRd w base rb fb cap av wv d) (hm : d.may = true) (ho : d.off = false) (hl : d.pend.length < 1000001) : Calls Tryd.prog 27 #[.pointer (some ⟨rb, 0, none⟩)] w fun e w' => e = .returned (.int .i64 0) ∧ IsRd w' base rb fb cap (.slice none 0 0) (.slice none 0 0) { d.step with firm := d.step.cur, pend := [] } ∧ But (fun k => k = rb ∨ k = fb) w w' := by
  have c4 := h.c4
  rw [ho] at c4
  have hst := ref_step h
  rw [hm] at hst
  have hl' : d.step.pend.length < 1000001 := by rw [(step_firm d).2]; exact hl
  clear h hm ho hl
  go_enter Tryd.func27, Tryd.ntmps27
  generalize d.step = d1 at *
  go_wp2_with (go_at_call 34; (with_reducible refine hst.mono ?_); rintro e w2 ⟨rfl, h2, hb2⟩; have H2 := Lib.hid (And.intro h2 hb2); clear h2 hb2)
  clear hst c4
  go_loopw [4] (fun i wr => ∃ k : Nat, k ≤ d1.pend.length ∧ i = .int .i64 k ∧ Hid (IsRd wr base rb fb cap av wv (d1.mid k) ∧ But (fun b => b = fb) w2 wr)) (fun i _ => d1.pend.length - (intOf i).toNat)
  case atStart => exact ⟨0, by omega, rfl, H2.out.1, But.refl _ _⟩
  case round =>
    obtain ⟨k, hk, rfl, HR⟩ := hrel
    obtain ⟨aa, ac, rfl⟩ := H2.out.1.at_.slice
    have c1 := HR.out.1.c1
    by_cases hlt : k < d1.pend.length
    · have hx : d1.pend[k]? = some d1.pend[k] := List.getElem?_eq_getElem hlt
      generalize d1.pend[k] = x at hx
      have hx1 : x.1 < d1.firm.length := H2.out.1.pend x (List.mem_of_getElem? hx)
      obtain ⟨ga, ac', e, hac, cat⟩ := HR.out.1.atk (k := k) (x := x) hx
      injection e with e1 _ e3
      subst e1 e3
      obtain ⟨gw, wc, rfl, hwc, hrg⟩ := HR.out.1.whk (k := k) (x := x) hx
      have hxl := HR.out.1.wlen (x := x) (List.mem_of_getElem? hx)
      have c0 := HR.out.1.c0
      have c2 := HR.out.1.c2
      rw [mid_length] at c0
      have hfl := (HR.out.1.fth (j := x.1) (by rw [mid_length]; exact hx1))
      rw [mid_length] at hfl
      obtain ⟨hth, hcap⟩ := hfl
      have hn2 := HR.out.1.n2
      rw [mid_length] at hn2
      have hxi : (x.1 : Int) < (d1.firm.length : Int) := by omega
      have hki : (k : Int) < (d1.pend.length : Int) := by omega
      have HX := Lib.hid (And.intro hx (And.intro hxl (And.intro hrg hth)))
      clear hx hxl hth
      go_upto_region 9 with fail
      refine wp_region_held_drew (S := fun w' => w'.cell? ⟨rb, 0, none⟩ = some (.slice (some ⟨fb, 0, none⟩) d1.firm.length cap) ∧ w'.cell? ⟨rb, 1, none⟩ = some (.slice (some ⟨ga, 0, none⟩) d1.pend.length ac) ∧ w'.cell? ⟨rb, 2, none⟩ = some (.slice (some ⟨gw, 0, none⟩) d1.pend.length wc) ∧ w'.cell? ⟨ga, k, none⟩ = some (.int .i64 ((x.1 : Nat) : Int)) ∧ w'.rangeAt gw (k * 64) (bv x.2)) (by kernel_rfl) ⟨c0, c1, c2, cat, hrg⟩ (fun hHeld => ?_)
      clear hrg c0 c1 c2 cat
      refine wpAnyH_take (i := 0) (v := ?_) rfl (by kernel_rfl) (by kernel_rfl) (by kernel_rfl) (fun _ _ _ h => h) (Or.inl ⟨by rfl, ?_⟩) (by with_reducible assumption) ?_
      rotate_left
      · intro w hSw; (try dsimp only at hSw); (try go_split_ands); go_simp; (try with_reducible rfl)
      (try simp only [Act.put, List.getElem_toArray, List.getElem_cons_succ, List.getElem_cons_zero, List.setIfInBounds_toArray, List.set_cons_zero, List.set_cons_succ])
      refine wpAnyH_take (i := 1) (v := ?_) rfl (by kernel_rfl) (by kernel_rfl) (by kernel_rfl) (fun _ _ _ h => h) (Or.inl ⟨by rfl, ?_⟩) (by with_reducible assumption) ?_
      rotate_left
      · intro w hSw; (try dsimp only at hSw); (try go_split_ands); go_simp; (try with_reducible rfl)
      (try simp only [Act.put, List.getElem_toArray, List.getElem_cons_succ, List.getElem_cons_zero, List.setIfInBounds_toArray, List.set_cons_zero, List.set_cons_succ])
      refine wpAnyH_take (i := 2) (v := ?_) rfl (by kernel_rfl) (by kernel_rfl) (by kernel_rfl) (fun _ _ _ h => h) (Or.inl ⟨by rfl, ?_⟩) (by with_reducible assumption) ?_
      rotate_left
      · intro w hSw; (try dsimp only at hSw); (try go_split_ands); go_simp; (try with_reducible rfl)
      (try simp only [Act.put, List.getElem_toArray, List.getElem_cons_succ, List.getElem_cons_zero, List.setIfInBounds_toArray, List.set_cons_zero, List.set_cons_succ])
      refine wpAnyH_take (i := 3) (v := ?_) rfl (by kernel_rfl) (by kernel_rfl) (by kernel_rfl) (fun _ _ _ h => h) (Or.inl ⟨by rfl, ?_⟩) (by with_reducible assumption) ?_
      rotate_left
      · intro w hSw; (try dsimp only at hSw); (try go_split_ands); go_simp; (try with_reducible rfl)
      (try simp only [Act.put, List.getElem_toArray, List.getElem_cons_succ, List.getElem_cons_zero, List.setIfInBounds_toArray, List.set_cons_zero, List.set_cons_succ])
      refine wpAnyH_take (i := 4) (v := ?_) rfl (by kernel_rfl) (by kernel_rfl) (by kernel_rfl) (fun _ _ _ h => h) (Or.inl ⟨by rfl, ?_⟩) (by with_reducible assumption) ?_
      rotate_left
      · intro w hSw; (try dsimp only at hSw); (try go_split_ands); go_simp; (try with_reducible rfl)
      (try simp only [Act.put, List.getElem_toArray, List.getElem_cons_succ, List.getElem_cons_zero, List.setIfInBounds_toArray, List.set_cons_zero, List.set_cons_succ])
      refine wpAnyH_take (i := 5) (v := ?_) rfl (by kernel_rfl) (by kernel_rfl) (by kernel_rfl) (fun _ _ _ h => h) (Or.inl ⟨by rfl, ?_⟩) (by with_reducible assumption) ?_
      rotate_left
      · intro w hSw; (try dsimp only at hSw); (try go_split_ands); go_simp; (try with_reducible rfl)
      (try simp only [Act.put, List.getElem_toArray, List.getElem_cons_succ, List.getElem_cons_zero, List.setIfInBounds_toArray, List.set_cons_zero, List.set_cons_succ])
      refine wpAnyH_take (i := 6) (v := ?_) rfl (by kernel_rfl) (by kernel_rfl) (by kernel_rfl) (fun _ _ _ h => h) (Or.inl ⟨by rfl, ?_⟩) (by with_reducible assumption) ?_
      rotate_left
      · intro w hSw; (try dsimp only at hSw); (try go_split_ands); go_simp; (try with_reducible rfl)
      (try simp only [Act.put, List.getElem_toArray, List.getElem_cons_succ, List.getElem_cons_zero, List.setIfInBounds_toArray, List.set_cons_zero, List.set_cons_succ])
      refine wpAnyH_take (i := 7) (v := ?_) rfl (by kernel_rfl) (by kernel_rfl) (by kernel_rfl) (fun _ _ _ h => h) (Or.inl ⟨by rfl, ?_⟩) (by with_reducible assumption) ?_
      rotate_left
      · intro w hSw; (try dsimp only at hSw); (try go_split_ands); go_simp; (try with_reducible rfl)
      (try simp only [Act.put, List.getElem_toArray, List.getElem_cons_succ, List.getElem_cons_zero, List.setIfInBounds_toArray, List.set_cons_zero, List.set_cons_succ])
      refine wpAnyH_take (i := 8) (v := ?_) rfl (by kernel_rfl) (by kernel_rfl) (by kernel_rfl) (fun _ _ _ h => h) (Or.inl ⟨by rfl, ?_⟩) (by with_reducible assumption) ?_
      rotate_left
      · intro w hSw; (try dsimp only at hSw); (try go_split_ands); go_simp; (try with_reducible rfl)
      (try simp only [Act.put, List.getElem_toArray, List.getElem_cons_succ, List.getElem_cons_zero, List.setIfInBounds_toArray, List.set_cons_zero, List.set_cons_succ])
      refine wpAnyH_take (i := 9) (v := ?_) rfl (by kernel_rfl) (by kernel_rfl) (by kernel_rfl) (fun _ _ _ h => h) (Or.inl ⟨by rfl, ?_⟩) (by with_reducible assumption) ?_
      rotate_left
      · intro w hSw; (try dsimp only at hSw); (try go_split_ands); go_simp; (try with_reducible rfl)
      (try simp only [Act.put, List.getElem_toArray, List.getElem_cons_succ, List.getElem_cons_zero, List.setIfInBounds_toArray, List.set_cons_zero, List.set_cons_succ])
      refine wpAnyH_take (i := 10) (v := ?_) rfl (by kernel_rfl) (by kernel_rfl) (by kernel_rfl) (fun _ _ _ h => h) (Or.inl ⟨by rfl, ?_⟩) (by with_reducible assumption) ?_
      rotate_left
      · intro w hSw; (try dsimp only at hSw); (try go_split_ands); go_simp; (try with_reducible rfl)
      (try simp only [Act.put, List.getElem_toArray, List.getElem_cons_succ, List.getElem_cons_zero, List.setIfInBounds_toArray, List.set_cons_zero, List.set_cons_succ])
      refine wpAnyH_take (i := 11) (v := ?_) rfl (by kernel_rfl) (by kernel_rfl) (by kernel_rfl) (fun _ _ _ h => h) (Or.inl ⟨by rfl, ?_⟩) (by with_reducible assumption) ?_
      rotate_left
      · intro w hSw; (try dsimp only at hSw); (try go_split_ands); go_simp; (try with_reducible rfl)
      (try simp only [Act.put, List.getElem_toArray, List.getElem_cons_succ, List.getElem_cons_zero, List.setIfInBounds_toArray, List.set_cons_zero, List.set_cons_succ])
      refine wpAnyH_take (i := 12) (v := ?_) rfl (by kernel_rfl) (by kernel_rfl) (by kernel_rfl) (fun _ _ _ h => h) (Or.inl ⟨by rfl, ?_⟩) (by with_reducible assumption) ?_
      rotate_left
      · intro w hSw; (try dsimp only at hSw); (try go_split_ands); go_simp; (try with_reducible rfl)
      (try simp only [Act.put, List.getElem_toArray, List.getElem_cons_succ, List.getElem_cons_zero, List.setIfInBounds_toArray, List.set_cons_zero, List.set_cons_succ])
      refine wpAnyH_take (i := 13) (v := ?_) rfl (by kernel_rfl) (by kernel_rfl) (by kernel_rfl) (fun _ _ _ h => h) (Or.inl ⟨by rfl, ?_⟩) (by with_reducible assumption) ?_
      rotate_left
      · intro w hSw; (try dsimp only at hSw); (try go_split_ands); go_simp; (try with_reducible rfl)
      (try simp only [Act.put, List.getElem_toArray, List.getElem_cons_succ, List.getElem_cons_zero, List.setIfInBounds_toArray, List.set_cons_zero, List.set_cons_succ])
      refine wpAnyH_take (i := 14) (v := ?_) rfl (by kernel_rfl) (by kernel_rfl) (by kernel_rfl) (fun _ _ _ h => h) (Or.inl ⟨by rfl, ?_⟩) (by with_reducible assumption) ?_
      rotate_left
      · intro w hSw; (try dsimp only at hSw); (try go_split_ands); go_simp; (try with_reducible rfl)
      (try simp only [Act.put, List.getElem_toArray, List.getElem_cons_succ, List.getElem_cons_zero, List.setIfInBounds_toArray, List.set_cons_zero, List.set_cons_succ])
      refine wpAnyH_take (i := 15) (v := ?_) rfl (by kernel_rfl) (by kernel_rfl) (by kernel_rfl) (fun _ _ _ h => h) (Or.inl ⟨by rfl, ?_⟩) (by with_reducible assumption) ?_
      rotate_left
      · intro w hSw; (try dsimp only at hSw); (try go_split_ands); go_simp; (try with_reducible rfl)
      (try simp only [Act.put, List.getElem_toArray, List.getElem_cons_succ, List.getElem_cons_zero, List.setIfInBounds_toArray, List.set_cons_zero, List.set_cons_succ])
      refine wpAnyH_take (i := 16) (v := ?_) rfl (by kernel_rfl) (by kernel_rfl) (by kernel_rfl) (fun _ _ _ h => h) (Or.inl ⟨by rfl, ?_⟩) (by with_reducible assumption) ?_
      rotate_left
      · intro w hSw; (try dsimp only at hSw); (try go_split_ands); go_simp; (try with_reducible rfl)
      (try simp only [Act.put, List.getElem_toArray, List.getElem_cons_succ, List.getElem_cons_zero, List.setIfInBounds_toArray, List.set_cons_zero, List.set_cons_succ])
      refine wpAnyH_take (i := 17) (v := .agg (bv x.2).toArray) rfl (by kernel_rfl) (by kernel_rfl) (by kernel_rfl) (fun _ _ _ h => h) (yieldsIf_load_mid (by rfl) 33 (.tmp 39) (by rfl) gw (k * 64) (by rfl) (bv x.2) _ (fun w hS => hS.2.2.2.2) Tryd.underlying33 rfl (by rw [bv_length, HX.out.2.1]; kernel_rfl)) (by with_reducible assumption) ?_
      (try simp only [Act.put, List.getElem_toArray, List.getElem_cons_succ, List.getElem_cons_zero, List.setIfInBounds_toArray, List.set_cons_zero, List.set_cons_succ])
      refine wpAnyH_take (i := 18) (v := ?_) rfl (by kernel_rfl) (by kernel_rfl) (by kernel_rfl) (fun _ _ _ h => h) (Or.inl ⟨by rfl, ?_⟩) (by with_reducible assumption) ?_
      rotate_left
      · intro w hSw; (try dsimp only at hSw); (try go_split_ands); go_simp; (try with_reducible rfl)
      (try simp only [Act.put, List.getElem_toArray, List.getElem_cons_succ, List.getElem_cons_zero, List.setIfInBounds_toArray, List.set_cons_zero, List.set_cons_succ])
      refine wpAnyH_ready (rs := [19]) (by kernel_rfl) (by simp) ?_
      refine AllReadyH.cons rfl (fun K9 hK9 => ?_) AllReadyH.nil
      rw [if_pos (by rfl)]
      simp only [List.getElem_toArray, List.getElem_cons_succ, List.getElem_cons_zero]
      refine wp_store_mid 33 (.tmp 41) (.tmp 40) (by rfl) fb (x.1 * 64) (bv x.2).toArray (by rfl) (by rfl) (by rw [List.size_toArray, bv_length, HX.out.2.1]; exact HX.out.2.2.2) (by rw [List.size_toArray, bv_length, HX.out.2.1]; kernel_rfl) (all_oneCell_toArray (bv_one _)) ?_
      have hbs : But (fun b => b = fb) wr.drew (wr.drew.setCells fb (x.1 * 64) (bv x.2)) := (But.refl (fun b => b = fb) _).setCells (g := fb) rfl _ _
      have hne1 := HR.out.1.fb_ne
      have hne2 : ga ≠ fb := fun e => (HR.out.1.av_ne (k := ga) rfl).2.1 e
      have hne3 : gw ≠ fb := fun e => (HR.out.1.wv_ne (k := gw) rfl).2.1 e
      have hd : IsRd wr.drew base rb fb cap (.slice (some ⟨ga, 0, none⟩) d1.pend.length ac) (.slice (some ⟨gw, 0, none⟩) d1.pend.length wc) (d1.mid k) := HR.out.1.below ((Below.refl _ _).drew)
      have hfin : IsRd (wr.drew.setCells fb (x.1 * 64) (bv x.2)) base rb fb cap (.slice (some ⟨ga, 0, none⟩) d1.pend.length ac) (.slice (some ⟨gw, 0, none⟩) d1.pend.length wc) (d1.mid (k + 1)) := hd.firm1 (by rw [mid_length]; exact hx1) HX.out.2.1 (by rw [← mid_succ d1 k HX.out.1]; rfl)
      refine hK9.out _ _ ⟨(hbs.cell (cell_lt hHeld.1) (fun e => hne1 e.symm)).trans hHeld.1, (hbs.cell (cell_lt hHeld.2.1) (fun e => hne1 e.symm)).trans hHeld.2.1, (hbs.cell (cell_lt hHeld.2.2.1) (fun e => hne1 e.symm)).trans hHeld.2.2.1, (hbs.cell (cell_lt hHeld.2.2.2.1) hne2).trans hHeld.2.2.2.1, ?_⟩ (fun hHeld => ?_)
      · obtain ⟨gw', wc', e, _, hr⟩ := hfin.whk (k := k) (x := x) HX.out.1
        injection e with e1 _ _
        injection e1 with e1
        injection e1 with e1
        subst e1
        exact hr
      clear hK9 K9 hHeld
      (try simp only [Act.put, List.getElem_toArray, List.getElem_cons_succ, List.getElem_cons_zero, List.setIfInBounds_toArray, List.set_cons_zero, List.set_cons_succ])
      refine wpAnyH_done (by kernel_rfl) ?_ _
      have hbf : But (fun b => b = fb) w2 (wr.drew.setCells fb (x.1 * 64) (bv x.2)) := (HR.out.2.drew).trans hbs
      have HF := Lib.hid (And.intro hfin hbf)
      clear hfin hbf hbs hd
      go_wp2
      go_roundw
      case rel => exact ⟨k + 1, by omega, by go_num, HF.out⟩
      case measure => simp [intOf]; omega
    · obtain rfl : k = d1.pend.length := by omega
      have hmid : d1.mid d1.pend.length = { d1 with firm := d1.cur } := by unfold DK.mid; rw [List.take_length]; rfl
      rw [hmid] at HR
      have z1 := HR.out.1.blk.fz 1
      have hs1 := HR.out.1.blk.set 1 (.slice none 0 0)
      have c2 := hs1.cell 2 (v := wv) rfl
      have z2 := hs1.fz 2
      have hs2 := hs1.set 2 (.slice none 0 0)
      have hb9 : But (fun k => k = rb) wr ((wr.setCell ⟨rb, 1, none⟩ (.slice none 0 0)).setCell ⟨rb, 2, none⟩ (.slice none 0 0)) := ((But.refl (fun k => k = rb) wr).setCell (p := ⟨rb, 1, none⟩) rfl _).setCell (p := ⟨rb, 2, none⟩) rfl _
      have HS := Lib.hid (And.intro hs2 hb9)
      clear hs1 hs2 hb9 hmid
      go_wp2
      go_ret
      refine ⟨rfl, ⟨HS.out.1, ?_, RowF.nil _ _ _ _ _, RowF.nil _ _ _ _ _, (by intro e; cases e), (fun x hx => by cases hx), HR.out.1.n1, HR.out.1.n2, H2.out.1.f1, H2.out.1.f2, H2.out.1.brb⟩, ?_⟩
      · exact HR.out.1.firm.but HS.out.2 (fun k hk e => HR.out.1.fb_ne (by simp [Value.ownBlock] at hk; omega))
      · exact ((H2.out.2.mono (fun k hk => .inl hk)).trans (HR.out.2.mono (fun k hk => .inr hk))).trans (HS.out.2.mono (fun k hk => .inl hk))
set_option maxHeartbeats 2000000 in
theorem rflush_no (h : IsRd w base rb fb cap av wv d) (hm : d.may = false) : Calls Tryd.prog 27 #[.pointer (some ⟨rb, 0, none⟩)] w fun e w' => e = .returned (.int .i64 10) ∧ IsRd w' base rb fb cap av wv d.step ∧ But (fun k => k = rb ∨ k = fb) w w' := by
  have c4 := h.c4
  have hst := ref_step h
  rw [hm] at hst
  have HH := Lib.hid h
  cases ho : d.off with
  | true =>
    have HS : Hid (d.step = d) := Lib.hid (by simp [DK.step, ho])
    rw [ho] at c4
    clear h hm ho hst
    go_enter Tryd.func27, Tryd.ntmps27
    go_wp2
    go_ret
    exact ⟨rfl, by rw [HS.out]; exact HH.out, But.refl _ _⟩
  | false =>
    rw [ho] at c4
    clear h hm ho
    go_enter Tryd.func27, Tryd.ntmps27
    go_wp2_with (go_at_call 34; (with_reducible refine hst.mono ?_); rintro e w2 ⟨rfl, h2, hb2⟩; have H2 := Lib.hid (And.intro h2 hb2); clear h2 hb2)
    go_ret
    exact ⟨rfl, H2.out.1, H2.out.2.mono (fun k hk => .inl hk)⟩
/-- Flush, whatever comes. -/
theorem ref_flush (h : IsRd w base rb fb cap av wv d) (hl : d.pend.length < 1000001) : Calls Tryd.prog 27 #[.pointer (some ⟨rb, 0, none⟩)] w fun e w' => e = .returned (.int .i64 ((d.flushE : Nat) : Int)) ∧ ∃ av' wv', IsRd w' base rb fb cap av' wv' d.flush ∧ But (fun k => k = rb ∨ k = fb) w w' ∧ (∀ k, av'.ownBlock = some k ∨ wv'.ownBlock = some k → av.ownBlock = some k ∨ wv.ownBlock = some k) := by
  cases hm : d.may with
  | true =>
    have ho : d.off = false := by simp [DK.may] at hm; exact hm.1
    have e1 : d.flushE = 0 := by simp [DK.flushE, hm]
    have hc : d.step.cur = d.cur := by unfold DK.cur; rw [(step_firm d).1, (step_firm d).2]
    have e2 : d.flush = { d.step with firm := d.step.cur, pend := [] } := by rw [hc]; simp [DK.flush, hm]
    rw [e1, e2]
    exact (rflush_ok h hm ho hl).mono fun e w' ⟨h0, h1, h2⟩ => ⟨h0, _, _, h1, h2, fun k hk => by rcases hk with hk | hk <;> cases hk⟩
  | false =>
    have e1 : d.flushE = 10 := by simp [DK.flushE, hm]
    have e2 : d.flush = d.step := by simp [DK.flush, hm]
    rw [e1, e2]
    exact (rflush_no h hm).mono fun e w' ⟨h0, h1, h2⟩ => ⟨h0, _, _, h1, h2, fun k hk => hk⟩
end
end Go.Proofs.YtjmjfgbpjecgfaaDoor
