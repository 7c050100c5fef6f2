/-
  disk: Flush.
-/
import Derived.Test.YtjmjfgbpjecgfaaDoorDkFn4
import Derived.Deep.LoopGhost
namespace Go.Proofs.YtjmjfgbpjecgfaaDoor
set_option linter.unusedVariables false
set_option linter.unusedSimpArgs false
open Go.RowKit

/-- In the midst of a flush: k writes are firm. -/
def DK.mid (d : DK) (k : Nat) : DK := { d with firm := applyP d.firm (d.pend.take k) }
theorem mid_length (d : DK) (k : Nat) : (d.mid k).firm.length = d.firm.length := applyP_length _ _
theorem mid_succ (d : DK) (k : Nat) {x : Nat × List Nat} (hx : d.pend[k]? = some x) : (d.mid (k + 1)).firm = (d.mid k).firm.set x.1 x.2 := by
  have hk : k < d.pend.length := (List.getElem?_eq_some_iff.1 hx).1
  have e : d.pend.take (k + 1) = d.pend.take k ++ [x] := by rw [List.take_add_one, hx]; rfl
  show applyP d.firm (d.pend.take (k + 1)) = _
  rw [e, applyP_snoc]
  rfl
theorem wrF_info (x : Nat × List Nat) (h : x.2.length = 64) : (Tryd.prog.info? 67).map (·.size) = some (wrF x).length := by rw [wrF_length, h]; kernel_rfl
theorem wrF_info' (x : Nat × List Nat) (h : x.2.length = 64) : (Tryd.prog.info? 67).map (·.size) = some (wrF x).toArray.size := by
  rw [List.size_toArray]; exact wrF_info x h
theorem wrF_all (x : Nat × List Nat) : (wrF x).toArray.all (·.oneCell') = true := all_oneCell_toArray (wrF_one x)
def zeroWr : Array Value := (wrF (0, zeroPg)).toArray
theorem wr_sizes (x : Nat × List Nat) (h : x.2.length = 64) : zeroWr.size = (wrF x).toArray.size := by
  rw [zeroWr, List.size_toArray, List.size_toArray, wrF_length, wrF_length, h]
  rfl

theorem range_wr {w : World} {x : Nat} {q : Nat × List Nat} {t : TypeId} (h : IsBlk w x (wrF q).toArray t) : w.rangeAt x 1 (bv q.2) := fun j v hj => by
  refine h.cell (1 + j) ?_
  rw [List.getElem?_toArray, Nat.add_comm]
  exact hj

section
variable {w : World} {base db fb mb cap : Nat} {cv : Value} {d : DK}

/-- One more write made firm. -/
theorem IsDk.firm1 {w3 : World} {d1 d2 : DK} (h : IsDk w3 base db fb mb cap cv d1) {j : Nat} {p : List Nat} (hj : j < d1.firm.length) (hp : p.length = 64) (h2 : d2 = { d1 with firm := d1.firm.set j p }) :
    IsDk (w3.setCells fb (j * 64) (bv p)) base db fb mb cap cv d2 := by
  subst h2
  have hb : But (fun k => k = fb) w3 (w3.setCells fb (j * 64) (bv p)) := (But.refl (fun k => k = fb) w3).setCells (g := fb) rfl _ _
  have hne := h.mb_ne
  refine ⟨?_, ?_, h.cache.but hb (fun k hk e => (h.cv_ne hk).2.1 e), h.map.of_block (hb.block mb h.map.lt hne.2), ?_, ?_, ?_, h.f1, h.f2, h.bdb, h.bmb⟩
  · have := hb.blk h.blk (fun e => h.fb_ne e.symm)
    simpa only [List.length_set] using this
  · have := h.firm.set (by decide) hj p (by rw [pgF_length, hp]) (g := fb) rfl
    rw [List.length_set]
    exact this
  · intro x hx; rw [List.length_set]; exact h.pend x hx
  · rw [List.length_set]; exact h.n1
  · rw [List.length_set]; exact h.n2

theorem flush_fin {wr w4 : World} {a : Value} {d1 : DK} (h : IsDk wr base db fb mb cap a { d1 with firm := d1.cur }) (hb : But (fun k => k = db) wr (wr.setCell ⟨db, 1, none⟩ (.slice none 0 0))) (hm : IntMap w4 mb .i64 (fun _ => none)) (ht : MapTurned (wr.setCell ⟨db, 1, none⟩ (.slice none 0 0)) w4 mb) :
    IsDk w4 base db fb mb cap (.slice none 0 0) { d1 with firm := d1.cur, pend := [] } := by
  have hne := h.mb_ne
  refine ⟨?_, ?_, RowF.nil _ _ _ _ _, by rw [lastM_nil]; exact hm, (fun x hx => by cases hx), h.n1, h.n2, h.f1, h.f2, h.bdb, h.bmb⟩
  · exact (h.blk.set 1 (.slice none 0 0)).of_block (ht.2.2.2.2 db (fun e => hne.1 e.symm))
  · exact (h.firm.but hb (fun k hk => by simp [Value.ownBlock] at hk; subst hk; exact h.fb_ne)).of_block (fun k hk => ht.2.2.2.2 k (by simp [Value.ownBlock] at hk; subst hk; exact fun e => hne.2 e.symm))
theorem flush_but {w2 wr w3 w4 : World} (h1 : But (fun k => k = db) w w2) (h2 : But (fun k => k = fb) w2 wr) (h3 : But (fun k => k = db) wr w3) (ht : MapTurned w3 w4 mb) : But (fun k => k = db ∨ k = fb ∨ k = mb) w w4 :=
  (((h1.mono (fun k hk => .inl hk)).trans (h2.mono (fun k hk => .inr (.inl hk)))).trans (h3.mono (fun k hk => .inl hk))).trans ⟨ht.1, ht.2.1, ht.2.2.1, Nat.le_of_eq ht.2.2.2.1.symm, fun k _ hk => ht.2.2.2.2 k (fun e => hk (.inr (.inr e)))⟩

set_option maxRecDepth 100000 in
set_option maxHeartbeats 4000000 in
theorem flush_with {cv : Value} {d1 : DK} (hl : d1.pend.length < 1000001) (hst : Calls Tryd.prog 24 #[.pointer (some ⟨db, 0, none⟩)] w fun e w' => e = .returned .nilIface ∧ IsDk w' base db fb mb cap cv d1 ∧ But (fun k => k = db) w w') : Calls Tryd.prog 12 #[.pointer (some ⟨db, 0, none⟩)] w fun e w' => e = .returned .nilIface ∧ IsDk w' base db fb mb cap (.slice none 0 0) { d1 with firm := d1.cur, pend := [] } ∧ But (fun k => k = db ∨ k = fb ∨ k = mb) w w' := by
  go_enter Tryd.func12, Tryd.ntmps12
  go_upto_region 4 with (go_at_call 24; (with_reducible refine hst.mono ?_); rintro e w2 ⟨rfl, h2, hb2⟩)
  clear hst
  have c1 := h2.c1
  obtain ⟨a, cc, rfl⟩ := h2.cache.slice
  have hn2 := h2.n2
  have H2 := Lib.hid (And.intro h2 hb2)
  clear h2 hb2
  go_wp2
  go_loopw [16] (fun i wr => ∃ k : Nat, k ≤ d1.pend.length ∧ i = .int .i64 k ∧ Hid (IsDk wr base db fb mb cap (.slice a d1.pend.length cc) (d1.mid k) ∧ But (fun b => b = fb) w2 wr)) (fun i _ => d1.pend.length - (intOf i).toNat)
  case atStart => exact ⟨0, by omega, rfl, H2.out.1, But.refl _ _⟩
  case round =>
    obtain ⟨k, hk, rfl, HR⟩ := hrel
    by_cases hlt : k < d1.pend.length
    · have hx : d1.pend[k]? = some d1.pend[k] := List.getElem?_eq_getElem hlt
      generalize d1.pend[k] = x at hx
      have hxl : x.2.length = 64 := by
        have := H2.out.1.cache.1 x (List.mem_of_getElem? hx)
        rw [wrF_length] at this
        omega
      have hx1 : x.1 < d1.firm.length := H2.out.1.pend x (List.mem_of_getElem? hx)
      have hr0 := HR.out.1.cache.range (k := k) (x := x) (by decide) hx
      obtain ⟨g, cc', e, hrg, _⟩ := hr0
      injection e with e1 _ e3
      subst e1 e3
      have hcc1 : d1.pend.length ≤ cc := by
        obtain ⟨g', cap', cur', e, _, _, h5, _⟩ := H2.out.1.cache.block (by intro e; rw [e] at hlt; simp at hlt)
        injection e with _ _ e
        subst e
        exact h5
      have c0 := HR.out.1.c0
      rw [mid_length] at c0
      have HX := Lib.hid (And.intro hx (And.intro hxl (And.intro hx1 hrg)))
      clear hx hxl hx1 hrg
      go_upto_region 7 with (first
        | (refine wpList_load_mid (by rfl) 67 (.tmp 18) (by rfl) g (k * 65) (by rfl) (wrF x) _ HX.out.2.2.2 Tryd.underlying67 rfl (wrF_info x HX.out.2.1) ?_)
        | (refine wpList_alloc_info (by rfl) 67 (by rfl) (.agg zeroWr) zeroWr (by kernel_rfl) rfl ?_)
        | (refine wpList_store_row (by rfl) 67 (.tmp 5) (.tmp 19) (by rfl) wr.heap.size (wrF x).toArray (by rfl) (by rfl) 67 zeroWr (heap_alloc_new wr _) (wrF_info' x HX.out.2.1) (wr_sizes x HX.out.2.1) (wrF_all x) ?_))
      have hn : IsBlk ((wr.alloc (.cells zeroWr 67)).setRow wr.heap.size (wrF x).toArray) wr.heap.size (wrF x).toArray 67 := isBlk_setRow (IsBlk.new _ _ _) _
      have hnb : Below wr.heap.size wr ((wr.alloc (.cells zeroWr 67)).setRow wr.heap.size (wrF x).toArray) := below_setRow ((Below.refl _ _).alloc (Nat.le_refl _) _) _ (Nat.le_refl _) _
      generalize (wr.alloc (.cells zeroWr 67)).setRow wr.heap.size (wrF x).toArray = w3 at hn hnb ⊢
      have h3 := HR.out.1.below hnb
      have c03 := h3.c0
      rw [mid_length] at c03
      have HN := Lib.hid (And.intro hn (And.intro hnb h3))
      have hx1 := HX.out.2.2.1
      have hcap : d1.firm.length ≤ cap := by
        obtain ⟨g', cap', cur', e, _, _, h5, _⟩ := H2.out.1.firm.block (by intro e; rw [e] at hx1; simp at hx1)
        injection e with _ _ e
        subst e
        exact h5
      have ca := hn.cell 0 (v := .int .i64 ((x.1 : Nat) : Int)) rfl
      clear hnb h3 c0
      refine wp_region_held_drew (S := fun w' => w'.cell? ⟨db, 0, none⟩ = some (.slice (some ⟨fb, 0, none⟩) d1.firm.length cap) ∧ w'.cell? ⟨wr.heap.size, 0, none⟩ = some (.int .i64 ((x.1 : Nat) : Int)) ∧ IsBlk w' wr.heap.size (wrF x).toArray 67) (by kernel_rfl) ⟨c03, ca, hn⟩ (fun hHeld => ?_)
      clear hn
      refine wpAnyH_take (i := 0) (v := ?_) rfl (by kernel_rfl) (by kernel_rfl) (by kernel_rfl) (fun _ _ _ h => h) (Or.inl ⟨by rfl, ?_⟩) (by with_reducible assumption) ?_
      rotate_left
      · intro w hSw; (try dsimp only at hSw); (try go_split_ands); go_simp; (try with_reducible rfl)
      (try simp only [Act.put, List.getElem_toArray, List.getElem_cons_succ, List.getElem_cons_zero, List.setIfInBounds_toArray, List.set_cons_zero, List.set_cons_succ])
      refine wpAnyH_take (i := 1) (v := ?_) rfl (by kernel_rfl) (by kernel_rfl) (by kernel_rfl) (fun _ _ _ h => h) (Or.inl ⟨by rfl, ?_⟩) (by with_reducible assumption) ?_
      rotate_left
      · intro w hSw; (try dsimp only at hSw); (try go_split_ands); go_simp; (try with_reducible rfl)
      (try simp only [Act.put, List.getElem_toArray, List.getElem_cons_succ, List.getElem_cons_zero, List.setIfInBounds_toArray, List.set_cons_zero, List.set_cons_succ])
      refine wpAnyH_take (i := 2) (v := ?_) rfl (by kernel_rfl) (by kernel_rfl) (by kernel_rfl) (fun _ _ _ h => h) (Or.inl ⟨by rfl, ?_⟩) (by with_reducible assumption) ?_
      rotate_left
      · intro w hSw; (try dsimp only at hSw); (try go_split_ands); go_simp; (try with_reducible rfl)
      (try simp only [Act.put, List.getElem_toArray, List.getElem_cons_succ, List.getElem_cons_zero, List.setIfInBounds_toArray, List.set_cons_zero, List.set_cons_succ])
      refine wpAnyH_take (i := 3) (v := ?_) rfl (by kernel_rfl) (by kernel_rfl) (by kernel_rfl) (fun _ _ _ h => h) (Or.inl ⟨by rfl, ?_⟩) (by with_reducible assumption) ?_
      rotate_left
      · intro w hSw; (try dsimp only at hSw); (try go_split_ands); go_simp; (try with_reducible rfl)
      (try simp only [Act.put, List.getElem_toArray, List.getElem_cons_succ, List.getElem_cons_zero, List.setIfInBounds_toArray, List.set_cons_zero, List.set_cons_succ])
      refine wpAnyH_take (i := 4) (v := ?_) rfl (by kernel_rfl) (by kernel_rfl) (by kernel_rfl) (fun _ _ _ h => h) (Or.inl ⟨by rfl, ?_⟩) (by with_reducible assumption) ?_
      rotate_left
      · intro w hSw; (try dsimp only at hSw); (try go_split_ands); go_simp; (try with_reducible rfl)
      (try simp only [Act.put, List.getElem_toArray, List.getElem_cons_succ, List.getElem_cons_zero, List.setIfInBounds_toArray, List.set_cons_zero, List.set_cons_succ])
      refine wpAnyH_take (i := 5) (v := ?_) rfl (by kernel_rfl) (by kernel_rfl) (by kernel_rfl) (fun _ _ _ h => h) (Or.inl ⟨by rfl, ?_⟩) (by with_reducible assumption) ?_
      rotate_left
      · intro w hSw; (try dsimp only at hSw); (try go_split_ands); go_simp; (try with_reducible rfl)
      (try simp only [Act.put, List.getElem_toArray, List.getElem_cons_succ, List.getElem_cons_zero, List.setIfInBounds_toArray, List.set_cons_zero, List.set_cons_succ])
      refine wpAnyH_take (i := 6) (v := ?_) rfl (by kernel_rfl) (by kernel_rfl) (by kernel_rfl) (fun _ _ _ h => h) (Or.inl ⟨by rfl, ?_⟩) (by with_reducible assumption) ?_
      rotate_left
      · intro w hSw; (try dsimp only at hSw); (try go_split_ands); go_simp; (try with_reducible rfl)
      (try simp only [Act.put, List.getElem_toArray, List.getElem_cons_succ, List.getElem_cons_zero, List.setIfInBounds_toArray, List.set_cons_zero, List.set_cons_succ])
      refine wpAnyH_take (i := 7) (v := .agg (bv x.2).toArray) rfl (by kernel_rfl) (by kernel_rfl) (by kernel_rfl) (fun _ _ _ h => h) (yieldsIf_load_mid (by rfl) 33 (.tmp 26) (by rfl) wr.heap.size 1 (by rfl) (bv x.2) _ (fun w hS => range_wr hS.2.2) Tryd.underlying33 rfl (by rw [bv_length, HX.out.2.1]; kernel_rfl)) (by with_reducible assumption) ?_
      (try simp only [Act.put, List.getElem_toArray, List.getElem_cons_succ, List.getElem_cons_zero, List.setIfInBounds_toArray, List.set_cons_zero, List.set_cons_succ])
      refine wpAnyH_take (i := 8) (v := ?_) rfl (by kernel_rfl) (by kernel_rfl) (by kernel_rfl) (fun _ _ _ h => h) (Or.inl ⟨by rfl, ?_⟩) (by with_reducible assumption) ?_
      rotate_left
      · intro w hSw; (try dsimp only at hSw); (try go_split_ands); go_simp; (try with_reducible rfl)
      (try simp only [Act.put, List.getElem_toArray, List.getElem_cons_succ, List.getElem_cons_zero, List.setIfInBounds_toArray, List.set_cons_zero, List.set_cons_succ])
      refine wpAnyH_ready (rs := [9]) (by kernel_rfl) (by simp) ?_
      refine AllReadyH.cons rfl (fun K hK => ?_) AllReadyH.nil
      rw [if_pos (by rfl)]
      simp only [List.getElem_toArray, List.getElem_cons_succ, List.getElem_cons_zero]
      have hx0 : (d1.mid k).firm[x.1]? = some ((d1.mid k).firm.getD x.1 zeroPg) := by
        have : x.1 < (d1.mid k).firm.length := by rw [mid_length]; exact hx1
        simp [List.getD, List.getElem?_eq_getElem this]
      have hth := (HN.out.2.2.below ((Below.refl _ _).drew)).firm.range (k := x.1) (by decide) hx0
      obtain ⟨g5, c5, e5, _, hth⟩ := hth
      injection e5 with e5 _ _
      injection e5 with e5
      injection e5 with e5
      subst e5
      refine wp_store_mid 33 (.tmp 28) (.tmp 27) (by rfl) fb (x.1 * 64) (bv x.2).toArray (by rfl) (by rfl) (by rw [List.size_toArray, bv_length, HX.out.2.1]; exact hth) (by rw [List.size_toArray, bv_length, HX.out.2.1]; kernel_rfl) (all_oneCell_toArray (bv_one _)) ?_
      have hbs : But (fun b => b = fb) w3.drew (w3.drew.setCells fb (x.1 * 64) (bv x.2)) := (But.refl (fun b => b = fb) _).setCells (g := fb) rfl _ _
      have hnf : wr.heap.size ≠ fb := by have := HR.out.1.fb_lt; omega
      refine hK.out _ _ ⟨(hbs.cell (cell_lt hHeld.1) (fun e => HR.out.1.fb_ne e.symm)).trans hHeld.1, (hbs.cell (cell_lt hHeld.2.1) hnf).trans hHeld.2.1, hbs.blk hHeld.2.2 hnf⟩ (fun hHeld => ?_)
      clear hK K hHeld
      (try simp only [Act.put, List.getElem_toArray, List.getElem_cons_succ, List.getElem_cons_zero, List.setIfInBounds_toArray, List.set_cons_zero, List.set_cons_succ])
      refine wpAnyH_done (by kernel_rfl) ?_ _
      have hfin : IsDk (w3.drew.setCells fb (x.1 * 64) (bv x.2)) base db fb mb cap _ (d1.mid (k + 1)) := (HN.out.2.2.below ((Below.refl _ _).drew)).firm1 (by rw [mid_length]; exact hx1) HX.out.2.1 (by rw [← mid_succ d1 k HX.out.1]; rfl)
      have hbf : But (fun b => b = fb) w2 (w3.drew.setCells fb (x.1 * 64) (bv x.2)) := ((HR.out.2.trans (But.of_below HN.out.2.1 (Nat.le_refl _))).drew).trans hbs
      have HF := Lib.hid (And.intro hfin hbf)
      clear hfin hbf hbs hth
      go_wp2
      go_roundw
      case rel => exact ⟨k + 1, by omega, by go_num, HF.out⟩
      case measure => simp [intOf]; omega
    · obtain rfl : k = d1.pend.length := by omega
      have hmid : d1.mid d1.pend.length = { d1 with firm := d1.cur } := by unfold DK.mid; rw [List.take_length]; rfl
      rw [hmid] at HR
      have c1r := HR.out.1.c1
      have z1r := HR.out.1.fz 1
      have c2r := HR.out.1.c2
      go_upto_region 10 with fail
      have hb9 : But (fun k => k = db) wr (wr.setCell ⟨db, 1, none⟩ (.slice none 0 0)) := (But.refl (fun k => k = db) wr).setCell (p := ⟨db, 1, none⟩) rfl _
      have hmap9 : IntMap (wr.setCell ⟨db, 1, none⟩ (.slice none 0 0)) mb .i64 (lastM d1.pend) := HR.out.1.map.of_block (hb9.block mb HR.out.1.map.lt HR.out.1.mb_ne.1)
      obtain ⟨w4, hrun, hm4, ht4⟩ := run_clear_intMap (P := Tryd.prog) (t := 62) (kt := 3) (e := 3) Tryd.underlying62 hmap9 0
      have hfin : IsDk w4 base db fb mb cap (.slice none 0 0) { d1 with firm := d1.cur, pend := [] } := flush_fin HR.out.1 hb9 hm4 ht4
      have hbf : But (fun k => k = db ∨ k = fb ∨ k = mb) w w4 := flush_but H2.out.2 HR.out.2 hb9 ht4
      have HF := Lib.hid (And.intro hfin (And.intro hbf hrun))
      clear hfin hbf hrun hm4 ht4 hmap9
      have c2s : (wr.setCell ⟨db, 1, none⟩ (.slice none 0 0)).cell? ⟨db, 2, none⟩ = some (.map (some mb)) := (World.cell?_setCell_other _ _ _ _ (by intro e; cases e)).trans c2r
      go_wp2_with (refine wpList_clear (by rfl) 62 (.tmp 36) (by rfl) mb (by rfl) HF.out.2.2 ?_)
      go_ret
      exact ⟨rfl, HF.out.1, HF.out.2.1⟩

/-- Flush, whatever comes. -/
theorem flush_any (h : IsDk w base db fb mb cap cv d) (hl : d.pend.length < 1000001) : Calls Tryd.prog 12 #[.pointer (some ⟨db, 0, none⟩)] w fun e w' => ∃ v cv', e = .returned v ∧ IsRes w' v d.flushE ∧ IsDk w' base db fb mb cap cv' d.flush ∧ But (fun k => k = db ∨ k = fb ∨ k = mb) w w' ∧ (cv'.ownBlock = cv.ownBlock ∨ cv'.ownBlock = none) := by
  cases hm : d.may with
  | true =>
    have e1 : d.flushE = 0 := by simp [DK.flushE, hm]
    have hc : d.step.cur = d.cur := by unfold DK.cur; rw [(step_firm d).1, (step_firm d).2]
    have e2 : d.flush = { d.step with firm := d.step.cur, pend := [] } := by rw [hc]; simp [DK.flush, hm]
    rw [e1, e2]
    refine (flush_with (by rw [(step_firm d).2]; exact hl) (step_ok h hm)).mono ?_
    rintro e w' ⟨rfl, h1, h2⟩
    exact ⟨_, _, rfl, rfl, h1, h2, .inr rfl⟩
  | false =>
    have e1 : d.flushE = 10 := by simp [DK.flushE, hm]
    have e2 : d.flush = d.step := by simp [DK.flush, hm]
    rw [e1, e2]
    have hst := step_no h hm
    clear h
    go_enter Tryd.func12, Tryd.ntmps12
    go_wp2_with (go_at_call 24; (with_reducible refine hst.mono ?_); rintro e w2 ⟨b, rfl, hr, h2, hb2⟩; have H2 := Lib.hid (And.intro hr (And.intro h2 hb2)); clear hr h2 hb2)
    go_ret
    exact ⟨_, _, rfl, H2.out.1, H2.out.2.1, H2.out.2.2.mono (fun k hk => .inl hk), .inl rfl⟩
end
end Go.Proofs.YtjmjfgbpjecgfaaDoor
