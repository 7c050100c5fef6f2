/-
  disk: Flush.
  disk: New.
  disk: Crash.
  disk: one disk that the call made, its blocks unnamed; and stands.
  disk: a disk that keeps off blocks.
-/
import Derived.Test.YtkabkehfckbhcaaDoorMgC
import Derived.Deep.LoopGhost
import Derived.Test.YtkabkehfckbhcaaDoorMgA
namespace Go.Proofs.YtkabkehfckbhcaaDoor
set_option linter.unusedVariables false
set_option linter.unusedSimpArgs false
open Go.RowKit

/-- In the midst of a flush: k writes are firm. -/
def DK.mid (d : DK) (k : Nat) : DK := { d with firm := applyP d.firm (d.pend.take k) }
theorem mid_length (d : DK) (k : Nat) : (d.mid k).firm.length = d.firm.length := applyP_length _ _
theorem mid_succ (d : DK) (k : Nat) {x : Nat × List Nat} (hx : d.pend[k]? = some x) : (d.mid (k + 1)).firm = (d.mid k).firm.set x.1 x.2 := by
  have hk : k < d.pend.length := (List.getElem?_eq_some_iff.1 hx).1
  have e : d.pend.take (k + 1) = d.pend.take k ++ [x] := by rw [List.take_add_one, hx]; rfl
  show applyP d.firm (d.pend.take (k + 1)) = _
  rw [e, applyP_snoc]
  rfl
theorem wrF_info (x : Nat × List Nat) (h : x.2.length = 64) : (Tryd.prog.info? 97).map (·.size) = some (wrF x).length := by rw [wrF_length, h]; kernel_rfl
theorem wrF_info' (x : Nat × List Nat) (h : x.2.length = 64) : (Tryd.prog.info? 97).map (·.size) = some (wrF x).toArray.size := by
  rw [List.size_toArray]; exact wrF_info x h
theorem wrF_all (x : Nat × List Nat) : (wrF x).toArray.all (·.oneCell') = true := all_oneCell_toArray (wrF_one x)
def zeroWr : Array Value := (wrF (0, zeroPg)).toArray
theorem wr_sizes (x : Nat × List Nat) (h : x.2.length = 64) : zeroWr.size = (wrF x).toArray.size := by
  rw [zeroWr, List.size_toArray, List.size_toArray, wrF_length, wrF_length, h]
  rfl

theorem range_wr {w : World} {x : Nat} {q : Nat × List Nat} {t : TypeId} (h : IsBlk w x (wrF q).toArray t) : w.rangeAt x 1 (bv q.2) := fun j v hj => by
  refine h.cell (1 + j) ?_
  rw [List.getElem?_toArray, Nat.add_comm]
  exact hj

section
variable {w : World} {base db fb mb cap : Nat} {cv : Value} {d : DK}

/-- One more write made firm. -/
theorem IsDk.firm1 {w3 : World} {d1 d2 : DK} (h : IsDk w3 base db fb mb cap cv d1) {j : Nat} {p : List Nat} (hj : j < d1.firm.length) (hp : p.length = 64) (h2 : d2 = { d1 with firm := d1.firm.set j p }) :
    IsDk (w3.setCells fb (j * 64) (bv p)) base db fb mb cap cv d2 := by
  subst h2
  have hb : But (fun k => k = fb) w3 (w3.setCells fb (j * 64) (bv p)) := (But.refl (fun k => k = fb) w3).setCells (g := fb) rfl _ _
  have hne := h.mb_ne
  refine ⟨?_, ?_, h.cache.but hb (fun k hk e => (h.cv_ne hk).2.1 e), h.map.of_block (hb.block mb h.map.lt hne.2), ?_, ?_, ?_, h.f1, h.f2, h.bdb, h.bmb⟩
  · have := hb.blk h.blk (fun e => h.fb_ne e.symm)
    simpa only [List.length_set] using this
  · have := h.firm.set (by decide) hj p (by rw [pgF_length, hp]) (g := fb) rfl
    rw [List.length_set]
    exact this
  · intro x hx; rw [List.length_set]; exact h.pend x hx
  · rw [List.length_set]; exact h.n1
  · rw [List.length_set]; exact h.n2

theorem flush_fin {wr w4 : World} {a : Value} {d1 : DK} (h : IsDk wr base db fb mb cap a { d1 with firm := d1.cur }) (hb : But (fun k => k = db) wr (wr.setCell ⟨db, 1, none⟩ (.slice none 0 0))) (hm : IntMap w4 mb .i64 (fun _ => none)) (ht : MapTurned (wr.setCell ⟨db, 1, none⟩ (.slice none 0 0)) w4 mb) :
    IsDk w4 base db fb mb cap (.slice none 0 0) { d1 with firm := d1.cur, pend := [] } := by
  have hne := h.mb_ne
  refine ⟨?_, ?_, RowF.nil _ _ _ _ _, by rw [lastM_nil]; exact hm, (fun x hx => by cases hx), h.n1, h.n2, h.f1, h.f2, h.bdb, h.bmb⟩
  · exact (h.blk.set 1 (.slice none 0 0)).of_block (ht.2.2.2.2 db (fun e => hne.1 e.symm))
  · exact (h.firm.but hb (fun k hk => by simp [Value.ownBlock] at hk; subst hk; exact h.fb_ne)).of_block (fun k hk => ht.2.2.2.2 k (by simp [Value.ownBlock] at hk; subst hk; exact fun e => hne.2 e.symm))
theorem flush_but {w2 wr w3 w4 : World} (h1 : But (fun k => k = db) w w2) (h2 : But (fun k => k = fb) w2 wr) (h3 : But (fun k => k = db) wr w3) (ht : MapTurned w3 w4 mb) : But (fun k => k = db ∨ k = fb ∨ k = mb) w w4 :=
  (((h1.mono (fun k hk => .inl hk)).trans (h2.mono (fun k hk => .inr (.inl hk)))).trans (h3.mono (fun k hk => .inl hk))).trans ⟨ht.1, ht.2.1, ht.2.2.1, Nat.le_of_eq ht.2.2.2.1.symm, fun k _ hk => ht.2.2.2.2 k (fun e => hk (.inr (.inr e)))⟩

set_option maxRecDepth 100000 in
set_option maxHeartbeats 4000000 in
theorem flush_with {cv : Value} {d1 : DK} (hl : d1.pend.length < 1000001) (hst : Calls Tryd.prog 35 #[.pointer (some ⟨db, 0, none⟩)] w fun e w' => e = .returned .nilIface ∧ IsDk w' base db fb mb cap cv d1 ∧ But (fun k => k = db) w w') : Calls Tryd.prog 30 #[.pointer (some ⟨db, 0, none⟩)] w fun e w' => e = .returned .nilIface ∧ IsDk w' base db fb mb cap (.slice none 0 0) { d1 with firm := d1.cur, pend := [] } ∧ But (fun k => k = db ∨ k = fb ∨ k = mb) w w' := by
  go_enter Tryd.func30, Tryd.ntmps30
  go_upto_region 4 with (go_at_call 35; (with_reducible refine hst.mono ?_); rintro e w2 ⟨rfl, h2, hb2⟩)
  clear hst
  have c1 := h2.c1
  obtain ⟨a, cc, rfl⟩ := h2.cache.slice
  have hn2 := h2.n2
  have H2 := Lib.hid (And.intro h2 hb2)
  clear h2 hb2
  go_wp2
  go_loopw [16] (fun i wr => ∃ k : Nat, k ≤ d1.pend.length ∧ i = .int .i64 k ∧ Hid (IsDk wr base db fb mb cap (.slice a d1.pend.length cc) (d1.mid k) ∧ But (fun b => b = fb) w2 wr)) (fun i _ => d1.pend.length - (intOf i).toNat)
  case atStart => exact ⟨0, by omega, rfl, H2.out.1, But.refl _ _⟩
  case round =>
    obtain ⟨k, hk, rfl, HR⟩ := hrel
    by_cases hlt : k < d1.pend.length
    · have hx : d1.pend[k]? = some d1.pend[k] := List.getElem?_eq_getElem hlt
      generalize d1.pend[k] = x at hx
      have hxl : x.2.length = 64 := by
        have := H2.out.1.cache.1 x (List.mem_of_getElem? hx)
        rw [wrF_length] at this
        omega
      have hx1 : x.1 < d1.firm.length := H2.out.1.pend x (List.mem_of_getElem? hx)
      have hr0 := HR.out.1.cache.range (k := k) (x := x) (by decide) hx
      obtain ⟨g, cc', e, hrg, _⟩ := hr0
      injection e with e1 _ e3
      subst e1 e3
      have hcc1 : d1.pend.length ≤ cc := by
        obtain ⟨g', cap', cur', e, _, _, h5, _⟩ := H2.out.1.cache.block (by intro e; rw [e] at hlt; simp at hlt)
        injection e with _ _ e
        subst e
        exact h5
      have c0 := HR.out.1.c0
      rw [mid_length] at c0
      have HX := Lib.hid (And.intro hx (And.intro hxl (And.intro hx1 hrg)))
      clear hx hxl hx1 hrg
      go_upto_region 7 with (first
        | (refine wpList_load_mid (by rfl) 97 (.tmp 18) (by rfl) g (k * 65) (by rfl) (wrF x) _ HX.out.2.2.2 Tryd.underlying97 rfl (wrF_info x HX.out.2.1) ?_)
        | (refine wpList_alloc_info (by rfl) 97 (by rfl) (.agg zeroWr) zeroWr (by kernel_rfl) rfl ?_)
        | (refine wpList_store_row (by rfl) 97 (.tmp 5) (.tmp 19) (by rfl) wr.heap.size (wrF x).toArray (by rfl) (by rfl) 97 zeroWr (heap_alloc_new wr _) (wrF_info' x HX.out.2.1) (wr_sizes x HX.out.2.1) (wrF_all x) ?_))
      have hn : IsBlk ((wr.alloc (.cells zeroWr 97)).setRow wr.heap.size (wrF x).toArray) wr.heap.size (wrF x).toArray 97 := isBlk_setRow (IsBlk.new _ _ _) _
      have hnb : Below wr.heap.size wr ((wr.alloc (.cells zeroWr 97)).setRow wr.heap.size (wrF x).toArray) := below_setRow ((Below.refl _ _).alloc (Nat.le_refl _) _) _ (Nat.le_refl _) _
      generalize (wr.alloc (.cells zeroWr 97)).setRow wr.heap.size (wrF x).toArray = w3 at hn hnb ⊢
      have h3 := HR.out.1.below hnb
      have c03 := h3.c0
      rw [mid_length] at c03
      have HN := Lib.hid (And.intro hn (And.intro hnb h3))
      have hx1 := HX.out.2.2.1
      have hcap : d1.firm.length ≤ cap := by
        obtain ⟨g', cap', cur', e, _, _, h5, _⟩ := H2.out.1.firm.block (by intro e; rw [e] at hx1; simp at hx1)
        injection e with _ _ e
        subst e
        exact h5
      have ca := hn.cell 0 (v := .int .i64 ((x.1 : Nat) : Int)) rfl
      clear hnb h3 c0
      refine wp_region_held_drew (S := fun w' => w'.cell? ⟨db, 0, none⟩ = some (.slice (some ⟨fb, 0, none⟩) d1.firm.length cap) ∧ w'.cell? ⟨wr.heap.size, 0, none⟩ = some (.int .i64 ((x.1 : Nat) : Int)) ∧ IsBlk w' wr.heap.size (wrF x).toArray 97) (by kernel_rfl) ⟨c03, ca, hn⟩ (fun hHeld => ?_)
      clear hn
      refine wpAnyH_take (i := 0) (v := ?_) rfl (by kernel_rfl) (by kernel_rfl) (by kernel_rfl) (fun _ _ _ h => h) (Or.inl ⟨by rfl, ?_⟩) (by with_reducible assumption) ?_
      rotate_left
      · intro w hSw; (try dsimp only at hSw); (try go_split_ands); go_simp; (try with_reducible rfl)
      (try simp only [Act.put, List.getElem_toArray, List.getElem_cons_succ, List.getElem_cons_zero, List.setIfInBounds_toArray, List.set_cons_zero, List.set_cons_succ])
      refine wpAnyH_take (i := 1) (v := ?_) rfl (by kernel_rfl) (by kernel_rfl) (by kernel_rfl) (fun _ _ _ h => h) (Or.inl ⟨by rfl, ?_⟩) (by with_reducible assumption) ?_
      rotate_left
      · intro w hSw; (try dsimp only at hSw); (try go_split_ands); go_simp; (try with_reducible rfl)
      (try simp only [Act.put, List.getElem_toArray, List.getElem_cons_succ, List.getElem_cons_zero, List.setIfInBounds_toArray, List.set_cons_zero, List.set_cons_succ])
      refine wpAnyH_take (i := 2) (v := ?_) rfl (by kernel_rfl) (by kernel_rfl) (by kernel_rfl) (fun _ _ _ h => h) (Or.inl ⟨by rfl, ?_⟩) (by with_reducible assumption) ?_
      rotate_left
      · intro w hSw; (try dsimp only at hSw); (try go_split_ands); go_simp; (try with_reducible rfl)
      (try simp only [Act.put, List.getElem_toArray, List.getElem_cons_succ, List.getElem_cons_zero, List.setIfInBounds_toArray, List.set_cons_zero, List.set_cons_succ])
      refine wpAnyH_take (i := 3) (v := ?_) rfl (by kernel_rfl) (by kernel_rfl) (by kernel_rfl) (fun _ _ _ h => h) (Or.inl ⟨by rfl, ?_⟩) (by with_reducible assumption) ?_
      rotate_left
      · intro w hSw; (try dsimp only at hSw); (try go_split_ands); go_simp; (try with_reducible rfl)
      (try simp only [Act.put, List.getElem_toArray, List.getElem_cons_succ, List.getElem_cons_zero, List.setIfInBounds_toArray, List.set_cons_zero, List.set_cons_succ])
      refine wpAnyH_take (i := 4) (v := ?_) rfl (by kernel_rfl) (by kernel_rfl) (by kernel_rfl) (fun _ _ _ h => h) (Or.inl ⟨by rfl, ?_⟩) (by with_reducible assumption) ?_
      rotate_left
      · intro w hSw; (try dsimp only at hSw); (try go_split_ands); go_simp; (try with_reducible rfl)
      (try simp only [Act.put, List.getElem_toArray, List.getElem_cons_succ, List.getElem_cons_zero, List.setIfInBounds_toArray, List.set_cons_zero, List.set_cons_succ])
      refine wpAnyH_take (i := 5) (v := ?_) rfl (by kernel_rfl) (by kernel_rfl) (by kernel_rfl) (fun _ _ _ h => h) (Or.inl ⟨by rfl, ?_⟩) (by with_reducible assumption) ?_
      rotate_left
      · intro w hSw; (try dsimp only at hSw); (try go_split_ands); go_simp; (try with_reducible rfl)
      (try simp only [Act.put, List.getElem_toArray, List.getElem_cons_succ, List.getElem_cons_zero, List.setIfInBounds_toArray, List.set_cons_zero, List.set_cons_succ])
      refine wpAnyH_take (i := 6) (v := ?_) rfl (by kernel_rfl) (by kernel_rfl) (by kernel_rfl) (fun _ _ _ h => h) (Or.inl ⟨by rfl, ?_⟩) (by with_reducible assumption) ?_
      rotate_left
      · intro w hSw; (try dsimp only at hSw); (try go_split_ands); go_simp; (try with_reducible rfl)
      (try simp only [Act.put, List.getElem_toArray, List.getElem_cons_succ, List.getElem_cons_zero, List.setIfInBounds_toArray, List.set_cons_zero, List.set_cons_succ])
      refine wpAnyH_take (i := 7) (v := .agg (bv x.2).toArray) rfl (by kernel_rfl) (by kernel_rfl) (by kernel_rfl) (fun _ _ _ h => h) (yieldsIf_load_mid (by rfl) 48 (.tmp 26) (by rfl) wr.heap.size 1 (by rfl) (bv x.2) _ (fun w hS => range_wr hS.2.2) Tryd.underlying48 rfl (by rw [bv_length, HX.out.2.1]; kernel_rfl)) (by with_reducible assumption) ?_
      (try simp only [Act.put, List.getElem_toArray, List.getElem_cons_succ, List.getElem_cons_zero, List.setIfInBounds_toArray, List.set_cons_zero, List.set_cons_succ])
      refine wpAnyH_take (i := 8) (v := ?_) rfl (by kernel_rfl) (by kernel_rfl) (by kernel_rfl) (fun _ _ _ h => h) (Or.inl ⟨by rfl, ?_⟩) (by with_reducible assumption) ?_
      rotate_left
      · intro w hSw; (try dsimp only at hSw); (try go_split_ands); go_simp; (try with_reducible rfl)
      (try simp only [Act.put, List.getElem_toArray, List.getElem_cons_succ, List.getElem_cons_zero, List.setIfInBounds_toArray, List.set_cons_zero, List.set_cons_succ])
      refine wpAnyH_ready (rs := [9]) (by kernel_rfl) (by simp) ?_
      refine AllReadyH.cons rfl (fun K hK => ?_) AllReadyH.nil
      rw [if_pos (by rfl)]
      simp only [List.getElem_toArray, List.getElem_cons_succ, List.getElem_cons_zero]
      have hx0 : (d1.mid k).firm[x.1]? = some ((d1.mid k).firm.getD x.1 zeroPg) := by
        have : x.1 < (d1.mid k).firm.length := by rw [mid_length]; exact hx1
        simp [List.getD, List.getElem?_eq_getElem this]
      have hth := (HN.out.2.2.below ((Below.refl _ _).drew)).firm.range (k := x.1) (by decide) hx0
      obtain ⟨g5, c5, e5, _, hth⟩ := hth
      injection e5 with e5 _ _
      injection e5 with e5
      injection e5 with e5
      subst e5
      refine wp_store_mid 48 (.tmp 28) (.tmp 27) (by rfl) fb (x.1 * 64) (bv x.2).toArray (by rfl) (by rfl) (by rw [List.size_toArray, bv_length, HX.out.2.1]; exact hth) (by rw [List.size_toArray, bv_length, HX.out.2.1]; kernel_rfl) (all_oneCell_toArray (bv_one _)) ?_
      have hbs : But (fun b => b = fb) w3.drew (w3.drew.setCells fb (x.1 * 64) (bv x.2)) := (But.refl (fun b => b = fb) _).setCells (g := fb) rfl _ _
      have hnf : wr.heap.size ≠ fb := by have := HR.out.1.fb_lt; omega
      refine hK.out _ _ ⟨(hbs.cell (cell_lt hHeld.1) (fun e => HR.out.1.fb_ne e.symm)).trans hHeld.1, (hbs.cell (cell_lt hHeld.2.1) hnf).trans hHeld.2.1, hbs.blk hHeld.2.2 hnf⟩ (fun hHeld => ?_)
      clear hK K hHeld
      (try simp only [Act.put, List.getElem_toArray, List.getElem_cons_succ, List.getElem_cons_zero, List.setIfInBounds_toArray, List.set_cons_zero, List.set_cons_succ])
      refine wpAnyH_done (by kernel_rfl) ?_ _
      have hfin : IsDk (w3.drew.setCells fb (x.1 * 64) (bv x.2)) base db fb mb cap _ (d1.mid (k + 1)) := (HN.out.2.2.below ((Below.refl _ _).drew)).firm1 (by rw [mid_length]; exact hx1) HX.out.2.1 (by rw [← mid_succ d1 k HX.out.1]; rfl)
      have hbf : But (fun b => b = fb) w2 (w3.drew.setCells fb (x.1 * 64) (bv x.2)) := ((HR.out.2.trans (But.of_below HN.out.2.1 (Nat.le_refl _))).drew).trans hbs
      have HF := Lib.hid (And.intro hfin hbf)
      clear hfin hbf hbs hth
      go_wp2
      go_roundw
      case rel => exact ⟨k + 1, by omega, by go_num, HF.out⟩
      case measure => simp [intOf]; omega
    · obtain rfl : k = d1.pend.length := by omega
      have hmid : d1.mid d1.pend.length = { d1 with firm := d1.cur } := by unfold DK.mid; rw [List.take_length]; rfl
      rw [hmid] at HR
      have c1r := HR.out.1.c1
      have z1r := HR.out.1.fz 1
      have c2r := HR.out.1.c2
      go_upto_region 10 with fail
      have hb9 : But (fun k => k = db) wr (wr.setCell ⟨db, 1, none⟩ (.slice none 0 0)) := (But.refl (fun k => k = db) wr).setCell (p := ⟨db, 1, none⟩) rfl _
      have hmap9 : IntMap (wr.setCell ⟨db, 1, none⟩ (.slice none 0 0)) mb .i64 (lastM d1.pend) := HR.out.1.map.of_block (hb9.block mb HR.out.1.map.lt HR.out.1.mb_ne.1)
      obtain ⟨w4, hrun, hm4, ht4⟩ := run_clear_intMap (P := Tryd.prog) (t := 84) (kt := 3) (e := 3) Tryd.underlying84 hmap9 0
      have hfin : IsDk w4 base db fb mb cap (.slice none 0 0) { d1 with firm := d1.cur, pend := [] } := flush_fin HR.out.1 hb9 hm4 ht4
      have hbf : But (fun k => k = db ∨ k = fb ∨ k = mb) w w4 := flush_but H2.out.2 HR.out.2 hb9 ht4
      have HF := Lib.hid (And.intro hfin (And.intro hbf hrun))
      clear hfin hbf hrun hm4 ht4 hmap9
      have c2s : (wr.setCell ⟨db, 1, none⟩ (.slice none 0 0)).cell? ⟨db, 2, none⟩ = some (.map (some mb)) := (World.cell?_setCell_other _ _ _ _ (by intro e; cases e)).trans c2r
      go_wp2_with (refine wpList_clear (by rfl) 84 (.tmp 36) (by rfl) mb (by rfl) HF.out.2.2 ?_)
      go_ret
      exact ⟨rfl, HF.out.1, HF.out.2.1⟩

/-- Flush, whatever comes. -/
theorem flush_any (h : IsDk w base db fb mb cap cv d) (hl : d.pend.length < 1000001) : Calls Tryd.prog 30 #[.pointer (some ⟨db, 0, none⟩)] w fun e w' => ∃ v cv', e = .returned v ∧ IsRes w' v d.flushE ∧ IsDk w' base db fb mb cap cv' d.flush ∧ But (fun k => k = db ∨ k = fb ∨ k = mb) w w' ∧ (cv'.ownBlock = cv.ownBlock ∨ cv'.ownBlock = none) := by
  cases hm : d.may with
  | true =>
    have e1 : d.flushE = 0 := by simp [DK.flushE, hm]
    have hc : d.step.cur = d.cur := by unfold DK.cur; rw [(step_firm d).1, (step_firm d).2]
    have e2 : d.flush = { d.step with firm := d.step.cur, pend := [] } := by rw [hc]; simp [DK.flush, hm]
    rw [e1, e2]
    refine (flush_with (by rw [(step_firm d).2]; exact hl) (step_ok h hm)).mono ?_
    rintro e w' ⟨rfl, h1, h2⟩
    exact ⟨_, _, rfl, rfl, h1, h2, .inr rfl⟩
  | false =>
    have e1 : d.flushE = 10 := by simp [DK.flushE, hm]
    have e2 : d.flush = d.step := by simp [DK.flush, hm]
    rw [e1, e2]
    have hst := step_no h hm
    clear h
    go_enter Tryd.func30, Tryd.ntmps30
    go_wp2_with (go_at_call 35; (with_reducible refine hst.mono ?_); rintro e w2 ⟨b, rfl, hr, h2, hb2⟩; have H2 := Lib.hid (And.intro hr (And.intro h2 hb2)); clear hr h2 hb2)
    go_ret
    exact ⟨_, _, rfl, H2.out.1, H2.out.2.1, H2.out.2.2.mono (fun k hk => .inl hk), .inl rfl⟩
end
end Go.Proofs.YtkabkehfckbhcaaDoor

namespace Go.Proofs.YtkabkehfckbhcaaDoor
set_option linter.unusedVariables false
set_option linter.unusedSimpArgs false
open Go.RowKit

theorem pg_typ : ∃ it z, Tryd.prog.info? 48 = some it ∧ it.zero = some z ∧ it.size = 64 ∧ it.bytes = 64 ∧ z.cells = (pgF zeroPg).toArray := by
  have hA : (Tryd.prog.info? 48).bind (fun it => it.zero.map fun z => (it.size, it.bytes, z.cells)) = some (64, 64, (pgF zeroPg).toArray) := by kernel_rfl
  obtain ⟨it, h1, hA⟩ := Option.bind_eq_some_iff.1 hA
  obtain ⟨z, h2, h5⟩ := Option.map_eq_some_iff.1 hA
  exact ⟨it, z, h1, h2, congrArg Prod.fst h5, congrArg (fun x => x.2.1) h5, congrArg (fun x => x.2.2) h5⟩

/-- A disk that a call made: its blocks lie from B on. -/
structure MadeDk (B : Nat) (w : World) (db : Nat) (cap : Nat) (d : DK) : Prop where
  ex : ∃ fb mb cv, IsDk w B db fb mb cap cv d

set_option maxRecDepth 100000 in
set_option maxHeartbeats 4000000 in
theorem new_ok (w : World) (n : Nat) (h1 : 1 ≤ n) (h2 : n ≤ 4096) : Calls Tryd.prog 9 #[.int .i64 (n : Int)] w fun e w' => ∃ db fb mb cap, e = .returned (.tuple #[.pointer (some ⟨db, 0, none⟩), .nilIface]) ∧ IsDk w' w.heap.size db fb mb cap (.slice none 0 0) (DK.new n) ∧ Below w.heap.size w w' := by
  obtain ⟨it, z, hi1, hi2, hi3, hi4, hi5⟩ := pg_typ
  have HI := Lib.hid (And.intro hi1 (And.intro hi2 (And.intro hi3 (And.intro hi4 hi5))))
  have hby : it.bytes * n ≤ 281474976710656 := by rw [hi4]; omega
  have hmx : n ≤ maxLen := by unfold maxLen; omega
  have HB := Lib.hid (And.intro hby hmx)
  clear hi1 hi2 hi3 hi4 hi5 hby hmx
  have hn1 : ¬ ((n : Int) < 1) := by omega
  have hn2 : ¬ ((n : Int) > 4096) := by omega
  go_enter Tryd.func9, Tryd.ntmps9
  go_wp2_with (first
    | (refine wpList_makeMap (by rfl) 84 (by rfl) ?_)
    | (refine wpList_make_full w (by rfl) (.tmp 12) (.tmp 12) 41 (by rfl) w.heap.size 48 it z 64 Tryd.underlying41 HI.out.1 HI.out.2.1 HI.out.2.2.1 .i64 .i64 _ _ n (by rfl) (by rfl) rfl rfl HB.out.1 HB.out.2 (Nat.le_refl _) ?_; intro w1 q1 q2; have HQ := Lib.hid (And.intro q1 q2); clear q1 q2))
  go_ret2
  have hrow : RowF w1 w.heap.size 48 64 pgF (.slice (some ⟨w.heap.size, 0, none⟩) n n) (List.replicate n zeroPg) := RowF.made (by rfl) (by decide) HI.out.2.2.2.2 HQ.out.1
  have hb1 : Below w.heap.size w w1 := ⟨HQ.out.2.os, HQ.out.2.tape, HQ.out.2.output, HQ.out.2.size, fun k hk => HQ.out.2.block k hk (by simp)⟩
  have hb2 : Below w1.heap.size w1 (w1.alloc (.map #[] 0)) := (Below.refl _ _).alloc (Nat.le_refl _) _
  refine ⟨_, rfl, ⟨w.heap.size, w1.heap.size, n, ⟨?_, ?_, RowF.nil _ _ _ _ _, ?_, (fun x hx => by cases hx), ?_, ?_, (by show (-1 : Int) ≤ -1; omega), (by show (-1 : Int) ≤ 9223372036854775807; omega), ?_, hb1.size⟩⟩, ?_⟩
  · show IsBlk _ _ #[.slice (some ⟨w.heap.size, 0, none⟩) (List.replicate n zeroPg).length n, .slice none 0 0, .map (some w1.heap.size), .int .i64 (-1), .bool false] _
    rw [List.length_replicate]
    have := IsBlk.new (w1.alloc (.map #[] 0)) #[.slice (some ⟨w.heap.size, 0, none⟩) n n, .slice none 0 0, .map (some w1.heap.size), .int .i64 (-1), .bool false] 87
    rwa [show (w1.alloc (.map #[] 0)).heap.size = w1.heap.size + 1 by simp] at this
  · show RowF _ _ _ _ _ (.slice (some ⟨w.heap.size, 0, none⟩) (List.replicate n zeroPg).length n) (List.replicate n zeroPg)
    rw [List.length_replicate]
    exact (hrow.below hb2).below ((Below.refl _ _).alloc (Nat.le_refl _) _)
  · show IntMap _ _ _ (lastM [])
    rw [lastM_nil]
    exact (IntMap.new w1 .i64).of_below ((Below.refl _ _).alloc (Nat.le_refl _) _)
  · show 1 ≤ (List.replicate n zeroPg).length
    rw [List.length_replicate]; exact h1
  · show (List.replicate n zeroPg).length ≤ 4096
    rw [List.length_replicate]; exact h2
  · exact Nat.le_trans hb1.size (Nat.le_succ _)
  · exact (hb1.trans (hb2.mono hb1.size)).trans ((Below.refl _ _).alloc (Nat.le_trans hb1.size hb2.size) _)

theorem new_bad (w : World) (n : Int) (h : n < 1 ∨ 4096 < n) : Calls Tryd.prog 9 #[.int .i64 n] w fun e w' => ∃ v, e = .returned (.tuple #[.pointer none, v]) ∧ IsRes w' v 1 ∧ Below w.heap.size w w' := by
  by_cases h1 : n < 1
  · go_enter Tryd.func9, Tryd.ntmps9
    go_wp2_with (go_at_call 32; (with_reducible refine (in_arg _).mono ?_); rintro e w2 ⟨v, rfl, ⟨b, rfl, _⟩, hr, hb2⟩; have HR := Lib.hid (And.intro hr hb2); clear hr hb2)
    go_ret2
    exact ⟨_, rfl, HR.out.1, HR.out.2⟩
  · have h2 : n > 4096 := by omega
    clear h
    go_enter Tryd.func9, Tryd.ntmps9
    go_wp2_with (go_at_call 32; (with_reducible refine (in_arg _).mono ?_); rintro e w2 ⟨v, rfl, ⟨b, rfl, _⟩, hr, hb2⟩; have HR := Lib.hid (And.intro hr hb2); clear hr hb2)
    go_ret2
    exact ⟨_, rfl, HR.out.1, HR.out.2⟩
end Go.Proofs.YtkabkehfckbhcaaDoor

namespace Go.Proofs.YtkabkehfckbhcaaDoor
set_option linter.unusedVariables false
set_option linter.unusedSimpArgs false
open Go.RowKit

def boF (b : Bool) : List Value := [.bool b]
/-- Which places are picked. -/
def keptL (n : Nat) (pick : List Int) : List Bool := (List.range n).map fun (k : Nat) => pick.contains (k : Int)
theorem keptL_length (n : Nat) (pick : List Int) : (keptL n pick).length = n := by simp [keptL]
theorem keptL_get {n k : Nat} {pick : List Int} (h : k < n) : (keptL n pick)[k]? = some (pick.contains (k : Int)) := by simp [keptL, h]
theorem keptL_nil (n : Nat) : keptL n [] = List.replicate n false := by
  apply List.ext_getElem?
  intro i
  by_cases h : i < n
  · rw [keptL_get h, List.getElem?_replicate, if_pos h]; rfl
  · rw [List.getElem?_eq_none (by rw [keptL_length]; omega), List.getElem?_eq_none (by rw [List.length_replicate]; omega)]
theorem keptL_in {n q : Nat} (pick : List Int) (h : q < n) : keptL n (pick ++ [(q : Int)]) = (keptL n pick).set q true := by
  apply List.ext_getElem?
  intro i
  rw [List.getElem?_set]
  by_cases hi : i < n
  · rw [keptL_get hi, keptL_get hi]
    by_cases e : q = i
    · subst e
      rw [if_pos rfl, if_pos (by rw [keptL_length]; exact h)]
      simp
    · rw [if_neg e]
      have : ¬ ((i : Int) = (q : Int)) := by omega
      simp [List.contains_eq_mem, this]
  · rw [List.getElem?_eq_none (by rw [keptL_length]; omega), if_neg (by omega), List.getElem?_eq_none (by rw [keptL_length]; omega)]
theorem keptL_out {n : Nat} {z : Int} (pick : List Int) (h : z < 0 ∨ (n : Int) ≤ z) : keptL n (pick ++ [z]) = keptL n pick := by
  apply List.ext_getElem?
  intro i
  by_cases hi : i < n
  · rw [keptL_get hi, keptL_get hi]
    have : ¬ ((i : Int) = z) := by omega
    simp [List.contains_eq_mem, this]
  · rw [List.getElem?_eq_none (by rw [keptL_length]; omega), List.getElem?_eq_none (by rw [keptL_length]; omega)]
theorem bo_typ : ∃ it z, Tryd.prog.info? 4 = some it ∧ it.zero = some z ∧ it.size = 1 ∧ it.bytes = 1 ∧ z.cells = (boF false).toArray := by
  have hA : (Tryd.prog.info? 4).bind (fun it => it.zero.map fun z => (it.size, it.bytes, z.cells)) = some (1, 1, (boF false).toArray) := by kernel_rfl
  obtain ⟨it, h1, hA⟩ := Option.bind_eq_some_iff.1 hA
  obtain ⟨z, h2, h5⟩ := Option.map_eq_some_iff.1 hA
  exact ⟨it, z, h1, h2, congrArg Prod.fst h5, congrArg (fun x => x.2.1) h5, congrArg (fun x => x.2.2) h5⟩
theorem take_snoc {α : Type} {l : List α} {k : Nat} {x : α} (h : l[k]? = some x) : l.take (k + 1) = l.take k ++ [x] := by rw [List.take_add_one, h]; rfl
theorem pickP_append (l m : List (Nat × List Nat)) (pick : List Int) : ∀ k, pickP (l ++ m) pick k = pickP l pick k ++ pickP m pick (k + l.length) := by
  induction l with
  | nil => intro k; simp [pickP]
  | cons x r ih =>
    intro k
    rw [List.cons_append, pickP, ih, pickP, List.append_assoc, List.length_cons, show k + 1 + r.length = k + (r.length + 1) by omega]
theorem pickP_snoc (l : List (Nat × List Nat)) (pick : List Int) {k : Nat} {x : Nat × List Nat} (h : l[k]? = some x) : pickP (l.take (k + 1)) pick 0 = pickP (l.take k) pick 0 ++ if pick.contains (k : Int) then [x] else [] := by
  have hk : k < l.length := (List.getElem?_eq_some_iff.1 h).1
  rw [take_snoc h, pickP_append]
  simp [pickP, List.length_take, Nat.min_eq_left (Nat.le_of_lt hk)]

theorem own_pos {w : World} {base n size : Nat} {t : TypeId} {v : Value} {xs : List Value} (h : w.ownsRow base t size v n xs) (hn : 1 ≤ n) : ∃ g c, v = .slice (some ⟨g, 0, none⟩) n c := by
  obtain ⟨g, cap, cur, rfl, _⟩ := h.2.resolve_left (fun e => by have := e.2; omega)
  exact ⟨g, cap, rfl⟩
/-- A disk in the midst of a crash. -/
def DK.half (d : DK) (pick : List Int) (k : Nat) : DK := { firm := applyP d.firm (pickP (d.pend.take k) pick 0) }
theorem half_length (d : DK) (pick : List Int) (k : Nat) : (d.half pick k).firm.length = d.firm.length := applyP_length _ _
theorem half_in (d : DK) (pick : List Int) {k : Nat} {x : Nat × List Nat} (h : d.pend[k]? = some x) (hp : pick.contains (k : Int) = true) : d.half pick (k + 1) = { d.half pick k with firm := (d.half pick k).firm.set x.1 x.2 } := by
  unfold DK.half
  rw [pickP_snoc _ _ h, if_pos hp, applyP_snoc]
theorem half_out (d : DK) (pick : List Int) {k : Nat} {x : Nat × List Nat} (h : d.pend[k]? = some x) (hp : pick.contains (k : Int) = false) : d.half pick (k + 1) = d.half pick k := by
  unfold DK.half
  rw [pickP_snoc _ _ h, if_neg (by rw [hp]; decide), List.append_nil]

section
variable {w : World} {base db fb mb cap : Nat} {cv : Value} {d : DK}

/-- A disk just made, out of a row of sectors. -/
theorem made_dk {w2 : World} {B g2 k2 : Nat} {firm : List (List Nat)} (h : RowF w2 B 48 64 pgF (.slice (some ⟨g2, 0, none⟩) firm.length k2) firm) (hB : B ≤ w2.heap.size) (h1 : 1 ≤ firm.length) (h2 : firm.length ≤ 4096) :
    IsDk ((w2.alloc (.map #[] 0)).alloc (.cells #[.slice (some ⟨g2, 0, none⟩) firm.length k2, .slice none 0 0, .map (some w2.heap.size), .int .i64 (-1), .bool false] 87)) B (w2.heap.size + 1) g2 w2.heap.size k2 (.slice none 0 0) { firm := firm } := by
  have hb2 : Below w2.heap.size w2 (w2.alloc (.map #[] 0)) := (Below.refl _ _).alloc (Nat.le_refl _) _
  refine ⟨?_, (h.below hb2).below ((Below.refl _ _).alloc (Nat.le_refl _) _), RowF.nil _ _ _ _ _, ?_, (fun x hx => by cases hx), h1, h2, (by show (-1 : Int) ≤ -1; omega), (by show (-1 : Int) ≤ 9223372036854775807; omega), Nat.le_trans hB (Nat.le_succ _), hB⟩
  · have := IsBlk.new (w2.alloc (.map #[] 0)) #[.slice (some ⟨g2, 0, none⟩) firm.length k2, .slice none 0 0, .map (some w2.heap.size), .int .i64 (-1), .bool false] 87
    rwa [show (w2.alloc (.map #[] 0)).heap.size = w2.heap.size + 1 by simp] at this
  · show IntMap _ _ _ (lastM [])
    rw [lastM_nil]
    exact (IntMap.new w2 .i64).of_below ((Below.refl _ _).alloc (Nat.le_refl _) _)

set_option maxRecDepth 100000 in
set_option maxHeartbeats 4000000 in
theorem crash_any (h : IsDk w base db fb mb cap cv d) (hl : d.pend.length < 1000001) (pa : Option Addr) (pick : List Int) (pc : Nat) (hp : IsInts .i64 w pa pick) (hpl : pick.length ≤ 35184372088832) : Calls Tryd.prog 31 #[.pointer (some ⟨db, 0, none⟩), .slice pa pick.length pc] w fun e w' => ∃ eb fb' mb' cap', e = .returned (.pointer (some ⟨eb, 0, none⟩)) ∧ IsDk w' w.heap.size eb fb' mb' cap' (.slice none 0 0) (d.crash pick) ∧ Below w.heap.size w w' := by
  obtain ⟨it, z, hi1, hi2, hi3, hi4, hi5⟩ := bo_typ
  have HI := Lib.hid (And.intro hi1 (And.intro hi2 (And.intro hi3 (And.intro hi4 hi5))))
  have hby : it.bytes * d.pend.length ≤ 281474976710656 := by rw [hi4]; omega
  have hmx : d.pend.length ≤ maxLen := by unfold maxLen; omega
  have HB := Lib.hid (And.intro hby hmx)
  clear hi1 hi2 hi3 hi4 hi5 hby hmx
  have c1 := h.c1
  obtain ⟨a, cc, rfl⟩ := h.cache.slice
  have HH := Lib.hid (And.intro h hp)
  clear h hp
  go_enter Tryd.func31, Tryd.ntmps31
  go_wp2_with (refine wpList_make_full w (by rfl) (.tmp 17) (.tmp 17) 114 (by rfl) w.heap.size 4 it z 1 Tryd.underlying114 HI.out.1 HI.out.2.1 HI.out.2.2.1 .i64 .i64 _ _ d.pend.length (by rfl) (by rfl) rfl rfl HB.out.1 HB.out.2 (Nat.le_refl _) ?_; intro w1 q1 q2; have HQ := Lib.hid (And.intro q1 q2); clear q1 q2)
  have hk0 : RowF w1 w.heap.size 4 1 boF (.slice (some ⟨w.heap.size, 0, none⟩) d.pend.length d.pend.length) (keptL d.pend.length []) := by
    rw [keptL_nil]
    exact RowF.made (by rfl) (by decide) HI.out.2.2.2.2 HQ.out.1
  have hb1 : Below w.heap.size w w1 := ⟨HQ.out.2.os, HQ.out.2.tape, HQ.out.2.output, HQ.out.2.size, fun k hk => HQ.out.2.block k hk (by simp)⟩
  have HK := Lib.hid (And.intro hk0 hb1)
  clear hk0 hb1 HQ HI HB
  go_loopw [21] (fun i wr => ∃ j : Nat, j ≤ pick.length ∧ i = .int .i64 j ∧ Hid (RowF wr w.heap.size 4 1 boF (.slice (some ⟨w.heap.size, 0, none⟩) d.pend.length d.pend.length) (keptL d.pend.length (pick.take j)) ∧ Below w.heap.size w wr)) (fun i _ => pick.length - (intOf i).toNat)
  case atStart => exact ⟨0, by omega, rfl, HK.out.1, HK.out.2⟩
  case round =>
    obtain ⟨j, hj, rfl, HR⟩ := hrel
    by_cases hlt : j < pick.length
    · have hz : pick[j]? = some pick[j] := List.getElem?_eq_getElem hlt
      obtain ⟨bp, off, rfl, hbp, hcp⟩ := HH.out.2.2.resolve_left (by intro h; rw [h] at hlt; simp at hlt)
      have hc := (HR.out.2.cell (p := ⟨bp, off + j, none⟩) hbp).trans (hcp j hlt)
      have hzd : pick.getD j 0 = pick[j] := by simp [List.getD, hz]
      rw [hzd] at hc
      generalize pick[j] = z at hc hz
      have HT := Lib.hid (take_snoc hz)
      clear hz hzd hcp hbp
      by_cases hin : 0 ≤ z ∧ z < (d.pend.length : Int)
      · obtain ⟨h0, hzn⟩ := hin
        go_upto_region 8 with fail
        obtain ⟨q, rfl⟩ : ∃ q : Nat, z = (q : Int) := ⟨z.toNat, by omega⟩
        have hq : q < d.pend.length := by omega
        clear h0 hzn
        have hqk : (keptL d.pend.length (pick.take j))[q]? = some ((pick.take j).contains (q : Int)) := keptL_get hq
        obtain ⟨g, c5, e, hrg, hth⟩ := HR.out.1.range (k := q) (by decide) hqk
        injection e with e elen ecap
        clear elen ecap
        injection e with e
        injection e with e
        subst e
        have hcb0 := hrg 0 _ rfl
        have hzb := (hth 0 (by decide)).2
        rw [Nat.mul_one, Nat.add_zero] at hcb0 hzb
        obtain ⟨b0, hcb⟩ : ∃ b0, wr.cell? ⟨w.heap.size, q, none⟩ = some (.bool b0) := ⟨_, hcb0⟩
        clear hcb0
        have hst : RowF (wr.setCell ⟨w.heap.size, q, none⟩ (.bool true)) w.heap.size 4 1 boF (.slice (some ⟨w.heap.size, 0, none⟩) d.pend.length d.pend.length) (keptL d.pend.length (pick.take (j + 1))) := by
          have := HR.out.1.set (by decide) (k := q) (by rw [keptL_length]; exact hq) true rfl (g := w.heap.size) rfl
          rw [Nat.mul_one] at this
          rw [HT.out, keptL_in _ hq]
          exact this
        have hbs : Below w.heap.size w (wr.setCell ⟨w.heap.size, q, none⟩ (.bool true)) := HR.out.2.setCell (Nat.le_refl _) _
        have HS := Lib.hid (And.intro hst hbs)
        clear hst hbs hrg hth hqk
        go_wp2
        go_round
        case rel => exact ⟨j + 1, by omega, by go_num, HS.out⟩
        case measure => simp [intOf]; omega
      · have hout : z < 0 ∨ (0 ≤ z ∧ (d.pend.length : Int) ≤ z) := by omega
        have HS := Lib.hid (show RowF wr w.heap.size 4 1 boF (.slice (some ⟨w.heap.size, 0, none⟩) d.pend.length d.pend.length) (keptL d.pend.length (pick.take (j + 1))) by
          rw [HT.out, keptL_out _ (by omega)]; exact HR.out.1)
        clear hin
        rcases hout with hneg | ⟨h0, hge⟩
        · go_wp2
          go_round
          case rel => exact ⟨j + 1, by omega, by go_num, HS.out, HR.out.2⟩
          case measure => simp [intOf]; omega
        · go_wp2
          go_round
          case rel => exact ⟨j + 1, by omega, by go_num, HS.out, HR.out.2⟩
          case measure => simp [intOf]; omega
    · obtain rfl : j = pick.length := by omega
      rw [List.take_length] at HR
      have c1r := (HR.out.2.cell (p := ⟨db, 1, none⟩) (HH.out.1.blk.lt)).trans HH.out.1.c1
      have c0r := (HR.out.2.cell (p := ⟨db, 0, none⟩) (HH.out.1.blk.lt)).trans HH.out.1.c0
      clear hj hlt
      have hfr := HH.out.1.firm.below_ HR.out.2
      have hsrc : Src wr 64 (some ⟨fb, 0, none⟩) d.firm.length (d.firm.flatMap pgF) := hfr.src (by decide)
      obtain ⟨pt, pz, hi1, hi2, hi3, hi4, hi5⟩ := pg_typ
      have hi5' : pz.cells.size = 64 := by rw [hi5]; rfl
      have hone : ∀ u ∈ d.firm.flatMap pgF, u.oneCell' = true := fun u hu => by
        obtain ⟨q, _, hq⟩ := List.mem_flatMap.1 hu
        exact bv_one _ u hq
      have hn2 := HH.out.1.n2
      have HA := Lib.hid (And.intro hsrc (And.intro hi1 (And.intro hi2 (And.intro hi3 (And.intro hi4 (And.intro hi5' hone))))))
      clear hfr hsrc hi1 hi2 hi3 hi4 hi5 hi5' hone
      go_upto_region 11 with (first
        | (refine wpList_makeMap (by rfl) 84 (by rfl) ?_)
        | (refine wpList_append_src wr (by rfl) (.const (.slice none 0 0)) (.tmp 40) 41 (by rfl) w.heap.size 48 pt pz 64 64 Tryd.underlying41 HA.out.2.1 HA.out.2.2.1 HA.out.2.2.2.1 HA.out.2.2.2.2.1 HA.out.2.2.2.2.2.1 (by decide) (.slice none 0 0) 0 [] (by rfl) (World.ownsRow_nil _ _ _ _) _ d.firm.length cap (d.firm.flatMap pgF) (by rfl) HA.out.1 (by intro e; cases e) HA.out.2.2.2.2.2.2 (by unfold maxLen; omega) (by omega) HR.out.2.size ?_; intro v' w2 q1 q2 q3; rw [Nat.zero_add, List.nil_append] at q1; obtain ⟨g2, k2, rfl⟩ := own_pos q1 HH.out.1.n1; have HV := Lib.hid (And.intro q1 q2); clear q1 q2 q3))
      have hw2 : Below w.heap.size w w2 := HR.out.2.trans ((Below.refl w.heap.size wr).grown HV.out.2 HR.out.2.size (by intro k hk; cases hk))
      have hbA : Below w2.heap.size w2 ((w2.alloc (.map #[] 0)).alloc (.cells #[.slice (some ⟨g2, 0, none⟩) d.firm.length k2, .slice none 0 0, .map (some w2.heap.size), .int .i64 (-1), .bool false] 87)) := ((Below.refl _ _).alloc (Nat.le_refl _) _).alloc (by simp) _
      have hmd := made_dk (w2 := w2) (B := w.heap.size) (g2 := g2) (k2 := k2) (firm := d.firm) ⟨HH.out.1.firm.1, HV.out.1⟩ hw2.size HH.out.1.n1 HH.out.1.n2
      have hkp : RowF w2 w.heap.size 4 1 boF (.slice (some ⟨w.heap.size, 0, none⟩) d.pend.length d.pend.length) (keptL d.pend.length pick) := HR.out.1.of_block (fun k hk => HV.out.2.block k (HR.out.1.lt k hk) (by intro e; cases e))
      generalize (w2.alloc (.map #[] 0)).alloc (.cells #[.slice (some ⟨g2, 0, none⟩) d.firm.length k2, .slice none 0 0, .map (some w2.heap.size), .int .i64 (-1), .bool false] 87) = w4 at hbA hmd ⊢
      generalize w2.heap.size + 1 = eb at hmd ⊢
      have hb4 : Below w.heap.size w w4 := hw2.trans (hbA.mono hw2.size)
      have HE := Lib.hid (And.intro hmd (And.intro (hkp.below hbA) hb4))
      generalize w2.heap.size = mb2 at *
      have c14 := (hb4.cell (p := ⟨db, 1, none⟩) (HH.out.1.blk.lt)).trans HH.out.1.c1
      clear hw2 hbA hmd hkp hb4 HV HA c1r c0r
      go_wp2
      go_loopw [50] (fun i wr => ∃ k : Nat, k ≤ d.pend.length ∧ i = .int .i64 k ∧ Hid (IsDk wr w.heap.size eb g2 mb2 k2 (.slice none 0 0) (d.half pick k) ∧ RowF wr w.heap.size 4 1 boF (.slice (some ⟨w.heap.size, 0, none⟩) d.pend.length d.pend.length) (keptL d.pend.length pick) ∧ Below w.heap.size w wr)) (fun i _ => d.pend.length - (intOf i).toNat)
      case atStart => exact ⟨0, by omega, rfl, HE.out.1, HE.out.2.1, HE.out.2.2⟩
      case round =>
        obtain ⟨k, hk, rfl, HL⟩ := hrel
        by_cases hlt : k < d.pend.length
        · have hx : d.pend[k]? = some d.pend[k] := List.getElem?_eq_getElem hlt
          generalize d.pend[k] = x at hx
          have hxl : x.2.length = 64 := by
            have := HH.out.1.cache.1 x (List.mem_of_getElem? hx)
            rw [wrF_length] at this
            omega
          have hx1 : x.1 < d.firm.length := HH.out.1.pend x (List.mem_of_getElem? hx)
          have hr0 := (HH.out.1.cache.below HL.out.2.2).range (k := k) (x := x) (by decide) hx
          obtain ⟨g, cc', e, hrg, _⟩ := hr0
          injection e with e1 e2 e3
          clear e2
          subst e1 e3
          have hcc1 : d.pend.length ≤ cc := by
            obtain ⟨g', cap', cur', e, _, _, h5, _⟩ := HH.out.1.cache.block (by intro e; rw [e] at hlt; simp at hlt)
            injection e with _ _ e
            subst e
            exact h5
          have hqk : (keptL d.pend.length pick)[k]? = some (pick.contains (k : Int)) := keptL_get hlt
          have HX := Lib.hid (And.intro hx (And.intro hxl (And.intro hx1 (And.intro hrg hqk))))
          clear hx hxl hx1 hrg hqk
          go_upto_region 14 with (first
            | (refine wpList_load_mid (by rfl) 97 (.tmp 53) (by rfl) g (k * 65) (by rfl) (wrF x) _ HX.out.2.2.2.1 Tryd.underlying97 rfl (wrF_info x HX.out.2.1) ?_)
            | (refine wpList_alloc_info (by rfl) 97 (by rfl) (.agg zeroWr) zeroWr (by kernel_rfl) rfl ?_)
            | (refine wpList_store_row (by rfl) 97 (.tmp 10) (.tmp 54) (by rfl) _ (wrF x).toArray (by rfl) (by rfl) 97 zeroWr (heap_alloc_new _ _) (wrF_info' x HX.out.2.1) (wr_sizes x HX.out.2.1) (wrF_all x) ?_))
          have hn : IsBlk ((wr.alloc (.cells zeroWr 97)).setRow wr.heap.size (wrF x).toArray) wr.heap.size (wrF x).toArray 97 := isBlk_setRow (IsBlk.new _ _ _) _
          have hnb : Below wr.heap.size wr ((wr.alloc (.cells zeroWr 97)).setRow wr.heap.size (wrF x).toArray) := below_setRow ((Below.refl _ _).alloc (Nat.le_refl _) _) _ (Nat.le_refl _) _
          generalize (wr.alloc (.cells zeroWr 97)).setRow wr.heap.size (wrF x).toArray = w3 at hn hnb ⊢
          have h3 := HL.out.1.below hnb
          have c03 := h3.c0
          rw [half_length] at c03
          have hk3 := HL.out.2.1.below hnb
          have hb3 : Below w.heap.size w w3 := HL.out.2.2.trans (hnb.mono HL.out.2.2.size)
          have hkc := (hk3.range (by decide) HX.out.2.2.2.2)
          obtain ⟨g9, c9, e, hrg9, _⟩ := hkc
          injection e with e elen ecap
          clear elen ecap
          injection e with e
          injection e with e
          subst e
          have hkb := hrg9 0 _ rfl
          rw [Nat.mul_one, Nat.add_zero] at hkb
          have HN := Lib.hid (And.intro hn (And.intro hnb (And.intro h3 (And.intro hk3 hb3))))
          have hx1 := HX.out.2.2.1
          have hcap : d.firm.length ≤ k2 := by
            obtain ⟨g', cap', cur', e, _, _, h5, _⟩ := h3.firm.block (by intro e; have := h3.n1; rw [e] at this; simp at this)
            injection e with _ _ e
            subst e
            rwa [half_length] at h5
          have ca := hn.cell 0 (v := .int .i64 ((x.1 : Nat) : Int)) rfl
          clear hnb h3 hk3 hb3 hrg9
          cases hpc : pick.contains (k : Int) with
          | false =>
            have hkb' : w3.cell? ⟨w.heap.size, k, none⟩ = some (.bool false) := by rw [hkb, hpc]
            have HF := Lib.hid (show IsDk w3 w.heap.size eb g2 mb2 k2 (.slice none 0 0) (d.half pick (k + 1)) by rw [half_out d pick HX.out.1 hpc]; exact HN.out.2.2.1)
            clear hkb hn ca c03 hpc
            go_wp2
            go_round
            case rel => exact ⟨k + 1, by omega, by go_num, HF.out, HN.out.2.2.2.1, HN.out.2.2.2.2⟩
            case measure => simp [intOf]; omega
          | true =>
            have hkb' : w3.cell? ⟨w.heap.size, k, none⟩ = some (.bool true) := by rw [hkb, hpc]
            have HP := Lib.hid hpc
            clear hkb hpc
            go_upto_region 15 with fail
            refine wp_region_held_drew (S := fun w' => w'.cell? ⟨eb, 0, none⟩ = some (.slice (some ⟨g2, 0, none⟩) d.firm.length k2) ∧ w'.cell? ⟨wr.heap.size, 0, none⟩ = some (.int .i64 ((x.1 : Nat) : Int)) ∧ IsBlk w' wr.heap.size (wrF x).toArray 97) (by kernel_rfl) ⟨c03, ca, hn⟩ (fun hHeld => ?_)
            clear hn
            refine wpAnyH_take (i := 0) (v := ?_) rfl (by kernel_rfl) (by kernel_rfl) (by kernel_rfl) (fun _ _ _ h => h) (Or.inl ⟨by rfl, ?_⟩) (by with_reducible assumption) ?_
            rotate_left
            · intro w hSw; (try dsimp only at hSw); (try go_split_ands); go_simp; (try with_reducible rfl)
            (try simp only [Act.put, List.getElem_toArray, List.getElem_cons_succ, List.getElem_cons_zero, List.setIfInBounds_toArray, List.set_cons_zero, List.set_cons_succ])
            refine wpAnyH_take (i := 1) (v := ?_) rfl (by kernel_rfl) (by kernel_rfl) (by kernel_rfl) (fun _ _ _ h => h) (Or.inl ⟨by rfl, ?_⟩) (by with_reducible assumption) ?_
            rotate_left
            · intro w hSw; (try dsimp only at hSw); (try go_split_ands); go_simp; (try with_reducible rfl)
            (try simp only [Act.put, List.getElem_toArray, List.getElem_cons_succ, List.getElem_cons_zero, List.setIfInBounds_toArray, List.set_cons_zero, List.set_cons_succ])
            refine wpAnyH_take (i := 2) (v := ?_) rfl (by kernel_rfl) (by kernel_rfl) (by kernel_rfl) (fun _ _ _ h => h) (Or.inl ⟨by rfl, ?_⟩) (by with_reducible assumption) ?_
            rotate_left
            · intro w hSw; (try dsimp only at hSw); (try go_split_ands); go_simp; (try with_reducible rfl)
            (try simp only [Act.put, List.getElem_toArray, List.getElem_cons_succ, List.getElem_cons_zero, List.setIfInBounds_toArray, List.set_cons_zero, List.set_cons_succ])
            refine wpAnyH_take (i := 3) (v := ?_) rfl (by kernel_rfl) (by kernel_rfl) (by kernel_rfl) (fun _ _ _ h => h) (Or.inl ⟨by rfl, ?_⟩) (by with_reducible assumption) ?_
            rotate_left
            · intro w hSw; (try dsimp only at hSw); (try go_split_ands); go_simp; (try with_reducible rfl)
            (try simp only [Act.put, List.getElem_toArray, List.getElem_cons_succ, List.getElem_cons_zero, List.setIfInBounds_toArray, List.set_cons_zero, List.set_cons_succ])
            refine wpAnyH_take (i := 4) (v := ?_) rfl (by kernel_rfl) (by kernel_rfl) (by kernel_rfl) (fun _ _ _ h => h) (Or.inl ⟨by rfl, ?_⟩) (by with_reducible assumption) ?_
            rotate_left
            · intro w hSw; (try dsimp only at hSw); (try go_split_ands); go_simp; (try with_reducible rfl)
            (try simp only [Act.put, List.getElem_toArray, List.getElem_cons_succ, List.getElem_cons_zero, List.setIfInBounds_toArray, List.set_cons_zero, List.set_cons_succ])
            refine wpAnyH_take (i := 5) (v := ?_) rfl (by kernel_rfl) (by kernel_rfl) (by kernel_rfl) (fun _ _ _ h => h) (Or.inl ⟨by rfl, ?_⟩) (by with_reducible assumption) ?_
            rotate_left
            · intro w hSw; (try dsimp only at hSw); (try go_split_ands); go_simp; (try with_reducible rfl)
            (try simp only [Act.put, List.getElem_toArray, List.getElem_cons_succ, List.getElem_cons_zero, List.setIfInBounds_toArray, List.set_cons_zero, List.set_cons_succ])
            refine wpAnyH_take (i := 6) (v := ?_) rfl (by kernel_rfl) (by kernel_rfl) (by kernel_rfl) (fun _ _ _ h => h) (Or.inl ⟨by rfl, ?_⟩) (by with_reducible assumption) ?_
            rotate_left
            · intro w hSw; (try dsimp only at hSw); (try go_split_ands); go_simp; (try with_reducible rfl)
            (try simp only [Act.put, List.getElem_toArray, List.getElem_cons_succ, List.getElem_cons_zero, List.setIfInBounds_toArray, List.set_cons_zero, List.set_cons_succ])
            refine wpAnyH_take (i := 7) (v := .agg (bv x.2).toArray) rfl (by kernel_rfl) (by kernel_rfl) (by kernel_rfl) (fun _ _ _ h => h) (yieldsIf_load_mid (by rfl) 48 (.tmp 65) (by rfl) wr.heap.size 1 (by rfl) (bv x.2) _ (fun w hS => range_wr hS.2.2) Tryd.underlying48 rfl (by rw [bv_length, HX.out.2.1]; kernel_rfl)) (by with_reducible assumption) ?_
            (try simp only [Act.put, List.getElem_toArray, List.getElem_cons_succ, List.getElem_cons_zero, List.setIfInBounds_toArray, List.set_cons_zero, List.set_cons_succ])
            refine wpAnyH_take (i := 8) (v := ?_) rfl (by kernel_rfl) (by kernel_rfl) (by kernel_rfl) (fun _ _ _ h => h) (Or.inl ⟨by rfl, ?_⟩) (by with_reducible assumption) ?_
            rotate_left
            · intro w hSw; (try dsimp only at hSw); (try go_split_ands); go_simp; (try with_reducible rfl)
            (try simp only [Act.put, List.getElem_toArray, List.getElem_cons_succ, List.getElem_cons_zero, List.setIfInBounds_toArray, List.set_cons_zero, List.set_cons_succ])
            refine wpAnyH_ready (rs := [9]) (by kernel_rfl) (by simp) ?_
            refine AllReadyH.cons rfl (fun K hK => ?_) AllReadyH.nil
            rw [if_pos (by rfl)]
            simp only [List.getElem_toArray, List.getElem_cons_succ, List.getElem_cons_zero]
            have hx0 : (d.half pick k).firm[x.1]? = some ((d.half pick k).firm.getD x.1 zeroPg) := by
              have : x.1 < (d.half pick k).firm.length := by rw [half_length]; exact hx1
              simp [List.getD, List.getElem?_eq_getElem this]
            have hth := (HN.out.2.2.1.below ((Below.refl _ _).drew)).firm.range (k := x.1) (by decide) hx0
            obtain ⟨g5, c5, e5, _, hth⟩ := hth
            injection e5 with e5 e5a e5b
            clear e5a e5b
            injection e5 with e5
            injection e5 with e5
            subst e5
            refine wp_store_mid 48 (.tmp 67) (.tmp 66) (by rfl) g2 (x.1 * 64) (bv x.2).toArray (by rfl) (by rfl) (by rw [List.size_toArray, bv_length, HX.out.2.1]; exact hth) (by rw [List.size_toArray, bv_length, HX.out.2.1]; kernel_rfl) (all_oneCell_toArray (bv_one _)) ?_
            have hbs : But (fun b => b = g2) w3.drew (w3.drew.setCells g2 (x.1 * 64) (bv x.2)) := (But.refl (fun b => b = g2) _).setCells (g := g2) rfl _ _
            have hnf : wr.heap.size ≠ g2 := by have := HL.out.1.fb_lt; omega
            refine hK.out _ _ ⟨(hbs.cell (cell_lt hHeld.1) (fun e => HL.out.1.fb_ne e.symm)).trans hHeld.1, (hbs.cell (cell_lt hHeld.2.1) hnf).trans hHeld.2.1, hbs.blk hHeld.2.2 hnf⟩ (fun hHeld => ?_)
            clear hK K hHeld
            (try simp only [Act.put, List.getElem_toArray, List.getElem_cons_succ, List.getElem_cons_zero, List.setIfInBounds_toArray, List.set_cons_zero, List.set_cons_succ])
            refine wpAnyH_done (by kernel_rfl) ?_ _
            have hfin : IsDk (w3.drew.setCells g2 (x.1 * 64) (bv x.2)) w.heap.size eb g2 mb2 k2 (.slice none 0 0) (d.half pick (k + 1)) := (HN.out.2.2.1.below ((Below.refl _ _).drew)).firm1 (by rw [half_length]; exact hx1) HX.out.2.1 (half_in d pick HX.out.1 HP.out)
            have hkn : RowF (w3.drew.setCells g2 (x.1 * 64) (bv x.2)) w.heap.size 4 1 boF (.slice (some ⟨w.heap.size, 0, none⟩) d.pend.length d.pend.length) (keptL d.pend.length pick) := by
              refine (HN.out.2.2.2.1.below ((Below.refl _ _).drew)).but hbs (fun q hq e => ?_)
              obtain ⟨c1', hc1⟩ := HN.out.2.2.2.1.tag q hq
              obtain ⟨c2', hc2⟩ := HN.out.2.2.1.firm.tag g2 rfl
              rw [e, hc2] at hc1
              injection hc1 with hc1
              injection hc1 with _ hc1
              exact absurd hc1 (by decide)
            have hbf : Below w.heap.size w (w3.drew.setCells g2 (x.1 * 64) (bv x.2)) := (HN.out.2.2.2.2.drew).trans (hbs.below (Nat.le_trans HN.out.2.2.2.2.size (Nat.le_refl _)) (fun q hq => by rw [hq]; exact HL.out.1.fb_base))
            have HF := Lib.hid (And.intro hfin (And.intro hkn hbf))
            clear hfin hkn hbf hbs hth
            go_wp2
            go_roundw
            case rel => exact ⟨k + 1, by omega, by go_num, HF.out⟩
            case measure => simp [intOf]; omega
        · obtain rfl : k = d.pend.length := by omega
          have hend : d.half pick d.pend.length = d.crash pick := by unfold DK.half DK.crash; rw [List.take_length]
          rw [hend] at HL
          clear hk hlt
          go_wp2
          go_ret
          exact ⟨_, g2, mb2, k2, rfl, HL.out.1, HL.out.2.2⟩
end
end Go.Proofs.YtkabkehfckbhcaaDoor

namespace Go.Proofs.YtkabkehfckbhcaaDoor
set_option linter.unusedVariables false
set_option linter.unusedSimpArgs false
open Go.RowKit

/-- A disk whose blocks lie from B on. -/
def Dk (B : Nat) (w : World) (db : Nat) (d : DK) : Prop := ∃ fb mb cap cv, IsDk w B db fb mb cap cv d
theorem IsDk.base_mono {w : World} {B B' db fb mb cap : Nat} {cv : Value} {d : DK} (h : IsDk w B db fb mb cap cv d) (hb : B' ≤ B) : IsDk w B' db fb mb cap cv d :=
  ⟨h.blk, h.firm.mono hb, h.cache.mono hb, h.map, h.pend, h.n1, h.n2, h.f1, h.f2, Nat.le_trans hb h.bdb, Nat.le_trans hb h.bmb⟩
section
variable {B : Nat} {w w' : World} {db : Nat} {d : DK}
theorem Dk.below (h : Dk B w db d) (hb : Below w.heap.size w w') : Dk B w' db d := by
  obtain ⟨fb, mb, cap, cv, h⟩ := h
  exact ⟨fb, mb, cap, cv, h.below hb⟩
theorem Dk.write (h : Dk B w db d) (i : Int) (p : List Nat) (hp : p.length = 64) (hl : d.pend.length < 1000000) (hB : B ≤ w.heap.size) : Calls Tryd.prog 15 #[.pointer (some ⟨db, 0, none⟩), .int .i64 i, pgV p] w fun e w' => ∃ v, e = .returned v ∧ IsRes w' v (d.writeE i) ∧ Dk B w' db (d.write i p) ∧ Below B w w' := by
  obtain ⟨fb, mb, cap, cv, h⟩ := h
  refine (write_any h i p hp hl hB).mono ?_
  rintro e w' ⟨v, cv', rfl, h1, h2, h3, _⟩
  exact ⟨v, rfl, h1, ⟨_, _, _, _, h2⟩, h3.below hB (fun k hk => by
    rcases hk with rfl | rfl | hk
    · exact h.bdb
    · exact h.bmb
    · exact h.cache.base_le k hk)⟩
theorem Dk.flush (h : Dk B w db d) (hl : d.pend.length < 1000001) (hB : B ≤ w.heap.size) : Calls Tryd.prog 30 #[.pointer (some ⟨db, 0, none⟩)] w fun e w' => ∃ v, e = .returned v ∧ IsRes w' v d.flushE ∧ Dk B w' db d.flush ∧ Below B w w' := by
  obtain ⟨fb, mb, cap, cv, h⟩ := h
  refine (flush_any h hl).mono ?_
  rintro e w' ⟨v, cv', rfl, h1, h2, h3, _⟩
  exact ⟨v, rfl, h1, ⟨_, _, _, _, h2⟩, h3.below hB (fun k hk => by
    rcases hk with rfl | rfl | rfl
    · exact h.bdb
    · exact h.fb_base
    · exact h.bmb)⟩
theorem Dk.read (h : Dk B w db d) (i : Int) : Calls Tryd.prog 17 #[.pointer (some ⟨db, 0, none⟩), .int .i64 i] w fun e w' => ∃ v, e = .returned (.tuple #[pgV (d.read i), v]) ∧ IsRes w' v (d.readE i) ∧ Below w.heap.size w w' := by
  obtain ⟨fb, mb, cap, cv, h⟩ := h
  exact read_any h i
theorem Dk.crash (h : Dk B w db d) (hl : d.pend.length < 1000001) (pa : Option Addr) (pick : List Int) (pc : Nat) (hp : IsInts .i64 w pa pick) (hpl : pick.length ≤ 35184372088832) : Calls Tryd.prog 31 #[.pointer (some ⟨db, 0, none⟩), .slice pa pick.length pc] w fun e w' => ∃ eb, e = .returned (.pointer (some ⟨eb, 0, none⟩)) ∧ Dk w.heap.size w' eb (d.crash pick) ∧ Below w.heap.size w w' := by
  obtain ⟨fb, mb, cap, cv, h⟩ := h
  refine (crash_any h hl pa pick pc hp hpl).mono ?_
  rintro e w' ⟨eb, fb', mb', cap', rfl, h1, h2⟩
  exact ⟨eb, rfl, ⟨_, _, _, _, h1⟩, h2⟩
theorem Dk.off (h : Dk B w db d) : Calls Tryd.prog 34 #[.pointer (some ⟨db, 0, none⟩)] w fun e w' => e = .returned (.bool d.off) ∧ w' = w := by
  obtain ⟨fb, mb, cap, cv, h⟩ := h
  exact off_any h
theorem Dk.size (h : Dk B w db d) : Calls Tryd.prog 38 #[.pointer (some ⟨db, 0, none⟩)] w fun e w' => e = .returned (.int .i64 ((d.firm.length : Nat) : Int)) ∧ w' = w := by
  obtain ⟨fb, mb, cap, cv, h⟩ := h
  exact size_any h
end
theorem applyP_pages {l : List (Nat × List Nat)} : ∀ {f : List (List Nat)}, (∀ p ∈ f, p.length = 64) → (∀ x ∈ l, x.2.length = 64) → ∀ p ∈ applyP f l, p.length = 64 := by
  induction l with
  | nil => intro f hf _; exact hf
  | cons x r ih =>
    intro f hf hl
    rw [applyP_cons]
    refine ih (fun p hp => ?_) (fun y hy => hl y (List.mem_cons_of_mem _ hy))
    rcases List.mem_or_eq_of_mem_set hp with h | rfl
    · exact hf p h
    · exact hl x (by simp)
theorem IsDk.pages {w : World} {B db fb mb cap : Nat} {cv : Value} {d : DK} (h : IsDk w B db fb mb cap cv d) : (∀ p ∈ d.firm, p.length = 64) ∧ (∀ x ∈ d.pend, x.2.length = 64) :=
  ⟨fun p hp => by have := h.firm.1 p hp; rwa [pgF_length] at this, fun x hx => by have := h.cache.1 x hx; rw [wrF_length] at this; omega⟩
theorem Dk.read_length {B : Nat} {w : World} {db : Nat} {d : DK} (h : Dk B w db d) (i : Int) : (d.read i).length = 64 := by
  obtain ⟨fb, mb, cap, cv, h⟩ := h
  unfold DK.read
  split
  · by_cases hi : i.toNat < d.cur.length
    · have e : d.cur.getD i.toNat zeroPg = d.cur[i.toNat] := by simp [List.getD, List.getElem?_eq_getElem hi]
      rw [e]
      exact applyP_pages h.pages.1 h.pages.2 _ (List.getElem_mem hi)
    · have e : d.cur.getD i.toNat zeroPg = zeroPg := by simp [List.getD, List.getElem?_eq_none (show d.cur.length ≤ i.toNat by omega)]
      rw [e]; rfl
  · rfl
theorem new_D (w : World) (n : Nat) (h1 : 1 ≤ n) (h2 : n ≤ 4096) : Calls Tryd.prog 9 #[.int .i64 (n : Int)] w fun e w' => ∃ db, e = .returned (.tuple #[.pointer (some ⟨db, 0, none⟩), .nilIface]) ∧ Dk w.heap.size w' db (DK.new n) ∧ Below w.heap.size w w' := by
  refine (new_ok w n h1 h2).mono ?_
  rintro e w' ⟨db, fb, mb, cap, rfl, h, hb⟩
  exact ⟨db, rfl, ⟨_, _, _, _, h⟩, hb⟩

/-- A sector that begins so. -/
def pg1 (c : Nat) : List Nat := c :: List.replicate 63 0
theorem pg1_length (c : Nat) : (pg1 c).length = 64 := by simp [pg1]
theorem new5 (w : World) : Calls Tryd.prog 9 #[.int .i64 5] w fun e w' => ∃ db, e = .returned (.tuple #[.pointer (some ⟨db, 0, none⟩), .nilIface]) ∧ Dk w.heap.size w' db (DK.new 5) ∧ Below w.heap.size w w' := new_D w 5 (by decide) (by decide)
def D1 : DK := (DK.new 5).write 3 (pg1 1)
def D2 : DK := D1.flush
def D3 : DK := D2.write 3 (pg1 2)
def D4 : DK := D3.write 4 (pg1 3)
def D5 : DK := D4.crash [1]
theorem res_nil {w : World} {v : Value} (h : IsRes w v 0) : v = .nilIface := h
theorem num_nil (W : World) : Calls Tryd.prog 20 #[.nilIface] W fun ev w' => ev = .returned (.int .i64 0) ∧ w' = W := by
  go_enter Tryd.func20, Tryd.ntmps20
  go_wp2
  go_ret
  exact ⟨rfl, rfl⟩

theorem ints_one (w : World) (z : Int) (hz : (Lit.int .i64 z).wf = true) (t : TypeId) : IsInts .i64 (w.alloc (.cells #[.int .i64 z] t)) (some ⟨w.heap.size, 0, none⟩) [z] := by
  refine ⟨(fun y hy => by simp at hy; subst hy; exact hz), .inr ⟨w.heap.size, 0, rfl, by simp, fun i hi => ?_⟩⟩
  obtain rfl : i = 0 := by simp at hi; omega
  simp
theorem crash_one {B : Nat} {w : World} {db : Nat} (h : Dk B w db D4) : Calls Tryd.prog 31 #[.pointer (some ⟨db, 0, none⟩), .slice (some ⟨w.heap.size, 0, none⟩) 1 1] (w.alloc (.cells #[.int .i64 1] 3)) fun e w' => ∃ eb, e = .returned (.pointer (some ⟨eb, 0, none⟩)) ∧ Dk w.heap.size w' eb D5 ∧ Below w.heap.size w w' := by
  have hb : Below w.heap.size w (w.alloc (.cells #[.int .i64 1] 3)) := (Below.refl _ _).alloc (Nat.le_refl _) _
  have hc := (h.below hb).crash (by decide) (some ⟨w.heap.size, 0, none⟩) [1] 1 (ints_one w 1 (by decide) _) (by decide)
  refine hc.mono ?_
  rintro e w' ⟨eb, rfl, ⟨fb, mb, cap, cv, h1⟩, h2⟩
  exact ⟨eb, rfl, ⟨fb, mb, cap, cv, h1.base_mono (by simp)⟩, hb.trans (h2.mono (by simp))⟩

theorem nv_inj (k : IntKind) (l m : List Nat) : ((l.map fun (c : Nat) => (c : Int)) == (m.map fun (c : Nat) => (c : Int))) = (l == m) := by
  have h : ∀ l m : List Nat, (l.map fun (c : Nat) => (c : Int)) = (m.map fun (c : Nat) => (c : Int)) ↔ l = m := by
    intro l
    induction l with
    | nil => intro m; cases m <;> simp
    | cons x r ih => intro m; cases m with
      | nil => simp
      | cons y q => simp only [List.map_cons, List.cons.injEq, ih]; constructor <;> (rintro ⟨a, b⟩; exact ⟨by omega, b⟩)
  rw [Bool.eq_iff_iff]
  simp only [beq_iff_eq]
  exact h l m
/-- Two sectors compared. -/
theorem run_eql_pg (p q : List Nat) (hp : p.length = 64) (hq : q.length = 64) (w : World) : (Op.equal 48 (pgV p) (pgV q)).run Tryd.prog w = .ok (p == q) w := by
  have h := run_equalIn_array (P := Tryd.prog) (t := 48) (e := 5) (n := 64) (k := .u8) 9998 (by kernel_rfl) (by kernel_rfl) Tryd.sizeOf5
    (p.map fun (c : Nat) => (c : Int)) (q.map fun (c : Nat) => (c : Int)) (by rw [List.length_map, hp]) (by rw [List.length_map, hq]) w
  rw [nv_inj .u8, List.map_map, List.map_map] at h
  exact h
theorem binOp_eql_pg (p q : List Nat) : binOp .eql 48 (pgV p) (pgV q) = (do pure (.bool (← Op.equal 48 (pgV p) (pgV q)))) := rfl
theorem binOp_neq_pg (p q : List Nat) : binOp .neq 48 (pgV p) (pgV q) = (do pure (.bool (!(← Op.equal 48 (pgV p) (pgV q))))) := rfl
theorem eqGuard_pg (op : BinOp) (x y : Operand) (p q : List Nat) (w : World) : (eqGuard op 48 x y (pgV p) (pgV q)).run Tryd.prog w = .ok () w := run_eqGuard_agg _ op _ x y _ _ (by kernel_rfl)
set_option maxRecDepth 100000 in
theorem wp_neq_pg {o : Oper} {a : Act} {w : World} {K : Act → World → Prop} {Q : Exit → Act → World → Prop} (x y : Operand) (ho : o.op = .binOp .neq 48 x y 48) (p q : List Nat) (hp : p.length = 64) (hq : q.length = 64) (hx : a.eval x = pgV p) (hy : a.eval y = pgV q)
    (h : K (a.put o.dst (.bool (!(p == q)))) w) : o.wp Tryd.prog a w K Q := by
  unfold Oper.wp execOp
  simp only [ho, hx, hy, binOp_neq_pg, Sem.run_bind, Sem.run_pure, eqGuard_pg, run_eql_pg p q hp hq w, Result.andThen_ok]
  exact h
set_option maxRecDepth 100000 in
theorem wp_eql_pg {o : Oper} {a : Act} {w : World} {K : Act → World → Prop} {Q : Exit → Act → World → Prop} (x y : Operand) (ho : o.op = .binOp .eql 48 x y 48) (p q : List Nat) (hp : p.length = 64) (hq : q.length = 64) (hx : a.eval x = pgV p) (hy : a.eval y = pgV q)
    (h : K (a.put o.dst (.bool (p == q))) w) : o.wp Tryd.prog a w K Q := by
  unfold Oper.wp execOp
  simp only [ho, hx, hy, binOp_eql_pg, Sem.run_bind, Sem.run_pure, eqGuard_pg, run_eql_pg p q hp hq w, Result.andThen_ok]
  exact h
theorem wpList_eql_pg {ops : Array Oper} {rest : List Oper} {o : Oper} {a : Act} {w : World} {Q : Exit → Act → World → Prop} (hw : Region.wanted o (yielded ops a.tmps) = true) (x y : Operand) (ho : o.op = .binOp .eql 48 x y 48) (p q : List Nat) (hp : p.length = 64) (hq : q.length = 64) (hx : a.eval x = pgV p) (hy : a.eval y = pgV q)
    (h : wpList Tryd.prog ops Q rest (a.put o.dst (.bool (p == q))) w) : wpList Tryd.prog ops Q (o :: rest) a w :=
  wpList_wanted hw fun K hK => wp_eql_pg x y ho p q hp hq hx hy (hK _ _ h)
theorem wpList_neq_pg {ops : Array Oper} {rest : List Oper} {o : Oper} {a : Act} {w : World} {Q : Exit → Act → World → Prop} (hw : Region.wanted o (yielded ops a.tmps) = true) (x y : Operand) (ho : o.op = .binOp .neq 48 x y 48) (p q : List Nat) (hp : p.length = 64) (hq : q.length = 64) (hx : a.eval x = pgV p) (hy : a.eval y = pgV q)
    (h : wpList Tryd.prog ops Q rest (a.put o.dst (.bool (!(p == q)))) w) : wpList Tryd.prog ops Q (o :: rest) a w :=
  wpList_wanted hw fun K hK => wp_neq_pg x y ho p q hp hq hx hy (hK _ _ h)
/-- A variable with a sector laid into it. -/
theorem pg_var (w : World) (p : List Nat) : IsBlk ((w.alloc (.cells (nv .u8 zeroPg) 48)).setRow w.heap.size (nv .u8 p)) w.heap.size (nv .u8 p) 48 ∧ Below w.heap.size w ((w.alloc (.cells (nv .u8 zeroPg) 48)).setRow w.heap.size (nv .u8 p)) :=
  ⟨isBlk_setRow (IsBlk.new _ _ _) _, below_setRow ((Below.refl _ _).alloc (Nat.le_refl _) _) _ (Nat.le_refl _) _⟩

end Go.Proofs.YtkabkehfckbhcaaDoor

namespace Go.Proofs.YtkabkehfckbhcaaDoor
set_option linter.unusedVariables false
set_option linter.unusedSimpArgs false
open Go.RowKit

/-- A disk none of whose blocks is one of N's. -/
def DkN (N : Nat → Prop) (B : Nat) (w : World) (db : Nat) (d : DK) : Prop := ∃ fb mb cap cv, IsDk w B db fb mb cap cv d ∧ ¬ N db ∧ ¬ N fb ∧ ¬ N mb ∧ (∀ k, cv.ownBlock = some k → ¬ N k)
section
variable {N : Nat → Prop} {B : Nat} {w w' : World} {db : Nat} {d : DK}
theorem DkN.dk (h : DkN N B w db d) : Dk B w db d := by
  obtain ⟨fb, mb, cap, cv, h, _⟩ := h
  exact ⟨fb, mb, cap, cv, h⟩
theorem DkN.below (h : DkN N B w db d) (hb : Below w.heap.size w w') : DkN N B w' db d := by
  obtain ⟨fb, mb, cap, cv, h, hn⟩ := h
  exact ⟨fb, mb, cap, cv, h.below hb, hn⟩
theorem DkN.write (h : DkN N B w db d) (hN : ∀ k, N k → k < w.heap.size) (i : Int) (p : List Nat) (hp : p.length = 64) (hl : d.pend.length < 1000000) (hB : B ≤ w.heap.size) : Calls Tryd.prog 15 #[.pointer (some ⟨db, 0, none⟩), .int .i64 i, pgV p] w fun e w' => ∃ v, e = .returned v ∧ IsRes w' v (d.writeE i) ∧ DkN N B w' db (d.write i p) ∧ Below B w w' ∧ But (fun k => ¬ N k) w w' := by
  obtain ⟨fb, mb, cap, cv, h, n1, n2, n3, n4⟩ := h
  refine (write_any h i p hp hl hB).mono ?_
  rintro e w' ⟨v, cv', rfl, h1, h2, h3, h4⟩
  refine ⟨v, rfl, h1, ⟨_, _, _, _, h2, n1, n2, n3, fun k hk => ?_⟩, h3.below hB (fun k hk => by
    rcases hk with rfl | rfl | hk
    · exact h.bdb
    · exact h.bmb
    · exact h.cache.base_le k hk), ⟨h3.os, h3.tape, h3.output, h3.size, fun k hk hn => h3.block k hk (fun hs => by
      rcases hs with rfl | rfl | hs
      · exact hn n1
      · exact hn n3
      · exact hn (n4 k hs))⟩⟩
  rcases h4 with h4 | ⟨q, h4, hq⟩
  · exact n4 k (h4 ▸ hk)
  · rw [h4] at hk
    injection hk with hk
    subst hk
    exact fun hn => by have := hN _ hn; omega
theorem DkN.flush (h : DkN N B w db d) (hl : d.pend.length < 1000001) (hB : B ≤ w.heap.size) : Calls Tryd.prog 30 #[.pointer (some ⟨db, 0, none⟩)] w fun e w' => ∃ v, e = .returned v ∧ IsRes w' v d.flushE ∧ DkN N B w' db d.flush ∧ Below B w w' ∧ But (fun k => ¬ N k) w w' := by
  obtain ⟨fb, mb, cap, cv, h, n1, n2, n3, n4⟩ := h
  refine (flush_any h hl).mono ?_
  rintro e w' ⟨v, cv', rfl, h1, h2, h3, h4⟩
  refine ⟨v, rfl, h1, ⟨_, _, _, _, h2, n1, n2, n3, fun k hk => ?_⟩, h3.below hB (fun k hk => by
    rcases hk with rfl | rfl | rfl
    · exact h.bdb
    · exact h.fb_base
    · exact h.bmb), ⟨h3.os, h3.tape, h3.output, h3.size, fun k hk hn => h3.block k hk (fun hs => by
      rcases hs with rfl | rfl | rfl
      · exact hn n1
      · exact hn n2
      · exact hn n3)⟩⟩
  rcases h4 with h4 | h4
  · exact n4 k (h4 ▸ hk)
  · rw [h4] at hk
    cases hk
/-- The kept blocks changed: any that stand above this world. -/
theorem Dk.keep (h : Dk B w db d) : DkN (fun k => w.heap.size ≤ k) B w db d := by
  obtain ⟨fb, mb, cap, cv, h⟩ := h
  refine ⟨fb, mb, cap, cv, h, ?_, ?_, ?_, fun k hk => ?_⟩
  · have := h.blk.lt; omega
  · have := h.firm.lt fb rfl; omega
  · have := h.map.lt; omega
  · have := h.cache.lt k hk; omega
theorem DkN.fewer {N' : Nat → Prop} (h : DkN N B w db d) (hs : ∀ k, N' k → N k) : DkN N' B w db d := by
  obtain ⟨fb, mb, cap, cv, h, n1, n2, n3, n4⟩ := h
  exact ⟨fb, mb, cap, cv, h, fun x => n1 (hs _ x), fun x => n2 (hs _ x), fun x => n3 (hs _ x), fun k hk x => n4 k hk (hs _ x)⟩
end
end Go.Proofs.YtkabkehfckbhcaaDoor
