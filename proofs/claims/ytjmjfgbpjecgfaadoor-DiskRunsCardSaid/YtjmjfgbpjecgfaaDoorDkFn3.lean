/-
  disk: Write.
-/
import Derived.Test.YtjmjfgbpjecgfaaDoorDkFn2
import Derived.Test.YtjmjfgbpjecgfaaDoorFill
import Derived.Deep.RegionHeld3
namespace Go.Proofs.YtjmjfgbpjecgfaaDoor
set_option linter.unusedVariables false
set_option linter.unusedSimpArgs false
open Go.RowKit

theorem wr_info : (Tryd.prog.info? 67).map (fun i => (i.size, i.bytes)) = some (65, 72) := by kernel_rfl
/-- A pending write, built. -/
theorem built_wr (i : Nat) (p : List Nat) (hp : p.length = 64) : Tryd.prog.built 67 [(0, .int .i64 (i : Int)), (1, pgV p)] = some (wrF (i, p)).toArray := by
  have hA : (Tryd.prog.info? 67).bind (fun it => it.zero.map fun z => z.cells.size) = some 65 := by kernel_rfl
  have hB : (match Tryd.prog.underlying 67 with | some (.struct fields) => fields.toList.mapM (fun f => (Tryd.prog.info? f.type).map fun i => (f.offset, i.size)) | _ => none) = some [(0, 1), (1, 64)] := by kernel_rfl
  obtain ⟨it, h1, hA⟩ := Option.bind_eq_some_iff.1 hA
  obtain ⟨z, h2, h5⟩ := Option.map_eq_some_iff.1 hA
  unfold Program.built
  cases hu : Tryd.prog.underlying 67 with
  | none => rw [hu] at hB; cases hB
  | some ds =>
  rw [hu] at hB
  cases ds with
  | struct fields =>
  simp only at hB
  simp only [h1, h2, hB]
  have hn : (nv .u8 p).size = 64 := by rw [nv_size]; exact hp
  exact fill_two _ _ _ rfl (nv .u8 p) rfl (by rw [hn]; rfl) (by rw [hn, h5])
  | _ => simp at hB
theorem run_wr_slice (w : World) (i : Nat) (p : List Nat) (hp : p.length = 64) : (Instr.buildSlice 63 1 #[(0, .agg (wrF (i, p)).toArray)]).run Tryd.prog w = .ok (.slice (some ⟨w.heap.size, 0, none⟩) 1 1) (w.alloc (.cells (wrF (i, p)).toArray 67)) := by
  have hA : (Tryd.prog.info? 67).bind (fun it => it.zero.map fun z => (it.size, z.cells.size)) = some (65, 65) := by kernel_rfl
  obtain ⟨it, h1, hA⟩ := Option.bind_eq_some_iff.1 hA
  obtain ⟨z, h2, h5⟩ := Option.map_eq_some_iff.1 hA
  have h6 : z.cells.size = 65 := congrArg Prod.snd h5
  replace h5 : it.size = 65 := congrArg Prod.fst h5
  have hn : (wrF (i, p)).toArray.size = 65 := by
    have := wrF_length (i, p)
    simp only [hp] at this
    simpa using this
  refine run_buildSlice w _ 67 1 _ _ it z Tryd.underlying63 h1 h2 (by rw [h5]; omega) (by rw [h5]; omega) ?_
  have hsz : ((Array.range (1 * it.size)).map (fun x => z.cells[x % z.cells.size]!)).size = (wrF (i, p)).toArray.size := by rw [Array.size_map, Array.size_range, h5, hn]
  exact fill_one _ _ _ (by rw [hn, h5]) hsz
theorem wrF_one (x : Nat × List Nat) : ∀ u ∈ wrF x, u.oneCell' = true := by
  intro u hu
  simp only [wrF, List.mem_cons] at hu
  rcases hu with rfl | hu
  · rfl
  · exact bv_one _ u hu

section
variable {w : World} {base db fb mb cap : Nat} {cv : Value} {d : DK}

theorem last_put {w : World} {mb : Nat} {l : List (Nat × List Nat)} (h : IntMap w mb .i64 (lastM l)) (i : Nat) (p : List Nat) : ∃ w', (Instr.mapUpdate 62 (.map (some mb)) (.int .i64 (i : Int)) (.int .i64 ((l.length : Nat) : Int))).run Tryd.prog w = .ok () w' ∧ IntMap w' mb .i64 (lastM (l ++ [(i, p)])) ∧ MapTurned w w' mb := by
  rw [lastM_snoc]
  exact run_update_intMap (P := Tryd.prog) (t := 62) (kt := 3) (e := 3) Tryd.underlying62 Tryd.underlying3 h (i : Int) (.int .i64 ((l.length : Nat) : Int))
theorem range_blk {w : World} {x : Nat} {p : List Nat} {t : TypeId} (h : IsBlk w x (nv .u8 p) t) : w.rangeAt x 0 (bv p) := fun j v hj => by
  rw [Nat.zero_add]
  refine h.cell j ?_
  show (bv p).toArray[j]? = some v
  rw [List.getElem?_toArray]
  exact hj
theorem wr_typ : ∃ it z, Tryd.prog.info? 67 = some it ∧ it.zero = some z ∧ it.size = 65 ∧ it.bytes = 72 ∧ z.cells.size = 65 := by
  have hA : (Tryd.prog.info? 67).bind (fun it => it.zero.map fun z => (it.size, it.bytes, z.cells.size)) = some (65, 72, 65) := by kernel_rfl
  obtain ⟨it, h1, hA⟩ := Option.bind_eq_some_iff.1 hA
  obtain ⟨z, h2, h5⟩ := Option.map_eq_some_iff.1 hA
  exact ⟨it, z, h1, h2, congrArg Prod.fst h5, congrArg (fun x => x.2.1) h5, congrArg (fun x => x.2.2) h5⟩
theorem wr_src (w : World) (i : Nat) (p : List Nat) (hp : p.length = 64) : Src (w.alloc (.cells (wrF (i, p)).toArray 67)) 65 (some ⟨w.heap.size, 0, none⟩) 1 (wrF (i, p)) := by
  refine ⟨by rw [wrF_length, hp], (fun h => by cases h), ?_⟩
  rintro ad ⟨rfl⟩ j u hu
  rw [Addr.add_mid, Nat.zero_add]
  refine (IsBlk.new w (wrF (i, p)).toArray 67).cell j ?_
  rw [List.getElem?_toArray]
  exact hu
/-- A disk behind a write. -/
def DK.put (d : DK) (i : Nat) (p : List Nat) : DK := { d with pend := d.pend ++ [(i, p)] }
/-- The blocks that Write turns. -/
def wrS (db mb : Nat) (cv : Value) (k : Nat) : Prop := k = db ∨ k = mb ∨ cv.ownBlock = some k

theorem step_ok (h : IsDk w base db fb mb cap cv d) (hm : d.may = true) : Calls Tryd.prog 24 #[.pointer (some ⟨db, 0, none⟩)] w fun e w' => e = .returned .nilIface ∧ IsDk w' base db fb mb cap cv d.step ∧ But (fun k => k = db) w w' := by
  refine (step_any h).mono ?_
  rintro e w' ⟨v, rfl, _, hr, h1, h2⟩
  unfold IsRes stepE at hr
  rw [hm] at hr
  simp only [if_true] at hr
  subst hr
  exact ⟨rfl, h1, h2⟩
theorem step_firm (d : DK) : d.step.firm = d.firm ∧ d.step.pend = d.pend := by
  unfold DK.step
  split
  · exact ⟨rfl, rfl⟩
  · split
    · exact ⟨rfl, rfl⟩
    · split <;> exact ⟨rfl, rfl⟩

theorem heap_setCell_ne {w : World} {p : Addr} {v : Value} {k : Nat} (h : k ≠ p.block) : (w.setCell p v).heap[k]? = w.heap[k]? := Below.heap_setCell w p v k h
theorem own_some {w : World} {base n size : Nat} {t : TypeId} {v : Value} {xs : List Value} (h : w.ownsRow base t size v (n + 1) xs) : ∃ g c, v = .slice (some ⟨g, 0, none⟩) (n + 1) c := by
  obtain ⟨g, cap, cur, rfl, _⟩ := h.2.resolve_left (fun e => by have := e.2; omega)
  exact ⟨g, cap, rfl⟩
theorem write_but {W w1 w2 w6 : World} {p : List Nat} (h : IsDk W base db fb mb cap cv d) (hw : NewPg W w1 p) (h2 : But (fun k => k = db) w1 w2) (h6 : But (wrS db mb cv) w2.drew w6) : But (wrS db mb cv) W w6 :=
  (((But.of_below hw.below (Nat.le_refl _)).trans (h2.mono (fun k hk => .inl hk))).drew).trans h6
theorem write_own {W w1 w2 : World} {p : List Nat} {v' cv : Value} {db : Nat} (h2 : But (fun k => k = db) w1 w2) (hw : NewPg W w1 p) (h : v'.ownBlock = cv.ownBlock ∨ ∃ k, v'.ownBlock = some k ∧ w2.drew.heap.size ≤ k) : v'.ownBlock = cv.ownBlock ∨ ∃ k, v'.ownBlock = some k ∧ W.heap.size ≤ k :=
  h.imp id (fun ⟨k, hk, hs⟩ => ⟨k, hk, Nat.le_trans hw.below.size (Nat.le_trans h2.size hs)⟩)
/-- The disk behind a write. -/
theorem write_fin {w2 w3 w4 w5 : World} {v' : Value} {i : Nat} {p : List Nat} (hp : p.length = 64) (h : IsDk w2 base db fb mb cap cv d) (hi : i < d.firm.length) (hm : IntMap w3 mb .i64 (lastM (d.pend ++ [(i, p)]))) (ht : MapTurned w2 w3 mb)
    (hb : But (fun _ => False) w3 w4) (q1 : w5.ownsRow base 67 65 v' (d.pend.length + 1) (d.pend.flatMap wrF ++ wrF (i, p))) (q2 : w4.grownBy w5 cv.ownBlock) (q3 : v'.ownBlock = cv.ownBlock ∨ v'.ownBlock = some w4.heap.size) :
    IsDk (w5.setCell ⟨db, 1, none⟩ v') base db fb mb cap v' (d.put i p) ∧ But (wrS db mb cv) w2 (w5.setCell ⟨db, 1, none⟩ v') ∧ (v'.ownBlock = cv.ownBlock ∨ ∃ k, v'.ownBlock = some k ∧ w2.heap.size ≤ k) := by
  have hb23 : But (fun k => k = mb ∨ cv.ownBlock = some k) w2 w3 := ⟨ht.1, ht.2.1, ht.2.2.1, Nat.le_of_eq ht.2.2.2.1.symm, fun k _ hk => ht.2.2.2.2 k (fun e => hk (.inl e))⟩
  have hb25 : But (fun k => k = mb ∨ cv.ownBlock = some k) w2 w5 := (hb23.trans (hb.mono (fun _ h => h.elim))).grown q2 (fun k hk => .inr hk)
  have hne := h.mb_ne
  have n1 : ¬ (db = mb ∨ cv.ownBlock = some db) := fun e => e.elim (fun e => hne.1 e.symm) (fun e => (h.cv_ne e).1 rfl)
  have n2 : ¬ (fb = mb ∨ cv.ownBlock = some fb) := fun e => e.elim (fun e => hne.2 e.symm) (fun e => (h.cv_ne e).2.1 rfl)
  have hsz24 : w2.heap.size ≤ w4.heap.size := (hb23.trans (hb.mono (fun _ h => h.elim))).size
  have hv' : ∀ k, v'.ownBlock = some k → k ≠ db ∧ k ≠ mb := by
    intro k hk
    rcases q3 with e | e
    · rw [e] at hk; exact ⟨(h.cv_ne hk).1, (h.cv_ne hk).2.2⟩
    · rw [e] at hk
      obtain rfl := Option.some.inj hk
      have := h.blk.lt
      have := h.map.lt
      omega
  refine ⟨⟨?_, ?_, ?_, ?_, ?_, h.n1, h.n2, h.f1, h.f2, h.bdb, h.bmb⟩, ?_, ?_⟩
  · exact (hb25.blk h.blk n1).set 1 v'
  · exact (h.firm.but hb25 (fun k hk => by simp [Value.ownBlock] at hk; subst hk; exact n2)).of_block fun k hk => heap_setCell_ne (by simp [Value.ownBlock] at hk; subst hk; exact h.fb_ne)
  · have hc : RowF w5 base 67 65 wrF v' (d.pend ++ [(i, p)]) := by
      refine ⟨fun x hx => ?_, ?_⟩
      · rcases List.mem_append.1 hx with hx | hx
        · exact h.cache.1 x hx
        · simp at hx; subst hx; rw [wrF_length, hp]
      · rw [List.length_append, List.flatMap_append]
        simpa using q1
    exact hc.of_block fun k hk => heap_setCell_ne (hv' k hk).1
  · have e1 : w5.heap[mb]? = w3.heap[mb]? := by
      have e2 : w4.heap[mb]? = w3.heap[mb]? := hb.block mb hm.lt id
      rw [← e2]
      exact q2.block mb (Nat.lt_of_lt_of_le hm.lt hb.size) (fun e => (h.cv_ne e.symm).2.2 rfl)
    exact hm.of_block ((heap_setCell_ne (fun e => hne.1 e)).trans e1)
  · intro x hx
    rcases List.mem_append.1 hx with hx | hx
    · exact h.pend x hx
    · simp at hx; subst hx; exact hi
  · exact (hb25.mono (fun k hk => hk.elim (fun e => .inr (.inl e)) (fun e => .inr (.inr e)))).setCell (p := ⟨db, 1, none⟩) (.inl rfl) _
  · exact q3.imp id (fun e => ⟨_, e, hsz24⟩)

set_option maxRecDepth 100000 in
set_option maxHeartbeats 4000000 in
theorem write_ok (h : IsDk w base db fb mb cap cv d) (i : Nat) (p : List Nat) (hp : p.length = 64) (ho : d.off = false) (hi : i < d.firm.length) (hm : d.may = true) (hl : d.pend.length < 1000000) (hbase : base ≤ w.heap.size) : Calls Tryd.prog 11 #[.pointer (some ⟨db, 0, none⟩), .int .i64 (i : Int), pgV p] w fun e w' => e = .returned .nilIface ∧ ∃ cv', IsDk w' base db fb mb cap cv' (d.step.put i p) ∧ But (wrS db mb cv) w w' ∧ (cv'.ownBlock = cv.ownBlock ∨ ∃ k, cv'.ownBlock = some k ∧ w.heap.size ≤ k) := by
  go_enter Tryd.func11, Tryd.ntmps11
  unfold pgV
  go_upto_region 1 with fail
  change Code.wp _ _ _ _ (w.alloc (.cells (nv .u8 p) 33))
  have hw : NewPg w (w.alloc (.cells (nv .u8 p) 33)) p := ⟨IsBlk.new _ _ _, (Below.refl _ _).alloc (Nat.le_refl _) _, by simp⟩
  generalize w.alloc (.cells (nv .u8 p) 33) = w1 at hw ⊢
  have h1 := h.below hw.below
  have hoff := off_any h1
  have c0 := h1.c0
  rw [ho] at hoff
  have hst := step_ok h1 hm
  have hn2 := h.n2
  have HW := Lib.hid hw
  have HH := Lib.hid (And.intro h (And.intro hm (And.intro hp (And.intro hl hbase))))
  clear h h1 hw hm hp hl hbase
  go_upto_region 6 with (first
    | (go_at_call 17; (with_reducible refine hoff.mono ?_); rintro e w' ⟨rfl, rfl⟩)
    | (go_at_call 24; (with_reducible refine hst.mono ?_); rintro e w2 ⟨rfl, h2, hb2⟩; have H2 := Lib.hid (And.intro h2 hb2); clear h2 hb2))
  obtain ⟨hsf1, hsf2⟩ := step_firm d
  have c1 := H2.out.1.c1
  have c2 := H2.out.1.c2
  obtain ⟨a, cc, hcv⟩ := H2.out.1.cache.slice
  rw [hsf2] at hcv
  subst hcv
  have h2d : IsDk w2.drew base db fb mb cap (.slice a d.pend.length cc) d.step := H2.out.1.below ((Below.refl _ _).drew)
  have hmp := h2d.map
  rw [hsf2] at hmp
  obtain ⟨w3, hrun, hm3, ht3⟩ := last_put hmp i p
  have HR := Lib.hid hrun
  have HM := Lib.hid (And.intro hm3 ht3)
  have HD := Lib.hid h2d
  clear hmp h2d hrun hm3 ht3
  refine wp_region_held_drew (S := fun w' => w'.cell? ⟨db, 2, none⟩ = some (.map (some mb)) ∧ w'.cell? ⟨db, 1, none⟩ = some (.slice a d.pend.length cc)) (by kernel_rfl) ⟨c2, c1⟩ (fun hHeld => ?_)
  refine wpAnyH_take (i := 0) (v := ?_) rfl (by kernel_rfl) (by kernel_rfl) (by kernel_rfl) (fun _ _ _ h => h) (Or.inl ⟨by rfl, ?_⟩) (by with_reducible assumption) ?_
  rotate_left
  · intro w hSw; (try dsimp only at hSw); (try go_split_ands); go_simp; (try with_reducible rfl)
  (try simp only [Act.put, List.getElem_toArray, List.getElem_cons_succ, List.getElem_cons_zero, List.setIfInBounds_toArray, List.set_cons_zero, List.set_cons_succ])
  refine wpAnyH_take (i := 1) (v := ?_) rfl (by kernel_rfl) (by kernel_rfl) (by kernel_rfl) (fun _ _ _ h => h) (Or.inl ⟨by rfl, ?_⟩) (by with_reducible assumption) ?_
  rotate_left
  · intro w hSw; (try dsimp only at hSw); (try go_split_ands); go_simp; (try with_reducible rfl)
  (try simp only [Act.put, List.getElem_toArray, List.getElem_cons_succ, List.getElem_cons_zero, List.setIfInBounds_toArray, List.set_cons_zero, List.set_cons_succ])
  refine wpAnyH_take (i := 2) (v := ?_) rfl (by kernel_rfl) (by kernel_rfl) (by kernel_rfl) (fun _ _ _ h => h) (Or.inl ⟨by rfl, ?_⟩) (by with_reducible assumption) ?_
  rotate_left
  · intro w hSw; (try dsimp only at hSw); (try go_split_ands); go_simp; (try with_reducible rfl)
  (try simp only [Act.put, List.getElem_toArray, List.getElem_cons_succ, List.getElem_cons_zero, List.setIfInBounds_toArray, List.set_cons_zero, List.set_cons_succ])
  refine wpAnyH_take (i := 3) (v := ?_) rfl (by kernel_rfl) (by kernel_rfl) (by kernel_rfl) (fun _ _ _ h => h) (Or.inl ⟨by rfl, ?_⟩) (by with_reducible assumption) ?_
  rotate_left
  · intro w hSw; (try dsimp only at hSw); (try go_split_ands); go_simp; (try with_reducible rfl)
  (try simp only [Act.put, List.getElem_toArray, List.getElem_cons_succ, List.getElem_cons_zero, List.setIfInBounds_toArray, List.set_cons_zero, List.set_cons_succ])
  refine wpAnyH_take (i := 4) (v := ?_) rfl (by kernel_rfl) (by kernel_rfl) (by kernel_rfl) (fun _ _ _ h => h) (Or.inl ⟨by rfl, ?_⟩) (by with_reducible assumption) ?_
  rotate_left
  · intro w hSw; (try dsimp only at hSw); (try go_split_ands); go_simp; (try with_reducible rfl)
  (try simp only [Act.put, List.getElem_toArray, List.getElem_cons_succ, List.getElem_cons_zero, List.setIfInBounds_toArray, List.set_cons_zero, List.set_cons_succ])
  refine wpAnyH_take (i := 5) (v := ?_) rfl (by kernel_rfl) (by kernel_rfl) (by kernel_rfl) (fun _ _ _ h => h) (Or.inl ⟨by rfl, ?_⟩) (by with_reducible assumption) ?_
  rotate_left
  · intro w hSw; (try dsimp only at hSw); (try go_split_ands); go_simp; (try with_reducible rfl)
  (try simp only [Act.put, List.getElem_toArray, List.getElem_cons_succ, List.getElem_cons_zero, List.setIfInBounds_toArray, List.set_cons_zero, List.set_cons_succ])
  refine wpAnyH_take (i := 6) (v := ?_) rfl (by kernel_rfl) (by kernel_rfl) (by kernel_rfl) (fun _ _ _ h => h) (Or.inl ⟨by rfl, ?_⟩) (by with_reducible assumption) ?_
  rotate_left
  · intro w hSw; (try dsimp only at hSw); (try go_split_ands); go_simp; (try with_reducible rfl)
  (try simp only [Act.put, List.getElem_toArray, List.getElem_cons_succ, List.getElem_cons_zero, List.setIfInBounds_toArray, List.set_cons_zero, List.set_cons_succ])
  refine wpAnyH_take (i := 7) (v := ?_) rfl (by kernel_rfl) (by kernel_rfl) (by kernel_rfl) (fun _ _ _ h => h) (Or.inl ⟨by rfl, ?_⟩) (by with_reducible assumption) ?_
  rotate_left
  · intro w hSw; (try dsimp only at hSw); (try go_split_ands); go_simp; (try with_reducible rfl)
  (try simp only [Act.put, List.getElem_toArray, List.getElem_cons_succ, List.getElem_cons_zero, List.setIfInBounds_toArray, List.set_cons_zero, List.set_cons_succ])
  refine wpAnyH_take (i := 8) (v := ?_) rfl (by kernel_rfl) (by kernel_rfl) (by kernel_rfl) (fun _ _ _ h => h) (Or.inl ⟨by rfl, ?_⟩) (by with_reducible assumption) ?_
  rotate_left
  · intro w hSw; (try dsimp only at hSw); (try go_split_ands); go_simp; (try with_reducible rfl)
  (try simp only [Act.put, List.getElem_toArray, List.getElem_cons_succ, List.getElem_cons_zero, List.setIfInBounds_toArray, List.set_cons_zero, List.set_cons_succ])
  refine wpAnyH_take (i := 9) (v := ?_) rfl (by kernel_rfl) (by kernel_rfl) (by kernel_rfl) (fun _ _ _ h => h) (Or.inl ⟨by rfl, ?_⟩) (by with_reducible assumption) ?_
  rotate_left
  · intro w hSw; (try dsimp only at hSw); (try go_split_ands); go_simp; (try with_reducible rfl)
  (try simp only [Act.put, List.getElem_toArray, List.getElem_cons_succ, List.getElem_cons_zero, List.setIfInBounds_toArray, List.set_cons_zero, List.set_cons_succ])
  refine wpAnyH_ready (rs := [10]) (by kernel_rfl) (by simp) ?_
  refine AllReadyH.cons rfl (fun K hK => ?_) AllReadyH.nil
  rw [if_pos (by rfl)]
  simp only [List.getElem_toArray, List.getElem_cons_succ, List.getElem_cons_zero]
  refine wp_mapUpdate 62 (.tmp 34) (.tmp 35) (.tmp 40) (by rfl) mb .i64 (i : Int) (.int .i64 ((d.pend.length : Nat) : Int)) (by rfl) (by rfl) (by rfl) HR.out ?_
  have c13 := (HM.out.2.cell (p := ⟨db, 1, none⟩) (fun e => HD.out.mb_ne.1 e.symm)).trans HD.out.c1
  have c23 := (HM.out.2.cell (p := ⟨db, 2, none⟩) (fun e => HD.out.mb_ne.1 e.symm)).trans HD.out.c2
  refine hK.out _ _ ⟨c23, c13⟩ (fun hHeld => ?_)
  clear hK K
  (try simp only [Act.put, List.getElem_toArray, List.getElem_cons_succ, List.getElem_cons_zero, List.setIfInBounds_toArray, List.set_cons_zero, List.set_cons_succ])
  refine wpAnyH_done (by kernel_rfl) ?_ _
  have hb12 := H2.out.2
  have hxdb : w.heap.size ≠ db := by have := HH.out.1.blk.lt; omega
  have hxmb : w.heap.size ≠ mb := by have := HH.out.1.map.lt; omega
  have hx2 : IsBlk w2 w.heap.size (nv .u8 p) 33 := hb12.blk HW.out.blk hxdb
  have hx3 : IsBlk w3 w.heap.size (nv .u8 p) 33 := hx2.of_block (HM.out.2.2.2.2.2 _ hxmb)
  have hcr3 : RowF w3 base 67 65 wrF (.slice a d.pend.length cc) d.pend := by
    have h1 := HD.out.cache
    rw [hsf2] at h1
    exact h1.of_block fun k hk => HM.out.2.2.2.2.2 k (HD.out.cv_ne hk).2.2
  have hsz3 : w.heap.size + 1 ≤ w3.heap.size := by
    have e1 := HM.out.2.2.2.2.1
    have e2 := hb12.size
    have e3 := HW.out.size
    have e4 : w2.drew.heap.size = w2.heap.size := rfl
    omega
  have HX := Lib.hid (And.intro hx3 (And.intro hcr3 hsz3))
  have c13 := (HM.out.2.cell (p := ⟨db, 1, none⟩) (fun e => HD.out.mb_ne.1 e.symm)).trans HD.out.c1
  have z13 := (HM.out.2.frozen (p := ⟨db, 1, none⟩) (fun e => HD.out.mb_ne.1 e.symm)).trans (HD.out.fz 1)
  clear hx2 hx3 hcr3 hsz3 hHeld hb12
  go_upto_region 7 with fail
  have hpl := HH.out.2.2.1
  have hbl : base ≤ (w3.drew.alloc (.cells (wrF (i, p)).toArray 67)).heap.size := by
    have e1 := HH.out.2.2.2.2
    have e2 := HX.out.2.2
    have e3 : (w3.drew.alloc (.cells (wrF (i, p)).toArray 67)).heap.size = w3.heap.size + 1 := by simp
    omega
  have hsrc : Src (w3.drew.alloc (.cells (wrF (i, p)).toArray 67)) 65 (some ⟨w3.drew.heap.size, 0, none⟩) 1 (wrF (i, p)) := wr_src w3.drew i p hpl
  have hown := (HX.out.2.1.below ((Below.refl _ _).drew)).below ((Below.refl _ _).alloc (Nat.le_refl _) (.cells (wrF (i, p)).toArray 67))
  have hwl : (d.pend.length + 1) * 72 ≤ 140737488355328 := by have := HH.out.2.2.2.1; omega
  have hrun8 := run_wr_slice w3.drew i p hpl
  have c13d : w3.drew.cell? ⟨db, 1, none⟩ = some (.slice a d.pend.length cc) := c13
  have c14 : (w3.drew.alloc (.cells (wrF (i, p)).toArray 67)).cell? ⟨db, 1, none⟩ = some (.slice a d.pend.length cc) := (World.cell?_alloc_lt _ _ ⟨db, 1, none⟩ (cell_lt c13d)).trans c13d
  have z14 : (w3.drew.alloc (.cells (wrF (i, p)).toArray 67)).frozen? ⟨db, 1, none⟩ = false := (World.frozen?_alloc_old _ _ ⟨db, 1, none⟩ (Nat.ne_of_lt (cell_lt c13d))).trans z13
  have hb34 : But (fun _ => False) w3 (w3.drew.alloc (.cells (wrF (i, p)).toArray 67)) := ((But.refl _ _).drew).alloc _
  have hrg : w3.drew.rangeAt w.heap.size 0 (bv p) := range_blk HX.out.1
  generalize w3.drew.alloc (.cells (wrF (i, p)).toArray 67) = w4 at hbl hsrc hown hrun8 c14 z14 hb34
  obtain ⟨it, z, hi1, hi2, hi3, hi4, hi5⟩ := wr_typ
  have hlen : (bv p).length = 64 := by rw [bv_length, hpl]
  have HA := Lib.hid (And.intro hbl (And.intro hsrc (And.intro hown (And.intro hwl (And.intro hrun8 (And.intro hb34 (And.intro hrg hlen)))))))
  have HI := Lib.hid (And.intro hi1 (And.intro hi2 (And.intro hi3 (And.intro hi4 hi5))))
  have HZ := Lib.hid z14
  clear hbl hsrc hown hwl hrun8 hb34 hrg hlen hi1 hi2 hi3 hi4 hi5 z14
  refine wp_region_any (by kernel_rfl) ?_
  change wpAny _ _ _ _ _ _ _ (World.drew _)
  refine wpAny_take (i := 0) (v := ?_) rfl (by kernel_rfl) (by kernel_rfl) (by kernel_rfl) (fun _ _ _ h => h) (Or.inl ⟨by rfl, ?_⟩) ?_
  rotate_left
  · intro w; go_simp; (try with_reducible rfl)
  (try simp only [Act.put, List.getElem_toArray, List.getElem_cons_succ, List.getElem_cons_zero, List.setIfInBounds_toArray, List.set_cons_zero, List.set_cons_succ])
  refine wpAny_take (i := 1) (v := ?_) rfl (by kernel_rfl) (by kernel_rfl) (by kernel_rfl) (fun _ _ _ h => h) (Or.inl ⟨by rfl, ?_⟩) ?_
  rotate_left
  · intro w; go_simp; (try with_reducible rfl)
  (try simp only [Act.put, List.getElem_toArray, List.getElem_cons_succ, List.getElem_cons_zero, List.setIfInBounds_toArray, List.set_cons_zero, List.set_cons_succ])
  refine wpAny_take (i := 2) (v := ?_) rfl (by kernel_rfl) (by kernel_rfl) (by kernel_rfl) (fun _ _ _ h => h) (Or.inl ⟨by rfl, ?_⟩) ?_
  rotate_left
  · intro w; go_simp; (try with_reducible rfl)
  (try simp only [Act.put, List.getElem_toArray, List.getElem_cons_succ, List.getElem_cons_zero, List.setIfInBounds_toArray, List.set_cons_zero, List.set_cons_succ])
  refine wpAny_take (i := 3) (v := ?_) rfl (by kernel_rfl) (by kernel_rfl) (by kernel_rfl) (fun _ _ _ h => h) (Or.inl ⟨by rfl, ?_⟩) ?_
  rotate_left
  · intro w; go_simp; (try with_reducible rfl)
  (try simp only [Act.put, List.getElem_toArray, List.getElem_cons_succ, List.getElem_cons_zero, List.setIfInBounds_toArray, List.set_cons_zero, List.set_cons_succ])
  refine wpAny_take (i := 5) (v := ?_) rfl (by kernel_rfl) (by kernel_rfl) (by kernel_rfl) (fun _ _ _ h => h) (Or.inl ⟨by rfl, ?_⟩) ?_
  rotate_left
  · intro w; go_simp; (try with_reducible rfl)
  (try simp only [Act.put, List.getElem_toArray, List.getElem_cons_succ, List.getElem_cons_zero, List.setIfInBounds_toArray, List.set_cons_zero, List.set_cons_succ])
  refine wpAny_ready (rs := [4, 6]) (by kernel_rfl) (by simp) ?_
  refine AllReady.cons rfl (fun K hK => ?_) (AllReady.cons rfl (fun K hK => ?_) AllReady.nil)
  · go_simp
    refine hK _ _ ?_
    clear hK K
    (try simp only [Act.put, List.getElem_toArray, List.getElem_cons_succ, List.getElem_cons_zero, List.setIfInBounds_toArray, List.set_cons_zero, List.set_cons_succ])
    refine wpAny_ready (rs := [6]) (by kernel_rfl) (by simp) ?_
    refine AllReady.cons rfl (fun K hK => ?_) AllReady.nil
    rw [if_pos (by rfl)]
    simp only [List.getElem_toArray, List.getElem_cons_succ, List.getElem_cons_zero]
    refine wp_load_mid 33 (.tmp 5) (by rfl) w.heap.size 0 (by rfl) (bv p) _ HA.out.2.2.2.2.2.2.1 Tryd.underlying33 rfl (by rw [HA.out.2.2.2.2.2.2.2]; kernel_rfl) ?_
    refine hK _ _ ?_
    clear hK K
    (try simp only [Act.put, List.getElem_toArray, List.getElem_cons_succ, List.getElem_cons_zero, List.setIfInBounds_toArray, List.set_cons_zero, List.set_cons_succ])
    refine wpAny_take (i := 7) (v := .agg (wrF (i, p)).toArray) rfl (by kernel_rfl) (by kernel_rfl) (by kernel_rfl) (fun _ _ _ h => h) (yields_build (by rfl) 67 #[(0, .tmp 46), (1, .tmp 47)] (by rfl) _ (built_wr i p hpl)) ?_
    (try simp only [Act.put, List.getElem_toArray, List.getElem_cons_succ, List.getElem_cons_zero, List.setIfInBounds_toArray, List.set_cons_zero, List.set_cons_succ])
    refine wpAny_ready (rs := [8]) (by kernel_rfl) (by simp) ?_
    refine AllReady.cons rfl (fun K hK => ?_) AllReady.nil
    rw [if_pos (by rfl)]
    simp only [List.getElem_toArray, List.getElem_cons_succ, List.getElem_cons_zero]
    refine wp_slice_one 63 (.tmp 48) (by rfl) _ _ (by rfl) HA.out.2.2.2.2.1 ?_
    refine hK _ _ ?_
    clear hK K
    (try simp only [Act.put, List.getElem_toArray, List.getElem_cons_succ, List.getElem_cons_zero, List.setIfInBounds_toArray, List.set_cons_zero, List.set_cons_succ])
    refine wpAny_ready (rs := [9]) (by kernel_rfl) (by simp) ?_
    refine AllReady.cons rfl (fun K hK => ?_) AllReady.nil
    refine step_append_src w4 (by rfl) (.tmp 45) (.tmp 49) 63 (by rfl) base 67 it z 65 72 Tryd.underlying63 HI.out.1 HI.out.2.1 HI.out.2.2.1 HI.out.2.2.2.1 HI.out.2.2.2.2 (by decide) _ _ _ (by rfl) HA.out.2.2.1.2 _ 1 1 (wrF (i, p)) (by rfl) HA.out.2.1 (by intro e; cases e) (wrF_one _) (by have := HH.out.2.2.2.1; unfold maxLen; omega) HA.out.2.2.2.1 HA.out.1 fun v' w5 q1 q2 q3 => ?_
    obtain ⟨g', c', rfl⟩ := own_some q1
    refine hK _ _ ?_
    clear hK K
    (try simp only [Act.put, List.getElem_toArray, List.getElem_cons_succ, List.getElem_cons_zero, List.setIfInBounds_toArray, List.set_cons_zero, List.set_cons_succ])
    have c15 := (World.cell?_of_block (a := ⟨db, 1, none⟩) (q2.block db (cell_lt c14) (fun e => (HD.out.cv_ne e.symm).1 rfl))).trans c14
    have z15 := (World.frozen?_of_block (a := ⟨db, 1, none⟩) (q2.block db (cell_lt c14) (fun e => (HD.out.cv_ne e.symm).1 rfl))).trans HZ.out
    have HE := Lib.hid (And.intro q1 (And.intro q2 q3))
    clear q1 q2 q3
    refine wpAny_take (i := 10) (v := ?_) rfl (by kernel_rfl) (by kernel_rfl) (by kernel_rfl) (fun _ _ _ h => h) (Or.inl ⟨by rfl, ?_⟩) ?_
    rotate_left
    · intro w; go_simp; (try with_reducible rfl)
    (try simp only [Act.put, List.getElem_toArray, List.getElem_cons_succ, List.getElem_cons_zero, List.setIfInBounds_toArray, List.set_cons_zero, List.set_cons_succ])
    refine wpAny_take (i := 11) (v := ?_) rfl (by kernel_rfl) (by kernel_rfl) (by kernel_rfl) (fun _ _ _ h => h) (Or.inl ⟨by rfl, ?_⟩) ?_
    rotate_left
    · intro w; go_simp; (try with_reducible rfl)
    (try simp only [Act.put, List.getElem_toArray, List.getElem_cons_succ, List.getElem_cons_zero, List.setIfInBounds_toArray, List.set_cons_zero, List.set_cons_succ])
    refine wpAny_ready (rs := [12]) (by kernel_rfl) (by simp) ?_
    refine AllReady.cons rfl (fun K hK => ?_) AllReady.nil
    go_simp
    refine hK _ _ ?_
    clear hK K
    refine wpAny_done (by kernel_rfl) ?_ _
    have hfin := write_fin hpl HD.out (by rw [hsf1]; exact hi) (by rw [hsf2]; exact HM.out.1) HM.out.2 HA.out.2.2.2.2.2.1 (by rw [hsf2]; exact HE.out.1) HE.out.2.1 HE.out.2.2
    have HF := Lib.hid hfin
    clear hfin
    go_wp2
    go_ret
    exact ⟨rfl, _, HF.out.1, write_but HH.out.1 HW.out H2.out.2 HF.out.2.1, write_own H2.out.2 HW.out HF.out.2.2⟩
  · rw [if_pos (by rfl)]
    simp only [List.getElem_toArray, List.getElem_cons_succ, List.getElem_cons_zero]
    refine wp_load_mid 33 (.tmp 5) (by rfl) w.heap.size 0 (by rfl) (bv p) _ HA.out.2.2.2.2.2.2.1 Tryd.underlying33 rfl (by rw [HA.out.2.2.2.2.2.2.2]; kernel_rfl) ?_
    refine hK _ _ ?_
    clear hK K
    (try simp only [Act.put, List.getElem_toArray, List.getElem_cons_succ, List.getElem_cons_zero, List.setIfInBounds_toArray, List.set_cons_zero, List.set_cons_succ])
    refine wpAny_take (i := 7) (v := .agg (wrF (i, p)).toArray) rfl (by kernel_rfl) (by kernel_rfl) (by kernel_rfl) (fun _ _ _ h => h) (yields_build (by rfl) 67 #[(0, .tmp 46), (1, .tmp 47)] (by rfl) _ (built_wr i p hpl)) ?_
    (try simp only [Act.put, List.getElem_toArray, List.getElem_cons_succ, List.getElem_cons_zero, List.setIfInBounds_toArray, List.set_cons_zero, List.set_cons_succ])
    refine wpAny_ready (rs := [4, 8]) (by kernel_rfl) (by simp) ?_
    refine AllReady.cons rfl (fun K hK => ?_) (AllReady.cons rfl (fun K hK => ?_) AllReady.nil)
    · go_simp
      refine hK _ _ ?_
      clear hK K
      (try simp only [Act.put, List.getElem_toArray, List.getElem_cons_succ, List.getElem_cons_zero, List.setIfInBounds_toArray, List.set_cons_zero, List.set_cons_succ])
      refine wpAny_ready (rs := [8]) (by kernel_rfl) (by simp) ?_
      refine AllReady.cons rfl (fun K hK => ?_) AllReady.nil
      rw [if_pos (by rfl)]
      simp only [List.getElem_toArray, List.getElem_cons_succ, List.getElem_cons_zero]
      refine wp_slice_one 63 (.tmp 48) (by rfl) _ _ (by rfl) HA.out.2.2.2.2.1 ?_
      refine hK _ _ ?_
      clear hK K
      (try simp only [Act.put, List.getElem_toArray, List.getElem_cons_succ, List.getElem_cons_zero, List.setIfInBounds_toArray, List.set_cons_zero, List.set_cons_succ])
      refine wpAny_ready (rs := [9]) (by kernel_rfl) (by simp) ?_
      refine AllReady.cons rfl (fun K hK => ?_) AllReady.nil
      refine step_append_src w4 (by rfl) (.tmp 45) (.tmp 49) 63 (by rfl) base 67 it z 65 72 Tryd.underlying63 HI.out.1 HI.out.2.1 HI.out.2.2.1 HI.out.2.2.2.1 HI.out.2.2.2.2 (by decide) _ _ _ (by rfl) HA.out.2.2.1.2 _ 1 1 (wrF (i, p)) (by rfl) HA.out.2.1 (by intro e; cases e) (wrF_one _) (by have := HH.out.2.2.2.1; unfold maxLen; omega) HA.out.2.2.2.1 HA.out.1 fun v' w5 q1 q2 q3 => ?_
      obtain ⟨g', c', rfl⟩ := own_some q1
      refine hK _ _ ?_
      clear hK K
      (try simp only [Act.put, List.getElem_toArray, List.getElem_cons_succ, List.getElem_cons_zero, List.setIfInBounds_toArray, List.set_cons_zero, List.set_cons_succ])
      have c15 := (World.cell?_of_block (a := ⟨db, 1, none⟩) (q2.block db (cell_lt c14) (fun e => (HD.out.cv_ne e.symm).1 rfl))).trans c14
      have z15 := (World.frozen?_of_block (a := ⟨db, 1, none⟩) (q2.block db (cell_lt c14) (fun e => (HD.out.cv_ne e.symm).1 rfl))).trans HZ.out
      have HE := Lib.hid (And.intro q1 (And.intro q2 q3))
      clear q1 q2 q3
      refine wpAny_take (i := 10) (v := ?_) rfl (by kernel_rfl) (by kernel_rfl) (by kernel_rfl) (fun _ _ _ h => h) (Or.inl ⟨by rfl, ?_⟩) ?_
      rotate_left
      · intro w; go_simp; (try with_reducible rfl)
      (try simp only [Act.put, List.getElem_toArray, List.getElem_cons_succ, List.getElem_cons_zero, List.setIfInBounds_toArray, List.set_cons_zero, List.set_cons_succ])
      refine wpAny_take (i := 11) (v := ?_) rfl (by kernel_rfl) (by kernel_rfl) (by kernel_rfl) (fun _ _ _ h => h) (Or.inl ⟨by rfl, ?_⟩) ?_
      rotate_left
      · intro w; go_simp; (try with_reducible rfl)
      (try simp only [Act.put, List.getElem_toArray, List.getElem_cons_succ, List.getElem_cons_zero, List.setIfInBounds_toArray, List.set_cons_zero, List.set_cons_succ])
      refine wpAny_ready (rs := [12]) (by kernel_rfl) (by simp) ?_
      refine AllReady.cons rfl (fun K hK => ?_) AllReady.nil
      go_simp
      refine hK _ _ ?_
      clear hK K
      refine wpAny_done (by kernel_rfl) ?_ _
      have hfin := write_fin hpl HD.out (by rw [hsf1]; exact hi) (by rw [hsf2]; exact HM.out.1) HM.out.2 HA.out.2.2.2.2.2.1 (by rw [hsf2]; exact HE.out.1) HE.out.2.1 HE.out.2.2
      have HF := Lib.hid hfin
      clear hfin
      go_wp2
      go_ret
      exact ⟨rfl, _, HF.out.1, write_but HH.out.1 HW.out H2.out.2 HF.out.2.1, write_own H2.out.2 HW.out HF.out.2.2⟩
    · rw [if_pos (by rfl)]
      simp only [List.getElem_toArray, List.getElem_cons_succ, List.getElem_cons_zero]
      refine wp_slice_one 63 (.tmp 48) (by rfl) _ _ (by rfl) HA.out.2.2.2.2.1 ?_
      refine hK _ _ ?_
      clear hK K
      (try simp only [Act.put, List.getElem_toArray, List.getElem_cons_succ, List.getElem_cons_zero, List.setIfInBounds_toArray, List.set_cons_zero, List.set_cons_succ])
      refine wpAny_ready (rs := [4]) (by kernel_rfl) (by simp) ?_
      refine AllReady.cons rfl (fun K hK => ?_) AllReady.nil
      go_simp
      refine hK _ _ ?_
      clear hK K
      (try simp only [Act.put, List.getElem_toArray, List.getElem_cons_succ, List.getElem_cons_zero, List.setIfInBounds_toArray, List.set_cons_zero, List.set_cons_succ])
      refine wpAny_ready (rs := [9]) (by kernel_rfl) (by simp) ?_
      refine AllReady.cons rfl (fun K hK => ?_) AllReady.nil
      refine step_append_src w4 (by rfl) (.tmp 45) (.tmp 49) 63 (by rfl) base 67 it z 65 72 Tryd.underlying63 HI.out.1 HI.out.2.1 HI.out.2.2.1 HI.out.2.2.2.1 HI.out.2.2.2.2 (by decide) _ _ _ (by rfl) HA.out.2.2.1.2 _ 1 1 (wrF (i, p)) (by rfl) HA.out.2.1 (by intro e; cases e) (wrF_one _) (by have := HH.out.2.2.2.1; unfold maxLen; omega) HA.out.2.2.2.1 HA.out.1 fun v' w5 q1 q2 q3 => ?_
      obtain ⟨g', c', rfl⟩ := own_some q1
      refine hK _ _ ?_
      clear hK K
      (try simp only [Act.put, List.getElem_toArray, List.getElem_cons_succ, List.getElem_cons_zero, List.setIfInBounds_toArray, List.set_cons_zero, List.set_cons_succ])
      have c15 := (World.cell?_of_block (a := ⟨db, 1, none⟩) (q2.block db (cell_lt c14) (fun e => (HD.out.cv_ne e.symm).1 rfl))).trans c14
      have z15 := (World.frozen?_of_block (a := ⟨db, 1, none⟩) (q2.block db (cell_lt c14) (fun e => (HD.out.cv_ne e.symm).1 rfl))).trans HZ.out
      have HE := Lib.hid (And.intro q1 (And.intro q2 q3))
      clear q1 q2 q3
      refine wpAny_take (i := 10) (v := ?_) rfl (by kernel_rfl) (by kernel_rfl) (by kernel_rfl) (fun _ _ _ h => h) (Or.inl ⟨by rfl, ?_⟩) ?_
      rotate_left
      · intro w; go_simp; (try with_reducible rfl)
      (try simp only [Act.put, List.getElem_toArray, List.getElem_cons_succ, List.getElem_cons_zero, List.setIfInBounds_toArray, List.set_cons_zero, List.set_cons_succ])
      refine wpAny_take (i := 11) (v := ?_) rfl (by kernel_rfl) (by kernel_rfl) (by kernel_rfl) (fun _ _ _ h => h) (Or.inl ⟨by rfl, ?_⟩) ?_
      rotate_left
      · intro w; go_simp; (try with_reducible rfl)
      (try simp only [Act.put, List.getElem_toArray, List.getElem_cons_succ, List.getElem_cons_zero, List.setIfInBounds_toArray, List.set_cons_zero, List.set_cons_succ])
      refine wpAny_ready (rs := [12]) (by kernel_rfl) (by simp) ?_
      refine AllReady.cons rfl (fun K hK => ?_) AllReady.nil
      go_simp
      refine hK _ _ ?_
      clear hK K
      refine wpAny_done (by kernel_rfl) ?_ _
      have hfin := write_fin hpl HD.out (by rw [hsf1]; exact hi) (by rw [hsf2]; exact HM.out.1) HM.out.2 HA.out.2.2.2.2.2.1 (by rw [hsf2]; exact HE.out.1) HE.out.2.1 HE.out.2.2
      have HF := Lib.hid hfin
      clear hfin
      go_wp2
      go_ret
      exact ⟨rfl, _, HF.out.1, write_but HH.out.1 HW.out H2.out.2 HF.out.2.1, write_own H2.out.2 HW.out HF.out.2.2⟩
end
end Go.Proofs.YtjmjfgbpjecgfaaDoor
