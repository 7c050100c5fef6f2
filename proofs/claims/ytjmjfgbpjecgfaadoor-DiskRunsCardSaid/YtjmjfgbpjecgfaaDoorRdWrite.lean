/-
  disk: the document's Write.
-/
import Derived.Test.YtjmjfgbpjecgfaaDoorRdMem
import Derived.Test.YtjmjfgbpjecgfaaDoorHeldT
namespace Go.Proofs.YtjmjfgbpjecgfaaDoor
set_option linter.unusedVariables false
set_option linter.unusedSimpArgs false
open Go.RowKit

/-- The document's disk whose two lists are not (yet) one. -/
structure IsRdG (w : World) (base rb fb cap : Nat) (av wv : Value) (d : DK) (la lw : List (Nat × List Nat)) : Prop where
  blk : IsBlk w rb #[.slice (some ⟨fb, 0, none⟩) d.firm.length cap, av, wv, .int .i64 d.fuel, .bool d.off] 54
  firm : RowF w base 33 64 pgF (.slice (some ⟨fb, 0, none⟩) d.firm.length cap) d.firm
  at_ : RowF w base 3 1 atF av la
  what : RowF w base 33 64 whF wv lw
  apart : wv.ownBlock ≠ some fb
theorem IsRd.gen {w : World} {base rb fb cap : Nat} {av wv : Value} {d : DK} (h : IsRd w base rb fb cap av wv d) : IsRdG w base rb fb cap av wv d d.pend d.pend := ⟨h.blk, h.firm, h.at_, h.what, h.apart⟩
def rdS (rb : Nat) (av wv : Value) (k : Nat) : Prop := k = rb ∨ av.ownBlock = some k ∨ wv.ownBlock = some k
section
variable {w w' w3 w4 : World} {base rb fb cap : Nat} {av wv : Value} {d : DK} {la lw : List (Nat × List Nat)}
theorem IsRdG.below (h : IsRdG w base rb fb cap av wv d la lw) (hb : Below w.heap.size w w') : IsRdG w' base rb fb cap av wv d la lw :=
  ⟨h.blk.below hb h.blk.lt, h.firm.below hb, h.at_.below hb, h.what.below hb, h.apart⟩
theorem IsRdG.fb_ne (h : IsRdG w base rb fb cap av wv d la lw) : fb ≠ rb := fun e => h.firm.no_blk h.blk (by decide) (by rw [e]; rfl)
theorem IsRdG.putAt (h : IsRdG w base rb fb cap av wv d la lw) {v1 : Value} {x : Nat × List Nat} (hb : Below w.heap.size w w3)
    (q1 : w4.ownsRow base 3 1 v1 (la.length + 1) (la.flatMap atF ++ atF x)) (q2 : w3.grownBy w4 av.ownBlock) (q3 : v1.ownBlock = av.ownBlock ∨ v1.ownBlock = some w3.heap.size) :
    IsRdG (w4.setCell ⟨rb, 1, none⟩ v1) base rb fb cap v1 wv d (la ++ [x]) lw ∧ But (fun k => k = rb ∨ av.ownBlock = some k) w (w4.setCell ⟨rb, 1, none⟩ v1) := by
  have h3 := h.below hb
  have hb34 : But (fun k => av.ownBlock = some k) w3 w4 := (But.refl _ _).grown q2 (fun k hk => hk)
  have hss : But (fun k => k = rb) w4 (w4.setCell ⟨rb, 1, none⟩ v1) := (But.refl (fun k => k = rb) w4).setCell (p := ⟨rb, 1, none⟩) rfl _
  have n1 : av.ownBlock ≠ some rb := h3.at_.no_blk h3.blk (by decide)
  have hr : RowF w4 base 3 1 atF v1 (la ++ [x]) := by
    refine ⟨fun y _ => rfl, ?_⟩
    rw [List.length_append, List.flatMap_append]
    simpa using q1
  have hv1 : v1.ownBlock ≠ some rb := hr.no_blk (hb34.blk h3.blk n1) (by decide)
  refine ⟨⟨?_, ?_, ?_, ?_, h.apart⟩, ((But.of_below hb (Nat.le_refl _)).trans (hb34.mono (fun k hk => .inr hk))).trans (hss.mono (fun k hk => .inl hk))⟩
  · exact (hb34.blk h3.blk n1).set 1 v1
  · exact (h3.firm.but hb34 (fun k hk e => h3.at_.ne_row h3.firm (by decide) e hk)).but hss (fun k hk e => h3.fb_ne (by simp [Value.ownBlock] at hk; omega))
  · exact hr.but hss (fun k hk e => hv1 (e ▸ hk))
  · exact (h3.what.but hb34 (fun k hk e => h3.at_.ne_row h3.what (by decide) e hk)).but hss (fun k hk e => h3.what.no_blk h3.blk (by decide) (e ▸ hk))
theorem IsRdG.putWhat (h : IsRdG w base rb fb cap av wv d la lw) {v1 : Value} {x : Nat × List Nat} (hx : x.2.length = 64) (hb : Below w.heap.size w w3)
    (q1 : w4.ownsRow base 33 64 v1 (lw.length + 1) (lw.flatMap whF ++ whF x)) (q2 : w3.grownBy w4 wv.ownBlock) (q3 : v1.ownBlock = wv.ownBlock ∨ v1.ownBlock = some w3.heap.size) :
    IsRdG (w4.setCell ⟨rb, 2, none⟩ v1) base rb fb cap av v1 d la (lw ++ [x]) ∧ But (fun k => k = rb ∨ wv.ownBlock = some k) w (w4.setCell ⟨rb, 2, none⟩ v1) := by
  have h3 := h.below hb
  have hb34 : But (fun k => wv.ownBlock = some k) w3 w4 := (But.refl _ _).grown q2 (fun k hk => hk)
  have hss : But (fun k => k = rb) w4 (w4.setCell ⟨rb, 2, none⟩ v1) := (But.refl (fun k => k = rb) w4).setCell (p := ⟨rb, 2, none⟩) rfl _
  have n1 : wv.ownBlock ≠ some rb := h3.what.no_blk h3.blk (by decide)
  have hr : RowF w4 base 33 64 whF v1 (lw ++ [x]) := by
    refine ⟨fun y hy => ?_, ?_⟩
    · rcases List.mem_append.1 hy with hy | hy
      · exact h.what.1 y hy
      · simp at hy; subst hy; unfold whF; rw [bv_length, hx]
    · rw [List.length_append, List.flatMap_append]
      simpa using q1
  have hv1 : v1.ownBlock ≠ some rb := hr.no_blk (hb34.blk h3.blk n1) (by decide)
  have hva : ∀ k, v1.ownBlock = some k → fb ≠ k := fun k hk e => by
    subst e
    rcases q3 with q | q
    · rw [q] at hk; exact h.apart hk
    · rw [q] at hk
      obtain e := Option.some.inj hk
      have := h3.firm.lt fb rfl
      omega
  refine ⟨⟨?_, ?_, ?_, ?_, fun e => hva _ e rfl⟩, ((But.of_below hb (Nat.le_refl _)).trans (hb34.mono (fun k hk => .inr hk))).trans (hss.mono (fun k hk => .inl hk))⟩
  · exact (hb34.blk h3.blk n1).set 2 v1
  · exact (h3.firm.but hb34 (fun k hk e => by simp [Value.ownBlock] at hk; subst hk; exact h.apart e)).but hss (fun k hk e => h3.fb_ne (by simp [Value.ownBlock] at hk; omega))
  · exact (h3.at_.but hb34 (fun k hk e => h3.at_.ne_row h3.what (by decide) hk e)).but hss (fun k hk e => h3.at_.no_blk h3.blk (by decide) (e ▸ hk))
  · exact hr.but hss (fun k hk e => hv1 (e ▸ hk))
theorem int_typ : ∃ it z, Tryd.prog.info? 3 = some it ∧ it.zero = some z ∧ it.size = 1 ∧ it.bytes = 8 ∧ z.cells.size = 1 := by
  have hA : (Tryd.prog.info? 3).bind (fun it => it.zero.map fun z => (it.size, it.bytes, z.cells.size)) = some (1, 8, 1) := by kernel_rfl
  obtain ⟨it, h1, hA⟩ := Option.bind_eq_some_iff.1 hA
  obtain ⟨z, h2, h5⟩ := Option.map_eq_some_iff.1 hA
  exact ⟨it, z, h1, h2, congrArg Prod.fst h5, congrArg (fun x => x.2.1) h5, congrArg (fun x => x.2.2) h5⟩
theorem int_src (w : World) (k : Nat) : Src (w.alloc (.cells #[.int .i64 (k : Int)] 3)) 1 (some ⟨w.heap.size, 0, none⟩) 1 [.int .i64 (k : Int)] := by
  refine ⟨rfl, (fun h => by cases h), ?_⟩
  rintro ad ⟨rfl⟩ j u hu
  rw [Addr.add_mid, Nat.zero_add]
  exact (IsBlk.new w #[.int .i64 (k : Int)] 3).cell j (by rw [← hu]; simp)
theorem run_pg_slice (w : World) (p : List Nat) (hp : p.length = 64) : (Instr.buildSlice 43 1 #[(0, pgV p)]).run Tryd.prog w = .ok (.slice (some ⟨w.heap.size, 0, none⟩) 1 1) (w.alloc (.cells (nv .u8 p) 33)) := by
  obtain ⟨it, z, h1, h2, h3, h4, h5⟩ := pg_typ
  have hz : z.cells.size = 64 := by rw [h5]; rfl
  have hn : (nv .u8 p).size = 64 := by rw [nv_size]; exact hp
  refine run_buildSlice w _ 33 1 _ _ it z Tryd.underlying43 h1 h2 (by rw [h3]; omega) (by rw [h3]; omega) ?_
  have hsz : ((Array.range (1 * it.size)).map (fun x => z.cells[x % z.cells.size]!)).size = (nv .u8 p).size := by rw [Array.size_map, Array.size_range, h3, hn]
  exact fill_one _ _ _ (by rw [hn, h3]) hsz
theorem pg_src (w : World) (p : List Nat) (hp : p.length = 64) : Src (w.alloc (.cells (nv .u8 p) 33)) 64 (some ⟨w.heap.size, 0, none⟩) 1 (bv p) := by
  refine ⟨by rw [bv_length, hp], (fun h => by cases h), ?_⟩
  rintro ad ⟨rfl⟩ j u hu
  rw [Addr.add_mid, Nat.zero_add]
  refine (IsBlk.new w (nv .u8 p) 33).cell j ?_
  show (bv p).toArray[j]? = some u
  rw [List.getElem?_toArray]
  exact hu

set_option maxRecDepth 100000 in
set_option maxHeartbeats 4000000 in
theorem rwrite_no (h : IsRd w base rb fb cap av wv d) (i : Int) (p : List Nat) (hm : d.may = false) (hb : d.off = false → d.bad i = false) : Calls Tryd.prog 26 #[.pointer (some ⟨rb, 0, none⟩), .int .i64 i, pgV p] w fun e w' => e = .returned (.int .i64 10) ∧ IsRd w' base rb fb cap av wv d.step ∧ But (rdS rb av wv) w w' := by
  go_enter Tryd.func26, Tryd.ntmps26
  unfold pgV
  go_upto_region 1 with fail
  change Code.wp _ _ _ _ (w.alloc (.cells (nv .u8 p) 33))
  have hw : NewPg w (w.alloc (.cells (nv .u8 p) 33)) p := ⟨IsBlk.new _ _ _, (Below.refl _ _).alloc (Nat.le_refl _) _, by simp⟩
  generalize w.alloc (.cells (nv .u8 p) 33) = w1 at hw ⊢
  have h1 := h.below hw.below
  have c4 := h1.c4
  have hno := ref_no h1 i
  have hst := ref_step h1
  rw [hm] at hst
  have HW := Lib.hid (And.intro hw h1)
  clear hw
  cases ho : d.off with
  | true =>
    rw [ho] at c4
    have HS : Hid (d.step = d) := Lib.hid (by simp [DK.step, ho])
    clear ho hb hno hst h1 h
    go_wp2
    go_ret
    exact ⟨rfl, by rw [HS.out]; exact HW.out.2, But.of_below HW.out.1.below (Nat.le_refl _)⟩
  | false =>
    rw [ho] at c4
    rw [hb ho] at hno
    clear ho hb h1 h
    go_wp2_with (first
      | (go_at_call 29; (with_reducible refine hno.mono ?_); rintro e w' ⟨rfl, hw'⟩; obtain rfl := hw'.symm)
      | (go_at_call 34; (with_reducible refine hst.mono ?_); rintro e w2 ⟨rfl, h2, hb2⟩; have H2 := Lib.hid (And.intro h2 hb2); clear h2 hb2))
    go_ret
    exact ⟨rfl, H2.out.1, (But.of_below HW.out.1.below (Nat.le_refl _)).trans (H2.out.2.mono (fun k hk => .inl hk))⟩
set_option maxRecDepth 100000 in
set_option maxHeartbeats 4000000 in
theorem rwrite_bad (h : IsRd w base rb fb cap av wv d) (i : Int) (p : List Nat) (ho : d.off = false) (hb : d.bad i = true) : Calls Tryd.prog 26 #[.pointer (some ⟨rb, 0, none⟩), .int .i64 i, pgV p] w fun e w' => e = .returned (.int .i64 1) ∧ IsRd w' base rb fb cap av wv d ∧ But (rdS rb av wv) w w' := by
  go_enter Tryd.func26, Tryd.ntmps26
  unfold pgV
  go_upto_region 1 with fail
  change Code.wp _ _ _ _ (w.alloc (.cells (nv .u8 p) 33))
  have hw : NewPg w (w.alloc (.cells (nv .u8 p) 33)) p := ⟨IsBlk.new _ _ _, (Below.refl _ _).alloc (Nat.le_refl _) _, by simp⟩
  generalize w.alloc (.cells (nv .u8 p) 33) = w1 at hw ⊢
  have h1 := h.below hw.below
  have c4 := h1.c4
  have hno := ref_no h1 i
  rw [hb] at hno
  rw [ho] at c4
  have HW := Lib.hid (And.intro hw h1)
  clear hw h1 h ho hb
  go_wp2_with (go_at_call 29; (with_reducible refine hno.mono ?_); rintro e w' ⟨rfl, hw'⟩; obtain rfl := hw'.symm)
  go_ret
  exact ⟨rfl, HW.out.2, But.of_below HW.out.1.below (Nat.le_refl _)⟩

set_option maxRecDepth 100000 in
set_option maxHeartbeats 4000000 in
theorem rwrite_ok (h : IsRd w base rb fb cap av wv d) (i : Nat) (p : List Nat) (hp : p.length = 64) (ho : d.off = false) (hi : i < d.firm.length) (hm : d.may = true) (hl : d.pend.length < 1000000) (hbase : base ≤ w.heap.size) : Calls Tryd.prog 26 #[.pointer (some ⟨rb, 0, none⟩), .int .i64 (i : Int), pgV p] w fun e w' => e = .returned (.int .i64 0) ∧ ∃ av' wv', IsRd w' base rb fb cap av' wv' (d.step.put i p) ∧ But (rdS rb av wv) w w' ∧ (∀ k, av'.ownBlock = some k ∨ wv'.ownBlock = some k → av.ownBlock = some k ∨ wv.ownBlock = some k ∨ w.heap.size ≤ k) := by
  have hb : d.bad (i : Int) = false := by simp only [DK.bad, Bool.or_eq_false_iff, decide_eq_false_iff_not]; omega
  go_enter Tryd.func26, Tryd.ntmps26
  unfold pgV
  go_upto_region 1 with fail
  change Code.wp _ _ _ _ (w.alloc (.cells (nv .u8 p) 33))
  have hw : NewPg w (w.alloc (.cells (nv .u8 p) 33)) p := ⟨IsBlk.new _ _ _, (Below.refl _ _).alloc (Nat.le_refl _) _, by simp⟩
  generalize w.alloc (.cells (nv .u8 p) 33) = w1 at hw ⊢
  have h1 := h.below hw.below
  have c4 := h1.c4
  have hno := ref_no h1 (i : Int)
  have hst := ref_step h1
  rw [hm] at hst
  rw [hb] at hno
  rw [ho] at c4
  have HW := Lib.hid (And.intro hw h)
  have HH := Lib.hid (And.intro hp (And.intro hi (And.intro hl hbase)))
  clear hw h1 h ho hb hm hp hi hl hbase
  go_upto_region 7 with (first
    | (go_at_call 29; (with_reducible refine hno.mono ?_); rintro e w' ⟨rfl, hw'⟩; obtain rfl := hw'.symm)
    | (go_at_call 34; (with_reducible refine hst.mono ?_); rintro e w2 ⟨rfl, h2, hb2⟩; have H2 := Lib.hid (And.intro h2 hb2); clear h2 hb2))
  clear hno hst c4
  obtain ⟨hsf1, hsf2⟩ := step_firm d
  have hg := H2.out.1.gen
  rw [hsf2] at hg
  obtain ⟨aa, ac, rfl⟩ := hg.at_.slice
  obtain ⟨wa, wc, rfl⟩ := hg.what.slice
  have HSF := Lib.hid (And.intro hsf1 hsf2)
  clear hsf1 hsf2
  have c1 := hg.blk.cell 1 rfl
  have hwx : IsBlk w2 w.heap.size (nv .u8 p) 33 := H2.out.2.blk HW.out.1.blk (fun e => by have := HW.out.2.blk.lt; omega)
  have hbs : base ≤ w2.heap.size := Nat.le_trans HH.out.2.2.2 (Nat.le_trans HW.out.1.below.size H2.out.2.size)
  have HG := Lib.hid (And.intro hg (And.intro hwx hbs))
  clear hg hwx hbs
  obtain ⟨it, z, hi1, hi2, hi3, hi4, hi5⟩ := int_typ
  have hb3 : Below w2.heap.size w2 (w2.alloc (.cells #[.int .i64 (i : Int)] 3)) := (Below.refl _ _).alloc (Nat.le_refl _) _
  have hown := (HG.out.1.below hb3).at_.2
  have z1 := (HG.out.1.below hb3).blk.fz 1
  have c1' := (HG.out.1.below hb3).blk.cell 1 rfl
  have hm1 : d.pend.length + 1 ≤ maxLen := by have := HH.out.2.2.1; unfold maxLen; omega
  have hm2 : (d.pend.length + 1) * 8 ≤ 140737488355328 := by have := HH.out.2.2.1; omega
  have hm3 : base ≤ (w2.alloc (.cells #[.int .i64 (i : Int)] 3)).heap.size := Nat.le_trans HG.out.2.2 hb3.size
  have HA := Lib.hid (And.intro hi1 (And.intro hi2 (And.intro hi3 (And.intro hi4 (And.intro hi5 (And.intro hown (And.intro hm1 (And.intro hm2 hm3))))))))
  have HB3 := Lib.hid (And.intro hb3 (And.intro z1 c1'))
  clear hi1 hi2 hi3 hi4 hi5 hown hm1 hm2 hm3 hb3 z1 c1'
  go_upto_region 8 with (refine wpList_append_src (w2.alloc (.cells #[.int .i64 (i : Int)] 3)) (by rfl) (.tmp 23) (.tmp 25) 29 (by rfl) base 3 it z 1 8 Tryd.underlying29 HA.out.1 HA.out.2.1 HA.out.2.2.1 HA.out.2.2.2.1 HA.out.2.2.2.2.1 (by decide) (.slice aa d.pend.length ac) d.pend.length _ (by rfl) HA.out.2.2.2.2.2.1 (some ⟨w2.heap.size, 0, none⟩) 1 1 [.int .i64 (i : Int)] (by rfl) (int_src w2 i) (by intro e; cases e) (fun u hu => by obtain rfl := List.mem_singleton.1 hu; rfl) HA.out.2.2.2.2.2.2.1 HA.out.2.2.2.2.2.2.2.1 HA.out.2.2.2.2.2.2.2.2 fun v1 w4 q1 q2 q3 => ?_
                         obtain ⟨g1, k1, rfl⟩ := own_some q1
                         have hp4 := HG.out.1.putAt (x := (i, p)) HB3.out.1 q1 q2 q3
                         have hne := (HG.out.1.below HB3.out.1).at_.no_blk (HG.out.1.below HB3.out.1).blk (by decide)
                         have c14 := (World.cell?_of_block (a := ⟨rb, 1, none⟩) (q2.block rb (cell_lt HB3.out.2.2) (fun e => hne e.symm))).trans HB3.out.2.2
                         have z14 := (World.frozen?_of_block (a := ⟨rb, 1, none⟩) (q2.block rb (cell_lt HB3.out.2.2) (fun e => hne e.symm))).trans HB3.out.2.1
                         have H4 := Lib.hid (And.intro hp4 (q3.imp id (fun e => (⟨_, e, HB3.out.1.size⟩ : ∃ k, (Value.slice (some ⟨g1, 0, none⟩) (d.pend.length + 1) k1).ownBlock = some k ∧ w2.heap.size ≤ k))))
                         clear q1 q2 q3 hp4 hne)
  generalize w4.setCell ⟨rb, 1, none⟩ (.slice (some ⟨g1, 0, none⟩) (d.pend.length + 1) k1) = w5 at H4 ⊢
  clear c14 z14 c1
  have hx5 : IsBlk w5 w.heap.size (nv .u8 p) 33 := by
    refine H4.out.1.2.blk HG.out.2.1 (fun e => ?_)
    rcases e with e | e
    · have := HW.out.2.blk.lt; omega
    · exact HG.out.1.at_.no_blk HG.out.2.1 (by decide) e
  have c2 := H4.out.1.1.blk.cell 2 rfl
  have hb6 : Below w5.heap.size w5 (w5.drew.alloc (.cells (nv .u8 p) 33)) := ((Below.refl _ _).drew).alloc (Nat.le_refl _) _
  have hsrc := pg_src w5.drew p HH.out.1
  have hrun := run_pg_slice w5.drew p HH.out.1
  have h6 := H4.out.1.1.below hb6
  have hx6 : IsBlk (w5.drew.alloc (.cells (nv .u8 p) 33)) w.heap.size (nv .u8 p) 33 := hx5.below hb6 hx5.lt
  have hm1 : d.pend.length + 1 ≤ maxLen := by have := HH.out.2.2.1; unfold maxLen; omega
  have hm2 : (d.pend.length + 1) * 64 ≤ 140737488355328 := by have := HH.out.2.2.1; omega
  have hm3 : base ≤ (w5.drew.alloc (.cells (nv .u8 p) 33)).heap.size := Nat.le_trans HG.out.2.2 (Nat.le_trans H4.out.1.2.size hb6.size)
  refine wp_region_till 8 (S := fun w' => w'.cell? ⟨rb, 2, none⟩ = some (.slice wa d.pend.length wc) ∧ IsBlk w' w.heap.size (nv .u8 p) 33) (by kernel_rfl) ⟨c2, hx5⟩ (fun hHeld => ?_)
  generalize w5.drew.alloc (.cells (nv .u8 p) 33) = w6 at hb6 hsrc hrun h6 hx6 hm3
  have H6 := Lib.hid (And.intro hb6 (And.intro hsrc (And.intro hrun (And.intro h6 (And.intro hx6 (And.intro hm1 (And.intro hm2 hm3)))))))
  clear hb6 hsrc hrun h6 hx6 hm1 hm2 hm3 c2
  have hlen : (bv p).length = 64 := by rw [bv_length, HH.out.1]
  refine wpTill_take (i := 0) (v := ?_) rfl (by kernel_rfl) (by kernel_rfl) (by kernel_rfl) (by kernel_rfl) (fun _ _ _ h => h) (Or.inl ⟨by rfl, ?_⟩) (by with_reducible assumption) ?_
  rotate_left
  · intro w hSw; (try dsimp only at hSw); (try go_split_ands); go_simp; (try with_reducible rfl)
  (try simp only [Act.put, List.getElem_toArray, List.getElem_cons_succ, List.getElem_cons_zero, List.setIfInBounds_toArray, List.set_cons_zero, List.set_cons_succ])
  refine wpTill_take (i := 1) (v := ?_) rfl (by kernel_rfl) (by kernel_rfl) (by kernel_rfl) (by kernel_rfl) (fun _ _ _ h => h) (Or.inl ⟨by rfl, ?_⟩) (by with_reducible assumption) ?_
  rotate_left
  · intro w hSw; (try dsimp only at hSw); (try go_split_ands); go_simp; (try with_reducible rfl)
  (try simp only [Act.put, List.getElem_toArray, List.getElem_cons_succ, List.getElem_cons_zero, List.setIfInBounds_toArray, List.set_cons_zero, List.set_cons_succ])
  refine wpTill_take (i := 2) (v := ?_) rfl (by kernel_rfl) (by kernel_rfl) (by kernel_rfl) (by kernel_rfl) (fun _ _ _ h => h) (Or.inl ⟨by rfl, ?_⟩) (by with_reducible assumption) ?_
  rotate_left
  · intro w hSw; (try dsimp only at hSw); (try go_split_ands); go_simp; (try with_reducible rfl)
  (try simp only [Act.put, List.getElem_toArray, List.getElem_cons_succ, List.getElem_cons_zero, List.setIfInBounds_toArray, List.set_cons_zero, List.set_cons_succ])
  refine wpTill_take (i := 3) (v := ?_) rfl (by kernel_rfl) (by kernel_rfl) (by kernel_rfl) (by kernel_rfl) (fun _ _ _ h => h) (Or.inl ⟨by rfl, ?_⟩) (by with_reducible assumption) ?_
  rotate_left
  · intro w hSw; (try dsimp only at hSw); (try go_split_ands); go_simp; (try with_reducible rfl)
  (try simp only [Act.put, List.getElem_toArray, List.getElem_cons_succ, List.getElem_cons_zero, List.setIfInBounds_toArray, List.set_cons_zero, List.set_cons_succ])
  refine wpTill_take (i := 4) (v := ?_) rfl (by kernel_rfl) (by kernel_rfl) (by kernel_rfl) (by kernel_rfl) (fun _ _ _ h => h) (Or.inl ⟨by rfl, ?_⟩) (by with_reducible assumption) ?_
  rotate_left
  · intro w hSw; (try dsimp only at hSw); (try go_split_ands); go_simp; (try with_reducible rfl)
  (try simp only [Act.put, List.getElem_toArray, List.getElem_cons_succ, List.getElem_cons_zero, List.setIfInBounds_toArray, List.set_cons_zero, List.set_cons_succ])
  refine wpTill_take (i := 5) (v := .agg (bv p).toArray) rfl (by kernel_rfl) (by kernel_rfl) (by kernel_rfl) (by kernel_rfl) (fun _ _ _ h => h) (yieldsIf_load_mid (by rfl) 33 (.tmp 5) (by rfl) w.heap.size 0 (by rfl) (bv p) _ (fun w hS => range_blk hS.2) Tryd.underlying33 rfl (by rw [hlen]; kernel_rfl)) (by with_reducible assumption) ?_
  (try simp only [Act.put, List.getElem_toArray, List.getElem_cons_succ, List.getElem_cons_zero, List.setIfInBounds_toArray, List.set_cons_zero, List.set_cons_succ])
  refine wpTill_ready (rs := [6]) (by kernel_rfl) (by simp) ?_
  refine TillAll.cons rfl (fun K9 hK9 => ?_) TillAll.nil
  rw [if_pos (by rfl)]
  simp only [List.getElem_toArray, List.getElem_cons_succ, List.getElem_cons_zero]
  refine wp_slice_one 43 (.tmp 34) (by rfl) _ _ (by rfl) H6.out.2.2.1 ?_
  refine hK9.out _ _ ⟨H6.out.2.2.2.1.blk.cell 2 rfl, H6.out.2.2.2.2.1⟩ (fun hHeld => ?_)
  clear hK9 K9
  (try simp only [Act.put, List.getElem_toArray, List.getElem_cons_succ, List.getElem_cons_zero, List.setIfInBounds_toArray, List.set_cons_zero, List.set_cons_succ])
  refine wpTill_ready (rs := [7]) (by kernel_rfl) (by simp) ?_
  refine TillAll.cons rfl (fun K9 hK9 => ?_) TillAll.nil
  obtain ⟨it, z, hi1, hi2, hi3, hi4, hi5⟩ := pg_typ
  refine step_append_src w6 (by rfl) (.tmp 33) (.tmp 35) 43 (by rfl) base 33 it z 64 64 Tryd.underlying43 hi1 hi2 hi3 hi4 (by rw [hi5]; rfl) (by decide) _ _ _ (by rfl) H6.out.2.2.2.1.what.2 _ 1 1 (bv p) (by rfl) H6.out.2.1 (by intro e; cases e) (bv_one _) H6.out.2.2.2.2.2.1 H6.out.2.2.2.2.2.2.1 H6.out.2.2.2.2.2.2.2 fun v' w7 q1 q2 q3 => ?_
  obtain ⟨g2, k2, rfl⟩ := own_some q1
  have hfin := H4.out.1.1.putWhat (x := (i, p)) HH.out.1 H6.out.1 q1 q2 q3
  have hne := H6.out.2.2.2.1.what.no_blk H6.out.2.2.2.1.blk (by decide)
  have c20 := H6.out.2.2.2.1.blk.cell 2 rfl
  have c27 := (World.cell?_of_block (a := ⟨rb, 2, none⟩) (q2.block rb (cell_lt c20) (fun e => hne e.symm))).trans c20
  have z27 := (World.frozen?_of_block (a := ⟨rb, 2, none⟩) (q2.block rb (cell_lt c20) (fun e => hne e.symm))).trans (H6.out.2.2.2.1.blk.fz 2)
  have hown7 : (∀ k, (Value.slice (some ⟨g2, 0, none⟩) (d.pend.length + 1) k2).ownBlock = some k → (Value.slice wa d.pend.length wc).ownBlock = some k ∨ w.heap.size ≤ k) := fun k hk => by
    rcases q3 with e | e
    · rw [e] at hk; exact .inl hk
    · rw [e] at hk
      obtain rfl := Option.some.inj hk
      right
      exact Nat.le_trans HW.out.1.below.size (Nat.le_trans H2.out.2.size (Nat.le_trans H4.out.1.2.size H6.out.1.size))
  have hx7 : IsBlk w7 w.heap.size (nv .u8 p) 33 ∨ True := .inr trivial
  have HF := Lib.hid (And.intro hfin hown7)
  refine hK9.out _ _ ⟨c27, ?_⟩ (fun hHeld => ?_)
  · refine H6.out.2.2.2.2.1.of_block (q2.block _ H6.out.2.2.2.2.1.lt (fun e => ?_))
    have h1 := H4.out.1.1.what.lt _ e.symm
    have h2 := (HW.out.2.what.lt)
    have h3 : (Value.slice wa d.pend.length wc).ownBlock = some w.heap.size := e.symm
    have := h2 _ h3
    omega
  clear hK9 K9 q1 q2 q3 hfin hown7 hx7 hi1 hi2 hi3 hi4 hi5 hne c20
  (try simp only [Act.put, List.getElem_toArray, List.getElem_cons_succ, List.getElem_cons_zero, List.setIfInBounds_toArray, List.set_cons_zero, List.set_cons_succ])
  refine wpTill_last (by kernel_rfl) ?_
  refine wpAny_take (i := 8) (v := ?_) rfl (by kernel_rfl) (by kernel_rfl) (by kernel_rfl) (fun _ _ _ h => h) (Or.inl ⟨by rfl, ?_⟩) ?_
  rotate_left
  · intro w; go_simp; (try with_reducible rfl)
  (try simp only [Act.put, List.getElem_toArray, List.getElem_cons_succ, List.getElem_cons_zero, List.setIfInBounds_toArray, List.set_cons_zero, List.set_cons_succ])
  refine wpAny_take (i := 9) (v := ?_) rfl (by kernel_rfl) (by kernel_rfl) (by kernel_rfl) (fun _ _ _ h => h) (Or.inl ⟨by rfl, ?_⟩) ?_
  rotate_left
  · intro w; go_simp; (try with_reducible rfl)
  (try simp only [Act.put, List.getElem_toArray, List.getElem_cons_succ, List.getElem_cons_zero, List.setIfInBounds_toArray, List.set_cons_zero, List.set_cons_succ])
  refine wpAny_ready (rs := [10]) (by kernel_rfl) (by simp) ?_
  refine AllReady.cons rfl (fun K9 hK9 => ?_) AllReady.nil
  go_simp
  refine hK9 _ _ ?_
  clear hK9 K9
  refine wpAny_done (by kernel_rfl) ?_ _
  go_wp2
  go_ret
  have hpe : (d.step.put i p).pend = d.pend ++ [(i, p)] := by show d.step.pend ++ _ = _; rw [HSF.out.2]
  refine ⟨rfl, _, _, ⟨HF.out.1.1.blk, HF.out.1.1.firm, by rw [hpe]; exact HF.out.1.1.at_, by rw [hpe]; exact HF.out.1.1.what, HF.out.1.1.apart, ?_, ?_, ?_, ?_, ?_, H2.out.1.brb⟩, ?_, ?_⟩
  · intro x hx
    show x.1 < d.step.firm.length
    have hx' : x ∈ d.pend ++ [(i, p)] := by
      have : x ∈ d.step.pend ++ [(i, p)] := hx
      rwa [HSF.out.2] at this
    rw [HSF.out.1]
    rcases List.mem_append.1 hx' with h0 | h0
    · exact HW.out.2.pend x h0
    · simp at h0; subst h0; exact HH.out.2.1
  · exact H2.out.1.n1
  · exact H2.out.1.n2
  · exact H2.out.1.f1
  · exact H2.out.1.f2
  · exact (((But.of_below HW.out.1.below (Nat.le_refl _)).trans (H2.out.2.mono (fun k hk => .inl hk))).trans (H4.out.1.2.mono (fun k hk => hk.imp id .inl))).trans (HF.out.1.2.mono (fun k hk => hk.imp id .inr))
  · rintro k (hk | hk)
    · rcases H4.out.2 with e | ⟨j, e, hj⟩
      · rw [e] at hk; exact .inl hk
      · rw [e] at hk
        obtain rfl := Option.some.inj hk
        exact .inr (.inr (Nat.le_trans HW.out.1.below.size (Nat.le_trans H2.out.2.size hj)))
    · exact .inr (HF.out.2 k hk)

/-- Write, whatever comes. -/
theorem ref_write (h : IsRd w base rb fb cap av wv d) (i : Int) (p : List Nat) (hp : p.length = 64) (hl : d.pend.length < 1000000) (hbase : base ≤ w.heap.size) : Calls Tryd.prog 26 #[.pointer (some ⟨rb, 0, none⟩), .int .i64 i, pgV p] w fun e w' => e = .returned (.int .i64 ((d.writeE i : Nat) : Int)) ∧ ∃ av' wv', IsRd w' base rb fb cap av' wv' (d.write i p) ∧ But (rdS rb av wv) w w' ∧ (∀ k, av'.ownBlock = some k ∨ wv'.ownBlock = some k → av.ownBlock = some k ∨ wv.ownBlock = some k ∨ w.heap.size ≤ k) := by
  have hid : ∀ k, av.ownBlock = some k ∨ wv.ownBlock = some k → av.ownBlock = some k ∨ wv.ownBlock = some k ∨ w.heap.size ≤ k := fun k hk => hk.imp id .inl
  cases ho : d.off with
  | true =>
    have hm : d.may = false := by simp [DK.may, ho]
    have e1 : d.writeE i = 10 := by simp [DK.writeE, ho]
    have e2 : d.write i p = d := by simp [DK.write, ho]
    have e3 : d.step = d := by simp [DK.step, ho]
    rw [e1, e2]
    refine (rwrite_no h i p hm (fun h => by rw [ho] at h; cases h)).mono ?_
    rintro e w' ⟨rfl, h2, h3⟩
    rw [e3] at h2
    exact ⟨rfl, av, wv, h2, h3, hid⟩
  | false =>
    cases hb : d.bad i with
    | true =>
      have e1 : d.writeE i = 1 := by simp [DK.writeE, ho, hb]
      have e2 : d.write i p = d := by simp [DK.write, ho, hb]
      rw [e1, e2]
      exact (rwrite_bad h i p ho hb).mono fun e w' ⟨h0, h2, h3⟩ => ⟨h0, av, wv, h2, h3, hid⟩
    | false =>
      cases hm : d.may with
      | false =>
        have e1 : d.writeE i = 10 := by simp [DK.writeE, ho, hb, hm]
        have e2 : d.write i p = d.step := by simp [DK.write, ho, hb, hm]
        rw [e1, e2]
        exact (rwrite_no h i p hm (fun _ => hb)).mono fun e w' ⟨h0, h2, h3⟩ => ⟨h0, av, wv, h2, h3, hid⟩
      | true =>
        have e1 : d.writeE i = 0 := by simp [DK.writeE, ho, hb, hm]
        simp only [DK.bad, Bool.or_eq_false_iff, decide_eq_false_iff_not] at hb
        obtain ⟨k, rfl⟩ : ∃ k : Nat, i = (k : Int) := ⟨i.toNat, by omega⟩
        have hbad : d.bad (k : Int) = false := by simp only [DK.bad, Bool.or_eq_false_iff, decide_eq_false_iff_not]; omega
        have e2 : d.write (k : Int) p = d.step.put k p := by
          simp only [DK.write, ho, hbad, hm, if_true, DK.put, Int.toNat_natCast, (step_firm d).2]
          rfl
        rw [e1, e2]
        exact rwrite_ok h k p hp ho (by omega) hm hl hbase
end
end Go.Proofs.YtjmjfgbpjecgfaaDoor
