/-
  disk: one call of both, walked: both.
-/
import Derived.Test.YtjmjfgbpjecgfaaDoorDkBoth
namespace Go.Proofs.YtjmjfgbpjecgfaaDoor
set_option linter.unusedVariables false
set_option linter.unusedSimpArgs false
open Go.RowKit

/-- What both leaves: one disk and the document's, as one number has it; the answers were alike. -/
def BothP (B : Nat) (w : World) (n k : Nat) (e : Ending) (w' : World) : Prop := ∃ db' rb' d', e = .returned (.tuple #[.pointer (some ⟨db', 0, none⟩), .pointer (some ⟨rb', 0, none⟩), .bool true]) ∧ RI NoX B w' db' rb' d' d' ∧ Has n (k + 1) d' ∧ Below B w w'
/-- Ahead of both. -/
structure BothI (W : World) (B : Nat) (w : World) (db rb : Nat) (d : DK) (n k : Nat) (K : CallK) : Prop where
  hg : HasET W
  bel : Below W.heap.size W w
  hB : W.heap.size ≤ B
  hs : B ≤ w.heap.size
  ri : RI NoX B w db rb d d
  has : Has n k d
  hk : k ≤ 1000
  ok : K.ok w
def pg11 (c : Nat) : List Nat := c :: 1 :: List.replicate 62 0
theorem pg11_length (c : Nat) : (pg11 c).length = 64 := by simp [pg11]
theorem res_below {w w' : World} {v : Value} {n : Nat} (h : IsRes w v n) (hb : Below w.heap.size w w') : IsRes w' v n := by
  unfold IsRes at *
  split
  · rename_i e; rw [if_pos e] at h; exact h
  · rename_i e
    rw [if_neg e] at h
    obtain ⟨b, rfl, h⟩ := h
    exact ⟨b, rfl, h.below hb⟩
theorem wpList_eql_same {ops : Array Oper} {rest : List Oper} {o : Oper} {a : Act} {w : World} {Q : Exit → Act → World → Prop} (hw : Region.wanted o (yielded ops a.tmps) = true) (x y : Operand) (ho : o.op = .binOp .eql 33 x y 33) (p : List Nat) (hp : p.length = 64) (hx : a.eval x = pgV p) (hy : a.eval y = pgV p)
    (h : wpList Tryd.prog ops Q rest (a.put o.dst (.bool true)) w) : wpList Tryd.prog ops Q (o :: rest) a w :=
  wpList_eql_pg hw x y ho p p hp hp hx hy (by rw [beq_self_eq_true]; exact h)
section
variable {W : World} {B : Nat} {w : World} {db rb : Nat} {d : DK} {n k : Nat} {K : CallK}
theorem BothI.var (h : BothI W B w db rb d n k K) : IsBlk (w.alloc (.cells K.cells.toArray 31)) w.heap.size K.cells.toArray 31 ∧ RI (fun j => j = w.heap.size) B (w.alloc (.cells K.cells.toArray 31)) db rb d d ∧ Below w.heap.size w (w.alloc (.cells K.cells.toArray 31)) :=
  have hb : Below w.heap.size w (w.alloc (.cells K.cells.toArray 31)) := (Below.refl _ _).alloc (Nat.le_refl _) _
  ⟨IsBlk.new _ _ _, h.ri.addX hb (Nat.le_refl _) (by simp), hb⟩
theorem BothI.et (h : BothI W B w db rb d n k K) {w' : World} (hb : Below B w w') : HasET w' := h.hg.below (h.bel.trans (hb.mono h.hB))

set_option maxRecDepth 100000 in
set_option maxHeartbeats 4000000 in
theorem both_write (h : BothI W B w db rb d n k K) (hkd : K.kd = 1) : Calls Tryd.prog 20 #[.pointer (some ⟨db, 0, none⟩), .pointer (some ⟨rb, 0, none⟩), .agg K.cells.toArray] w (BothP B w n k) := by
  go_enter Tryd.func20, Tryd.ntmps20
  go_upto_region 1 with fail
  change Code.wp _ _ _ _ (w.alloc (.cells K.cells.toArray 31))
  have hv := h.var
  generalize w.alloc (.cells K.cells.toArray 31) = w1 at hv ⊢
  have c0 := hv.1.cell 0 (v := .int .i64 K.kd) rfl
  have c1 := hv.1.cell 1 (v := .int .i64 K.i) rfl
  have c2 := hv.1.cell 2 (v := .int .u8 (K.c : Int)) rfl
  rw [hkd] at c0
  have hb1 : Below B w w1 := hv.2.2.mono h.hs
  have HV := Lib.hid (And.intro h (And.intro hv.2.1 (And.intro hb1 (Nat.le_trans h.hs hb1.size))))
  have hpl : d.pend.length < 1000000 := by have := h.has.2; have := h.hk; omega
  have HPL := Lib.hid hpl
  generalize hcb : w.heap.size = cb at *
  clear hv hb1 h hpl hkd
  go_upto_region 7 with fail
  refine wp_region_held_drew (S := fun w' => w'.cell? ⟨cb, 1, none⟩ = some (.int .i64 K.i) ∧ w'.cell? ⟨cb, 2, none⟩ = some (.int .u8 (K.c : Int))) (by kernel_rfl) ⟨c1, c2⟩ (fun hHeld => ?_)
  clear c1 c2 c0
  refine wpAnyH_take (i := 0) (v := ?_) rfl (by kernel_rfl) (by kernel_rfl) (by kernel_rfl) (fun _ _ _ h => h) (Or.inl ⟨by rfl, ?_⟩) (by with_reducible assumption) ?_
  rotate_left
  · intro w hSw; (try dsimp only at hSw); (try go_split_ands); go_simp; (try with_reducible rfl)
  (try simp only [Act.put, List.getElem_toArray, List.getElem_cons_succ, List.getElem_cons_zero, List.setIfInBounds_toArray, List.set_cons_zero, List.set_cons_succ])
  refine wpAnyH_take (i := 1) (v := ?_) rfl (by kernel_rfl) (by kernel_rfl) (by kernel_rfl) (fun _ _ _ h => h) (Or.inl ⟨by rfl, ?_⟩) (by with_reducible assumption) ?_
  rotate_left
  · intro w hSw; (try dsimp only at hSw); (try go_split_ands); go_simp; (try with_reducible rfl)
  (try simp only [Act.put, List.getElem_toArray, List.getElem_cons_succ, List.getElem_cons_zero, List.setIfInBounds_toArray, List.set_cons_zero, List.set_cons_succ])
  refine wpAnyH_take (i := 2) (v := ?_) rfl (by kernel_rfl) (by kernel_rfl) (by kernel_rfl) (fun _ _ _ h => h) (Or.inl ⟨by rfl, ?_⟩) (by with_reducible assumption) ?_
  rotate_left
  · intro w hSw; (try dsimp only at hSw); (try go_split_ands); go_simp; (try with_reducible rfl)
  (try simp only [Act.put, List.getElem_toArray, List.getElem_cons_succ, List.getElem_cons_zero, List.setIfInBounds_toArray, List.set_cons_zero, List.set_cons_succ])
  refine wpAnyH_take (i := 3) (v := ?_) rfl (by kernel_rfl) (by kernel_rfl) (by kernel_rfl) (fun _ _ _ h => h) (Or.inl ⟨by rfl, ?_⟩) (by with_reducible assumption) ?_
  rotate_left
  · intro w hSw; (try dsimp only at hSw); (try go_split_ands); go_simp; (try with_reducible rfl)
  (try simp only [Act.put, List.getElem_toArray, List.getElem_cons_succ, List.getElem_cons_zero, List.setIfInBounds_toArray, List.set_cons_zero, List.set_cons_succ])
  refine wpAnyH_take (i := 4) (v := ?_) rfl (by kernel_rfl) (by kernel_rfl) (by kernel_rfl) (fun _ _ _ h => h) (Or.inl ⟨by rfl, ?_⟩) (by with_reducible assumption) ?_
  rotate_left
  · intro w hSw; (try dsimp only at hSw); (try go_split_ands); go_simp; (try with_reducible rfl)
  (try simp only [Act.put, List.getElem_toArray, List.getElem_cons_succ, List.getElem_cons_zero, List.setIfInBounds_toArray, List.set_cons_zero, List.set_cons_succ])
  refine wpAnyH_take (i := 5) (v := ?_) rfl (by kernel_rfl) (by kernel_rfl) (by kernel_rfl) (fun _ _ _ h => h) (Or.inl ⟨by rfl, ?_⟩) (by with_reducible assumption) ?_
  rotate_left
  · intro w hSw; (try dsimp only at hSw); (try go_split_ands); go_simp; (try with_reducible rfl)
  (try simp only [Act.put, List.getElem_toArray, List.getElem_cons_succ, List.getElem_cons_zero, List.setIfInBounds_toArray, List.set_cons_zero, List.set_cons_succ])
  refine wpAnyH_take (i := 6) (v := ?_) rfl (by kernel_rfl) (by kernel_rfl) (by kernel_rfl) (fun _ _ _ h => h) (Or.inl ⟨by rfl, ?_⟩) (by with_reducible assumption) ?_
  rotate_left
  · intro w hSw; (try dsimp only at hSw); (try go_split_ands); go_simp; (try with_reducible rfl)
  (try simp only [Act.put, List.getElem_toArray, List.getElem_cons_succ, List.getElem_cons_zero, List.setIfInBounds_toArray, List.set_cons_zero, List.set_cons_succ])
  refine wpAnyH_take (i := 7) (v := ?_) rfl (by kernel_rfl) (by kernel_rfl) (by kernel_rfl) (fun _ _ _ h => h) (Or.inl ⟨by rfl, ?_⟩) (by with_reducible assumption) ?_
  rotate_left
  · intro w hSw; (try dsimp only at hSw); (try go_split_ands); go_simp; (try with_reducible rfl)
  (try simp only [Act.put, List.getElem_toArray, List.getElem_cons_succ, List.getElem_cons_zero, List.setIfInBounds_toArray, List.set_cons_zero, List.set_cons_succ])
  refine wpAnyH_take (i := 10) (v := ?_) rfl (by kernel_rfl) (by kernel_rfl) (by kernel_rfl) (fun _ _ _ h => h) (Or.inl ⟨by rfl, ?_⟩) (by with_reducible assumption) ?_
  rotate_left
  · intro w hSw; (try dsimp only at hSw); (try go_split_ands); go_simp; (try with_reducible rfl)
  (try simp only [Act.put, List.getElem_toArray, List.getElem_cons_succ, List.getElem_cons_zero, List.setIfInBounds_toArray, List.set_cons_zero, List.set_cons_succ])
  refine wpAnyH_take (i := 11) (v := ?_) rfl (by kernel_rfl) (by kernel_rfl) (by kernel_rfl) (fun _ _ _ h => h) (Or.inl ⟨by rfl, ?_⟩) (by with_reducible assumption) ?_
  rotate_left
  · intro w hSw; (try dsimp only at hSw); (try go_split_ands); go_simp; (try with_reducible rfl)
  (try simp only [Act.put, List.getElem_toArray, List.getElem_cons_succ, List.getElem_cons_zero, List.setIfInBounds_toArray, List.set_cons_zero, List.set_cons_succ])
  refine wpAnyH_take (i := 12) (v := ?_) rfl (by kernel_rfl) (by kernel_rfl) (by kernel_rfl) (fun _ _ _ h => h) (Or.inl ⟨by rfl, ?_⟩) (by with_reducible assumption) ?_
  rotate_left
  · intro w hSw; (try dsimp only at hSw); (try go_split_ands); go_simp; (try with_reducible rfl)
  (try simp only [Act.put, List.getElem_toArray, List.getElem_cons_succ, List.getElem_cons_zero, List.setIfInBounds_toArray, List.set_cons_zero, List.set_cons_succ])
  refine wpAnyH_take (i := 13) (v := ?_) rfl (by kernel_rfl) (by kernel_rfl) (by kernel_rfl) (fun _ _ _ h => h) (Or.inl ⟨by rfl, ?_⟩) (by with_reducible assumption) ?_
  rotate_left
  · intro w hSw; (try dsimp only at hSw); (try go_split_ands); go_simp; (try with_reducible rfl)
  (try simp only [Act.put, List.getElem_toArray, List.getElem_cons_succ, List.getElem_cons_zero, List.setIfInBounds_toArray, List.set_cons_zero, List.set_cons_succ])
  refine wpAnyH_take (i := 14) (v := ?_) rfl (by kernel_rfl) (by kernel_rfl) (by kernel_rfl) (fun _ _ _ h => h) (Or.inl ⟨by rfl, ?_⟩) (by with_reducible assumption) ?_
  rotate_left
  · intro w hSw; (try dsimp only at hSw); (try go_split_ands); go_simp; (try with_reducible rfl)
  (try simp only [Act.put, List.getElem_toArray, List.getElem_cons_succ, List.getElem_cons_zero, List.setIfInBounds_toArray, List.set_cons_zero, List.set_cons_succ])
  refine wpAnyH_take (i := 15) (v := ?_) rfl (by kernel_rfl) (by kernel_rfl) (by kernel_rfl) (fun _ _ _ h => h) (Or.inl ⟨by rfl, ?_⟩) (by with_reducible assumption) ?_
  rotate_left
  · intro w hSw; (try dsimp only at hSw); (try go_split_ands); go_simp; (try with_reducible rfl)
  (try simp only [Act.put, List.getElem_toArray, List.getElem_cons_succ, List.getElem_cons_zero, List.setIfInBounds_toArray, List.set_cons_zero, List.set_cons_succ])
  have hwr := (HV.out.2.1.below ((Below.refl w1.heap.size w1).drew)).writeD K.i (pg11 K.c) (pg11_length K.c) HPL.out HV.out.2.2.2
  refine wpAnyH_ready (rs := [8]) (by kernel_rfl) (by simp) ?_
  refine AllReadyH.cons rfl (fun K9 hK9 => ?_) AllReadyH.nil
  go_simp
  go_wp2_with (go_at_call 11; refine hwr.mono ?_; rintro e w2 ⟨v2, rfl, hr2, h2, hb2, hx2⟩; have H2 := Lib.hid (And.intro hr2 (And.intro h2 (And.intro hb2 hx2))); clear hr2 h2 hb2 hx2)
  clear hwr
  refine hK9.out _ _ ⟨(H2.out.2.2.2.cell (cell_lt hHeld.1) (fun e => e rfl)).trans hHeld.1, (H2.out.2.2.2.cell (cell_lt hHeld.2) (fun e => e rfl)).trans hHeld.2⟩ (fun hHeld => ?_)
  clear hK9 K9
  (try simp only [Act.put, List.getElem_toArray, List.getElem_cons_succ, List.getElem_cons_zero, List.setIfInBounds_toArray, List.set_cons_zero, List.set_cons_succ])
  have hb02 : Below B w w2 := HV.out.2.2.1.drew.trans H2.out.2.2.1
  have hnum := num_res _ _ w2 (HV.out.1.et hb02) H2.out.1
  refine wpAnyH_ready (rs := [9]) (by kernel_rfl) (by simp) ?_
  refine AllReadyH.cons rfl (fun K9 hK9 => ?_) AllReadyH.nil
  go_simp
  go_wp2_with (go_at_call 14; refine hnum.mono ?_; rintro e w3 ⟨rfl, hb3⟩; have H3 := Lib.hid hb3; clear hb3)
  clear hnum
  refine hK9.out _ _ ⟨(H3.out.cell (cell_lt hHeld.1)).trans hHeld.1, (H3.out.cell (cell_lt hHeld.2)).trans hHeld.2⟩ (fun hHeld => ?_)
  clear hK9 K9
  (try simp only [Act.put, List.getElem_toArray, List.getElem_cons_succ, List.getElem_cons_zero, List.setIfInBounds_toArray, List.set_cons_zero, List.set_cons_succ])
  have hb03 : Below B w w3 := hb02.trans (H3.out.mono (Nat.le_trans HV.out.1.hs hb02.size))
  have hwr := (H2.out.2.1.below H3.out).writeM K.i (pg11 K.c) (pg11_length K.c) HPL.out (Nat.le_trans HV.out.1.hs hb03.size)
  refine wpAnyH_ready (rs := [16]) (by kernel_rfl) (by simp) ?_
  refine AllReadyH.cons rfl (fun K9 hK9 => ?_) AllReadyH.nil
  go_simp
  go_wp2_with (go_at_call 26; refine hwr.mono ?_; rintro e w4 ⟨rfl, h4, hb4, hx4⟩; have H4 := Lib.hid (And.intro h4 (And.intro hb4 hx4)); clear h4 hb4 hx4)
  clear hwr
  refine hK9.out _ _ ⟨(H4.out.2.2.cell (cell_lt hHeld.1) (fun e => e rfl)).trans hHeld.1, (H4.out.2.2.cell (cell_lt hHeld.2) (fun e => e rfl)).trans hHeld.2⟩ (fun hHeld => ?_)
  clear hK9 K9
  (try simp only [Act.put, List.getElem_toArray, List.getElem_cons_succ, List.getElem_cons_zero, List.setIfInBounds_toArray, List.set_cons_zero, List.set_cons_succ])
  have hb04 : Below B w w4 := hb03.trans H4.out.2.1
  have HF := Lib.hid hb04
  clear hb02 hb03 hb04
  refine wpAnyH_take (i := 17) (v := ?_) rfl (by kernel_rfl) (by kernel_rfl) (by kernel_rfl) (fun _ _ _ h => h) (Or.inl ⟨by rfl, ?_⟩) (by with_reducible assumption) ?_
  rotate_left
  · intro w hSw; (try dsimp only at hSw); (try go_split_ands); go_simp; (try with_reducible rfl)
  (try simp only [Act.put, List.getElem_toArray, List.getElem_cons_succ, List.getElem_cons_zero, List.setIfInBounds_toArray, List.set_cons_zero, List.set_cons_succ])
  refine wpAnyH_take (i := 18) (v := ?_) rfl (by kernel_rfl) (by kernel_rfl) (by kernel_rfl) (fun _ _ _ h => h) (Or.inl ⟨by rfl, ?_⟩) (by with_reducible assumption) ?_
  rotate_left
  · intro w hSw; (try dsimp only at hSw); (try go_split_ands); go_simp; (try with_reducible rfl)
  (try simp only [Act.put, List.getElem_toArray, List.getElem_cons_succ, List.getElem_cons_zero, List.setIfInBounds_toArray, List.set_cons_zero, List.set_cons_succ])
  refine wpAnyH_take (i := 19) (v := ?_) rfl (by kernel_rfl) (by kernel_rfl) (by kernel_rfl) (fun _ _ _ h => h) (Or.inl ⟨by rfl, ?_⟩) (by with_reducible assumption) ?_
  rotate_left
  · intro w hSw; (try dsimp only at hSw); (try go_split_ands); go_simp; (try with_reducible rfl)
  (try simp only [Act.put, List.getElem_toArray, List.getElem_cons_succ, List.getElem_cons_zero, List.setIfInBounds_toArray, List.set_cons_zero, List.set_cons_succ])
  refine wpAnyH_take (i := 20) (v := ?_) rfl (by kernel_rfl) (by kernel_rfl) (by kernel_rfl) (fun _ _ _ h => h) (Or.inl ⟨by rfl, ?_⟩) (by with_reducible assumption) ?_
  rotate_left
  · intro w hSw; (try dsimp only at hSw); (try go_split_ands); go_simp; (try with_reducible rfl)
  (try simp only [Act.put, List.getElem_toArray, List.getElem_cons_succ, List.getElem_cons_zero, List.setIfInBounds_toArray, List.set_cons_zero, List.set_cons_succ])
  refine wpAnyH_done (by kernel_rfl) ?_ _
  clear hHeld
  go_wp2
  go_ret3
  exact ⟨_, _, _, by simp, H4.out.1.noX, has_write HV.out.1.has _ _, HF.out⟩

set_option maxRecDepth 100000 in
set_option maxHeartbeats 4000000 in
theorem both_flush (h : BothI W B w db rb d n k K) (hkd : K.kd = 2) : Calls Tryd.prog 20 #[.pointer (some ⟨db, 0, none⟩), .pointer (some ⟨rb, 0, none⟩), .agg K.cells.toArray] w (BothP B w n k) := by
  go_enter Tryd.func20, Tryd.ntmps20
  go_upto_region 1 with fail
  change Code.wp _ _ _ _ (w.alloc (.cells K.cells.toArray 31))
  have hv := h.var
  generalize w.alloc (.cells K.cells.toArray 31) = w1 at hv ⊢
  have c0 := hv.1.cell 0 (v := .int .i64 K.kd) rfl
  rw [hkd] at c0
  have hb1 : Below B w w1 := hv.2.2.mono h.hs
  have HV := Lib.hid (And.intro h (And.intro hv.2.1 (And.intro hb1 (Nat.le_trans h.hs hb1.size))))
  have hpl : d.pend.length < 1000000 := by have := h.has.2; have := h.hk; omega
  have HPL := Lib.hid hpl
  have hfl := HV.out.2.1.flushD (by omega) HV.out.2.2.2
  clear hv hb1 h hpl hkd
  go_wp2_with (first
    | (go_at_call 12; refine hfl.mono ?_; rintro e w2 ⟨v2, rfl, hr2, h2, hb2, hx2⟩; have hb02 := HV.out.2.2.1.trans hb2; have hnum := num_res _ _ w2 (HV.out.1.et hb02) hr2; have H2 := Lib.hid (And.intro h2 hb02); clear hr2 h2 hb2 hx2 hb02)
    | (go_at_call 14; refine hnum.mono ?_; rintro e w3 ⟨rfl, hb3⟩; have hb03 := H2.out.2.trans (hb3.mono (Nat.le_trans HV.out.1.hs H2.out.2.size)); have hfm := (H2.out.1.below hb3).flushM (Nat.lt_of_lt_of_le HPL.out (by decide)) (Nat.le_trans HV.out.1.hs hb03.size); have H3 := Lib.hid hb03; clear hb3 hb03)
    | (go_at_call 27; refine hfm.mono ?_; rintro e w4 ⟨rfl, h4, hb4, hx4⟩; have H4 := Lib.hid (And.intro h4 (H3.out.trans hb4)); clear h4 hb4 hx4))
  go_ret3
  exact ⟨_, _, _, by simp, H4.out.1.noX, has_flush HV.out.1.has, H4.out.2⟩

set_option maxRecDepth 100000 in
set_option maxHeartbeats 4000000 in
theorem both_fuel (h : BothI W B w db rb d n k K) (hkd : K.kd = 3) : Calls Tryd.prog 20 #[.pointer (some ⟨db, 0, none⟩), .pointer (some ⟨rb, 0, none⟩), .agg K.cells.toArray] w (BothP B w n k) := by
  have hi : K.i ≤ 9223372036854775807 := by
    have := h.ok.iw
    simp [Lit.wf, IntKind.min, IntKind.max, IntKind.bits, IntKind.signed] at this
    omega
  go_enter Tryd.func20, Tryd.ntmps20
  go_upto_region 1 with fail
  change Code.wp _ _ _ _ (w.alloc (.cells K.cells.toArray 31))
  have hv := h.var
  generalize w.alloc (.cells K.cells.toArray 31) = w1 at hv ⊢
  have c0 := hv.1.cell 0 (v := .int .i64 K.kd) rfl
  have c1 := hv.1.cell 1 (v := .int .i64 K.i) rfl
  rw [hkd] at c0
  have hb1 : Below B w w1 := hv.2.2.mono h.hs
  have HV := Lib.hid (And.intro h (And.intro hv.2.1 (And.intro hb1 (And.intro (Nat.le_trans h.hs hb1.size) hi))))
  have hfl := HV.out.2.1.fuelD K.i hi HV.out.2.2.2.1
  generalize hcb : w.heap.size = cb at *
  clear hv hb1 h hkd hi hcb
  go_upto_region 12 with (go_at_call 16; refine hfl.mono ?_; rintro e w2 ⟨⟨v2, rfl⟩, h2, hb2, hx2⟩; have c12 := (hx2.cell (cell_lt c1) (fun e => e rfl)).trans c1; have H2 := Lib.hid (And.intro h2 (HV.out.2.2.1.trans hb2)); clear h2 hb2 hx2)
  clear hfl c1 c0
  obtain ⟨fb, cap, av, wv, hrd⟩ := H2.out.1.rd
  have c3 := hrd.c3
  have z3 := hrd.blk.fz 3
  have hfm := H2.out.1.fuelM K.i HV.out.2.2.2.2 (Nat.le_trans HV.out.1.hs H2.out.2.size)
  have HM := Lib.hid (And.intro hfm.1.noX (H2.out.2.trans hfm.2))
  clear hrd hfm
  by_cases hm : K.i ≤ -1
  · have e : max K.i (-1) = -1 := by omega
    rw [e] at HM
    clear e
    go_wp2
    all_goals first
      | (go_ret3; exact ⟨_, _, _, by simp, HM.out.1, has_fuel HV.out.1.has _, HM.out.2⟩)
      | (exfalso; omega)
      | (have e2 : -1 = K.i := by omega
         rw [e2] at HM
         go_ret3
         exact ⟨_, _, _, by simp, HM.out.1, has_fuel HV.out.1.has _, HM.out.2⟩)
  · have e : max K.i (-1) = K.i := by omega
    rw [e] at HM
    clear e
    go_wp2
    all_goals first
      | (go_ret3; exact ⟨_, _, _, by simp, HM.out.1, has_fuel HV.out.1.has _, HM.out.2⟩)
      | (exfalso; omega)
      | (have e2 : -1 = K.i := by omega
         rw [e2] at HM
         go_ret3
         exact ⟨_, _, _, by simp, HM.out.1, has_fuel HV.out.1.has _, HM.out.2⟩)

set_option maxRecDepth 100000 in
set_option maxHeartbeats 4000000 in
theorem both_read (h : BothI W B w db rb d n k K) (hkd : K.kd = 0) : Calls Tryd.prog 20 #[.pointer (some ⟨db, 0, none⟩), .pointer (some ⟨rb, 0, none⟩), .agg K.cells.toArray] w (BothP B w n k) := by
  go_enter Tryd.func20, Tryd.ntmps20
  go_upto_region 1 with fail
  change Code.wp _ _ _ _ (w.alloc (.cells K.cells.toArray 31))
  have hv := h.var
  generalize w.alloc (.cells K.cells.toArray 31) = w1 at hv ⊢
  have c0 := hv.1.cell 0 (v := .int .i64 K.kd) rfl
  have c1 := hv.1.cell 1 (v := .int .i64 K.i) rfl
  rw [hkd] at c0
  have hb1 : Below B w w1 := hv.2.2.mono h.hs
  have hpl : d.pend.length ≤ 1000000 := by have := h.has.2; have := h.hk; omega
  have HV := Lib.hid (And.intro h (And.intro hv.2.1 (And.intro hb1 (And.intro (Nat.le_trans h.hs hb1.size) (And.intro hpl hv.1)))))
  have hrx := hv.2.1.dk.read K.i
  have hpl : (d.read K.i).length = 64 := hv.2.1.dk.read_length _
  generalize hp : d.read K.i = p at *
  have HP := Lib.hid (And.intro hpl hp)
  generalize hcb : w.heap.size = cb at *
  clear hv hb1 h hkd hpl hp hcb
  go_upto_region 4 with (first
    | (go_at_call 15; (with_reducible refine hrx.mono ?_); rintro e w5 ⟨v5, rfl, hv5, hb5⟩; have H5 := Lib.hid (And.intro hv5 hb5); clear hv5 hb5)
    | (refine wpList_alloc_info (by rfl) 33 (by rfl) (.agg (nv .u8 zeroPg)) (nv .u8 zeroPg) (by kernel_rfl) rfl ?_)
    | (refine wpList_store_row (by rfl) 33 (.tmp 9) (.tmp 22) (by rfl) _ (nv .u8 p) (by rfl) (by rfl) 33 (nv .u8 zeroPg) (heap_alloc_new _ _) (info_pg _ HP.out.1) (by rw [nv_size, nv_size, HP.out.1]; rfl) (nv_one _ _) ?_))
  have hv1 := pg_var w5 p
  generalize (w5.alloc (.cells (nv .u8 zeroPg) 33)).setRow w5.heap.size (nv .u8 p) = w6 at hv1 ⊢
  have hb6 := H5.out.2.trans (hv1.2.mono H5.out.2.size)
  have hr6 : IsRes w6 v5 (d.readE K.i) := res_below H5.out.1 hv1.2
  have H6 := Lib.hid (And.intro hv1.1 (And.intro (HV.out.2.1.below hb6) (And.intro (HV.out.2.2.1.trans (hb6.mono HV.out.2.2.2.1)) hr6)))
  have c16 := (hb6.cell (cell_lt c1)).trans c1
  clear hv1 hb6 hrx hr6 c0 c1
  generalize w5.heap.size = b1 at *
  obtain ⟨fb, cap, av, wv, hrd⟩ := H6.out.2.1.rd
  have hry := ref_read hrd K.i HV.out.2.2.2.2.1
  rw [HP.out.2] at hry
  clear hrd
  go_upto_region 5 with (first
    | (go_at_call 22; (with_reducible refine hry.mono ?_); rintro e w7 ⟨rfl, hb7⟩; have H7 := Lib.hid hb7; clear hb7)
    | (refine wpList_alloc_info (by rfl) 33 (by rfl) (.agg (nv .u8 zeroPg)) (nv .u8 zeroPg) (by kernel_rfl) rfl ?_)
    | (refine wpList_store_row (by rfl) 33 (.tmp 11) (.tmp 29) (by rfl) _ (nv .u8 p) (by rfl) (by rfl) 33 (nv .u8 zeroPg) (heap_alloc_new _ _) (info_pg _ HP.out.1) (by rw [nv_size, nv_size, HP.out.1]; rfl) (nv_one _ _) ?_))
  have hv2 := pg_var w7 p
  generalize (w7.alloc (.cells (nv .u8 zeroPg) 33)).setRow w7.heap.size (nv .u8 p) = w8 at hv2 ⊢
  have hb8 := H7.out.trans (hv2.2.mono H7.out.size)
  have hb08 : Below B w w8 := H6.out.2.2.1.trans (hb8.mono (Nat.le_trans HV.out.1.hs H6.out.2.2.1.size))
  have hnum := num_res _ _ w8 (HV.out.1.et hb08) (res_below H6.out.2.2.2 hb8)
  have H8 := Lib.hid (And.intro (H6.out.1.below hb8 H6.out.1.lt) (And.intro hv2.1 (And.intro (H6.out.2.1.below hb8) hb08)))
  clear hv2 hb8 hry hb08 c16
  generalize w7.heap.size = b2 at *
  go_wp2_with (first
    | (refine wpList_load_row_g (by rfl) 33 (.tmp 9) (by rfl) b1 (by rfl) 33 (nv .u8 p) (0, 0) _ H8.out.1 Tryd.underlying33 rfl (info_pg _ HP.out.1) ?_)
    | (refine wpList_load_row_g (by rfl) 33 (.tmp 11) (by rfl) b2 (by rfl) 33 (nv .u8 p) (0, 0) _ H8.out.2.1 Tryd.underlying33 rfl (info_pg _ HP.out.1) ?_)
    | (refine wpList_eql_same (by rfl) (.tmp 33) (.tmp 34) (by rfl) p HP.out.1 (by rfl) (by rfl) ?_)
    | (go_at_call 14; refine hnum.mono ?_; rintro e w9 ⟨rfl, hb9⟩; have H9 := Lib.hid (And.intro (H8.out.2.2.1.below hb9) (H8.out.2.2.2.trans (hb9.mono (Nat.le_trans HV.out.1.hs H8.out.2.2.2.size)))); clear hb9))
  go_ret3
  exact ⟨_, _, _, by simp, H9.out.1.noX, HV.out.1.has.more (Nat.le_succ _), H9.out.2⟩

set_option maxRecDepth 100000 in
set_option maxHeartbeats 4000000 in
theorem both_crash (h : BothI W B w db rb d n k K) (h0 : K.kd ≠ 0) (h1 : K.kd ≠ 1) (h2 : K.kd ≠ 2) (h3 : K.kd ≠ 3) : Calls Tryd.prog 20 #[.pointer (some ⟨db, 0, none⟩), .pointer (some ⟨rb, 0, none⟩), .agg K.cells.toArray] w (BothP B w n k) := by
  go_enter Tryd.func20, Tryd.ntmps20
  go_upto_region 1 with fail
  change Code.wp _ _ _ _ (w.alloc (.cells K.cells.toArray 31))
  have hv := h.var
  generalize w.alloc (.cells K.cells.toArray 31) = w1 at hv ⊢
  have c0 := hv.1.cell 0 (v := .int .i64 K.kd) rfl
  have c3 := hv.1.cell 3 (v := .slice K.a K.pick.length K.pc) rfl
  have hb1 : Below B w w1 := hv.2.2.mono h.hs
  have hpl : d.pend.length < 1000001 := by have := h.has.2; have := h.hk; omega
  have hki : IsInts .i64 w1 K.a K.pick := (h.ok.below hv.2.2).ints
  have HV := Lib.hid (And.intro h (And.intro hv.2.1 (And.intro hb1 (And.intro (Nat.le_trans h.hs hb1.size) (And.intro hpl hki)))))
  generalize hcb : w.heap.size = cb at *
  have e0 : (K.kd == 0) = false := by simp; exact h0
  have e1 : (K.kd == 1) = false := by simp; exact h1
  have e2 : (K.kd == 2) = false := by simp; exact h2
  have e3 : (K.kd == 3) = false := by simp; exact h3
  clear hv hb1 h hcb hpl hki h0 h1 h2 h3
  go_upto_region 14 with fail
  clear e0 e1 e2 e3 c0
  refine wp_region_held_drew (S := fun w' => w'.cell? ⟨cb, 3, none⟩ = some (.slice K.a K.pick.length K.pc)) (by kernel_rfl) c3 (fun hHeld => ?_)
  clear c3
  refine wpAnyH_take (i := 0) (v := ?_) rfl (by kernel_rfl) (by kernel_rfl) (by kernel_rfl) (fun _ _ _ h => h) (Or.inl ⟨by rfl, ?_⟩) (by with_reducible assumption) ?_
  rotate_left
  · intro w hSw; (try dsimp only at hSw); (try go_split_ands); go_simp; (try with_reducible rfl)
  (try simp only [Act.put, List.getElem_toArray, List.getElem_cons_succ, List.getElem_cons_zero, List.setIfInBounds_toArray, List.set_cons_zero, List.set_cons_succ])
  refine wpAnyH_take (i := 1) (v := ?_) rfl (by kernel_rfl) (by kernel_rfl) (by kernel_rfl) (fun _ _ _ h => h) (Or.inl ⟨by rfl, ?_⟩) (by with_reducible assumption) ?_
  rotate_left
  · intro w hSw; (try dsimp only at hSw); (try go_split_ands); go_simp; (try with_reducible rfl)
  (try simp only [Act.put, List.getElem_toArray, List.getElem_cons_succ, List.getElem_cons_zero, List.setIfInBounds_toArray, List.set_cons_zero, List.set_cons_succ])
  refine wpAnyH_take (i := 2) (v := ?_) rfl (by kernel_rfl) (by kernel_rfl) (by kernel_rfl) (fun _ _ _ h => h) (Or.inl ⟨by rfl, ?_⟩) (by with_reducible assumption) ?_
  rotate_left
  · intro w hSw; (try dsimp only at hSw); (try go_split_ands); go_simp; (try with_reducible rfl)
  (try simp only [Act.put, List.getElem_toArray, List.getElem_cons_succ, List.getElem_cons_zero, List.setIfInBounds_toArray, List.set_cons_zero, List.set_cons_succ])
  refine wpAnyH_take (i := 4) (v := ?_) rfl (by kernel_rfl) (by kernel_rfl) (by kernel_rfl) (fun _ _ _ h => h) (Or.inl ⟨by rfl, ?_⟩) (by with_reducible assumption) ?_
  rotate_left
  · intro w hSw; (try dsimp only at hSw); (try go_split_ands); go_simp; (try with_reducible rfl)
  (try simp only [Act.put, List.getElem_toArray, List.getElem_cons_succ, List.getElem_cons_zero, List.setIfInBounds_toArray, List.set_cons_zero, List.set_cons_succ])
  refine wpAnyH_take (i := 5) (v := ?_) rfl (by kernel_rfl) (by kernel_rfl) (by kernel_rfl) (fun _ _ _ h => h) (Or.inl ⟨by rfl, ?_⟩) (by with_reducible assumption) ?_
  rotate_left
  · intro w hSw; (try dsimp only at hSw); (try go_split_ands); go_simp; (try with_reducible rfl)
  (try simp only [Act.put, List.getElem_toArray, List.getElem_cons_succ, List.getElem_cons_zero, List.setIfInBounds_toArray, List.set_cons_zero, List.set_cons_succ])
  refine wpAnyH_take (i := 6) (v := ?_) rfl (by kernel_rfl) (by kernel_rfl) (by kernel_rfl) (fun _ _ _ h => h) (Or.inl ⟨by rfl, ?_⟩) (by with_reducible assumption) ?_
  rotate_left
  · intro w hSw; (try dsimp only at hSw); (try go_split_ands); go_simp; (try with_reducible rfl)
  (try simp only [Act.put, List.getElem_toArray, List.getElem_cons_succ, List.getElem_cons_zero, List.setIfInBounds_toArray, List.set_cons_zero, List.set_cons_succ])
  have hd : Below w1.heap.size w1 w1.drew := (Below.refl w1.heap.size w1).drew
  have hcr := (HV.out.2.1.below hd).dk.crash HV.out.2.2.2.2.1 K.a K.pick K.pc (HV.out.2.2.2.2.2.below_ hd) HV.out.1.ok.len
  refine wpAnyH_ready (rs := [3]) (by kernel_rfl) (by simp) ?_
  refine AllReadyH.cons rfl (fun K9 hK9 => ?_) AllReadyH.nil
  go_simp
  go_wp2_with (go_at_call 13; refine hcr.mono ?_; rintro e w2 ⟨xb, rfl, h2, hb2⟩; have H2 := Lib.hid (And.intro h2 hb2); clear h2 hb2)
  clear hcr
  refine hK9.out _ _ ((H2.out.2.cell (cell_lt hHeld)).trans hHeld) (fun hHeld => ?_)
  clear hK9 K9
  (try simp only [Act.put, List.getElem_toArray, List.getElem_cons_succ, List.getElem_cons_zero, List.setIfInBounds_toArray, List.set_cons_zero, List.set_cons_succ])
  have hb12 : Below w1.heap.size w1 w2 := hd.trans H2.out.2
  have hri := HV.out.2.1.below hb12
  obtain ⟨fb, cap, av, wv, hrd⟩ := hri.rd
  have hcr := ref_crash hrd HV.out.2.2.2.2.1 K.a K.pick K.pc (HV.out.2.2.2.2.2.below_ hb12) HV.out.1.ok.len
  clear hri hrd
  refine wpAnyH_ready (rs := [7]) (by kernel_rfl) (by simp) ?_
  refine AllReadyH.cons rfl (fun K9 hK9 => ?_) AllReadyH.nil
  go_simp
  go_wp2_with (go_at_call 28; refine hcr.mono ?_; rintro e w3 ⟨yb, fb2, cap2, rfl, h3, hb3⟩; have H3 := Lib.hid (And.intro h3 hb3); clear h3 hb3)
  clear hcr
  refine hK9.out _ _ ((H3.out.2.cell (cell_lt hHeld)).trans hHeld) (fun hHeld => ?_)
  clear hK9 K9
  (try simp only [Act.put, List.getElem_toArray, List.getElem_cons_succ, List.getElem_cons_zero, List.setIfInBounds_toArray, List.set_cons_zero, List.set_cons_succ])
  have hb02 : Below B w w2 := HV.out.2.2.1.trans (hb12.mono HV.out.2.2.2.1)
  have hs2 : B ≤ w2.heap.size := Nat.le_trans HV.out.1.hs hb02.size
  have HF := Lib.hid (And.intro (RI.begin H2.out.1 (Nat.le_trans HV.out.2.2.2.1 hd.size) H3.out.1 H3.out.2 hs2) (hb02.trans (H3.out.2.mono hs2)))
  clear hb12 hb02 hs2 hd
  refine wpAnyH_take (i := 8) (v := ?_) rfl (by kernel_rfl) (by kernel_rfl) (by kernel_rfl) (fun _ _ _ h => h) (Or.inl ⟨by rfl, ?_⟩) (by with_reducible assumption) ?_
  rotate_left
  · intro w hSw; (try dsimp only at hSw); (try go_split_ands); go_simp; (try with_reducible rfl)
  (try simp only [Act.put, List.getElem_toArray, List.getElem_cons_succ, List.getElem_cons_zero, List.setIfInBounds_toArray, List.set_cons_zero, List.set_cons_succ])
  refine wpAnyH_take (i := 9) (v := ?_) rfl (by kernel_rfl) (by kernel_rfl) (by kernel_rfl) (fun _ _ _ h => h) (Or.inl ⟨by rfl, ?_⟩) (by with_reducible assumption) ?_
  rotate_left
  · intro w hSw; (try dsimp only at hSw); (try go_split_ands); go_simp; (try with_reducible rfl)
  (try simp only [Act.put, List.getElem_toArray, List.getElem_cons_succ, List.getElem_cons_zero, List.setIfInBounds_toArray, List.set_cons_zero, List.set_cons_succ])
  refine wpAnyH_take (i := 10) (v := ?_) rfl (by kernel_rfl) (by kernel_rfl) (by kernel_rfl) (fun _ _ _ h => h) (Or.inl ⟨by rfl, ?_⟩) (by with_reducible assumption) ?_
  rotate_left
  · intro w hSw; (try dsimp only at hSw); (try go_split_ands); go_simp; (try with_reducible rfl)
  (try simp only [Act.put, List.getElem_toArray, List.getElem_cons_succ, List.getElem_cons_zero, List.setIfInBounds_toArray, List.set_cons_zero, List.set_cons_succ])
  refine wpAnyH_done (by kernel_rfl) ?_ _
  clear hHeld
  go_wp2
  go_ret3
  exact ⟨_, _, _, by simp, HF.out.1, has_crash HV.out.1.has _, HF.out.2⟩
/-- One call of both, whatever it is. -/
theorem both_any (h : BothI W B w db rb d n k K) : Calls Tryd.prog 20 #[.pointer (some ⟨db, 0, none⟩), .pointer (some ⟨rb, 0, none⟩), .agg K.cells.toArray] w (BothP B w n k) := by
  by_cases h0 : K.kd = 0
  · exact both_read h h0
  · by_cases h1 : K.kd = 1
    · exact both_write h h1
    · by_cases h2 : K.kd = 2
      · exact both_flush h h2
      · by_cases h3 : K.kd = 3
        · exact both_fuel h h3
        · exact both_crash h h0 h1 h2 h3
end
end Go.Proofs.YtjmjfgbpjecgfaaDoor
