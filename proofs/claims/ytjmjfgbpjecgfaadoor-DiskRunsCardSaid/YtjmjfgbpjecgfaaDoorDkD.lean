/-
  disk: one disk that the call made, its blocks unnamed; and stands.
-/
import Derived.Test.YtjmjfgbpjecgfaaDoorDkFn7
import Derived.Test.YtjmjfgbpjecgfaaDoorTail
import Derived.Test.YtjmjfgbpjecgfaaDoorCommon
namespace Go.Proofs.YtjmjfgbpjecgfaaDoor
set_option linter.unusedVariables false
set_option linter.unusedSimpArgs false
open Go.RowKit

/-- A disk whose blocks lie from B on. -/
def Dk (B : Nat) (w : World) (db : Nat) (d : DK) : Prop := ∃ fb mb cap cv, IsDk w B db fb mb cap cv d
theorem IsDk.base_mono {w : World} {B B' db fb mb cap : Nat} {cv : Value} {d : DK} (h : IsDk w B db fb mb cap cv d) (hb : B' ≤ B) : IsDk w B' db fb mb cap cv d :=
  ⟨h.blk, h.firm.mono hb, h.cache.mono hb, h.map, h.pend, h.n1, h.n2, h.f1, h.f2, Nat.le_trans hb h.bdb, Nat.le_trans hb h.bmb⟩
section
variable {B : Nat} {w w' : World} {db : Nat} {d : DK}
theorem Dk.below (h : Dk B w db d) (hb : Below w.heap.size w w') : Dk B w' db d := by
  obtain ⟨fb, mb, cap, cv, h⟩ := h
  exact ⟨fb, mb, cap, cv, h.below hb⟩
theorem Dk.write (h : Dk B w db d) (i : Int) (p : List Nat) (hp : p.length = 64) (hl : d.pend.length < 1000000) (hB : B ≤ w.heap.size) : Calls Tryd.prog 11 #[.pointer (some ⟨db, 0, none⟩), .int .i64 i, pgV p] w fun e w' => ∃ v, e = .returned v ∧ IsRes w' v (d.writeE i) ∧ Dk B w' db (d.write i p) ∧ Below B w w' := by
  obtain ⟨fb, mb, cap, cv, h⟩ := h
  refine (write_any h i p hp hl hB).mono ?_
  rintro e w' ⟨v, cv', rfl, h1, h2, h3, _⟩
  exact ⟨v, rfl, h1, ⟨_, _, _, _, h2⟩, h3.below hB (fun k hk => by
    rcases hk with rfl | rfl | hk
    · exact h.bdb
    · exact h.bmb
    · exact h.cache.base_le k hk)⟩
theorem Dk.flush (h : Dk B w db d) (hl : d.pend.length < 1000001) (hB : B ≤ w.heap.size) : Calls Tryd.prog 12 #[.pointer (some ⟨db, 0, none⟩)] w fun e w' => ∃ v, e = .returned v ∧ IsRes w' v d.flushE ∧ Dk B w' db d.flush ∧ Below B w w' := by
  obtain ⟨fb, mb, cap, cv, h⟩ := h
  refine (flush_any h hl).mono ?_
  rintro e w' ⟨v, cv', rfl, h1, h2, h3, _⟩
  exact ⟨v, rfl, h1, ⟨_, _, _, _, h2⟩, h3.below hB (fun k hk => by
    rcases hk with rfl | rfl | rfl
    · exact h.bdb
    · exact h.fb_base
    · exact h.bmb)⟩
theorem Dk.read (h : Dk B w db d) (i : Int) : Calls Tryd.prog 15 #[.pointer (some ⟨db, 0, none⟩), .int .i64 i] w fun e w' => ∃ v, e = .returned (.tuple #[pgV (d.read i), v]) ∧ IsRes w' v (d.readE i) ∧ Below w.heap.size w w' := by
  obtain ⟨fb, mb, cap, cv, h⟩ := h
  exact read_any h i
theorem Dk.crash (h : Dk B w db d) (hl : d.pend.length < 1000001) (pa : Option Addr) (pick : List Int) (pc : Nat) (hp : IsInts .i64 w pa pick) (hpl : pick.length ≤ 35184372088832) : Calls Tryd.prog 13 #[.pointer (some ⟨db, 0, none⟩), .slice pa pick.length pc] w fun e w' => ∃ eb, e = .returned (.pointer (some ⟨eb, 0, none⟩)) ∧ Dk w.heap.size w' eb (d.crash pick) ∧ Below w.heap.size w w' := by
  obtain ⟨fb, mb, cap, cv, h⟩ := h
  refine (crash_any h hl pa pick pc hp hpl).mono ?_
  rintro e w' ⟨eb, fb', mb', cap', rfl, h1, h2⟩
  exact ⟨eb, rfl, ⟨_, _, _, _, h1⟩, h2⟩
theorem Dk.off (h : Dk B w db d) : Calls Tryd.prog 17 #[.pointer (some ⟨db, 0, none⟩)] w fun e w' => e = .returned (.bool d.off) ∧ w' = w := by
  obtain ⟨fb, mb, cap, cv, h⟩ := h
  exact off_any h
theorem Dk.size (h : Dk B w db d) : Calls Tryd.prog 21 #[.pointer (some ⟨db, 0, none⟩)] w fun e w' => e = .returned (.int .i64 ((d.firm.length : Nat) : Int)) ∧ w' = w := by
  obtain ⟨fb, mb, cap, cv, h⟩ := h
  exact size_any h
theorem Dk.pending (h : Dk B w db d) : Calls Tryd.prog 18 #[.pointer (some ⟨db, 0, none⟩)] w fun e w' => e = .returned (.int .i64 ((d.pend.length : Nat) : Int)) ∧ w' = w := by
  obtain ⟨fb, mb, cap, cv, h⟩ := h
  exact pending_any h
theorem Dk.fuel (h : Dk B w db d) (n : Int) (hn : n ≤ 9223372036854775807) (hB : B ≤ w.heap.size) : Calls Tryd.prog 16 #[.pointer (some ⟨db, 0, none⟩), .int .i64 n] w fun e w' => (∃ v, e = .returned v) ∧ Dk B w' db (d.setFuel n) ∧ Below B w w' := by
  obtain ⟨fb, mb, cap, cv, h⟩ := h
  refine (fuel_any h n hn).mono ?_
  rintro e w' ⟨h0, h1, h2⟩
  exact ⟨h0, ⟨_, _, _, _, h1⟩, h2.below hB (fun k hk => by rw [hk]; exact h.bdb)⟩
end
theorem applyP_pages {l : List (Nat × List Nat)} : ∀ {f : List (List Nat)}, (∀ p ∈ f, p.length = 64) → (∀ x ∈ l, x.2.length = 64) → ∀ p ∈ applyP f l, p.length = 64 := by
  induction l with
  | nil => intro f hf _; exact hf
  | cons x r ih =>
    intro f hf hl
    rw [applyP_cons]
    refine ih (fun p hp => ?_) (fun y hy => hl y (List.mem_cons_of_mem _ hy))
    rcases List.mem_or_eq_of_mem_set hp with h | rfl
    · exact hf p h
    · exact hl x (by simp)
theorem IsDk.pages {w : World} {B db fb mb cap : Nat} {cv : Value} {d : DK} (h : IsDk w B db fb mb cap cv d) : (∀ p ∈ d.firm, p.length = 64) ∧ (∀ x ∈ d.pend, x.2.length = 64) :=
  ⟨fun p hp => by have := h.firm.1 p hp; rwa [pgF_length] at this, fun x hx => by have := h.cache.1 x hx; rw [wrF_length] at this; omega⟩
theorem Dk.read_length {B : Nat} {w : World} {db : Nat} {d : DK} (h : Dk B w db d) (i : Int) : (d.read i).length = 64 := by
  obtain ⟨fb, mb, cap, cv, h⟩ := h
  unfold DK.read
  split
  · by_cases hi : i.toNat < d.cur.length
    · have e : d.cur.getD i.toNat zeroPg = d.cur[i.toNat] := by simp [List.getD, List.getElem?_eq_getElem hi]
      rw [e]
      exact applyP_pages h.pages.1 h.pages.2 _ (List.getElem_mem hi)
    · have e : d.cur.getD i.toNat zeroPg = zeroPg := by simp [List.getD, List.getElem?_eq_none (show d.cur.length ≤ i.toNat by omega)]
      rw [e]; rfl
  · rfl
theorem new_D (w : World) (n : Nat) (h1 : 1 ≤ n) (h2 : n ≤ 4096) : Calls Tryd.prog 10 #[.int .i64 (n : Int)] w fun e w' => ∃ db, e = .returned (.tuple #[.pointer (some ⟨db, 0, none⟩), .nilIface]) ∧ Dk w.heap.size w' db (DK.new n) ∧ Below w.heap.size w w' := by
  refine (new_ok w n h1 h2).mono ?_
  rintro e w' ⟨db, fb, mb, cap, rfl, h, hb⟩
  exact ⟨db, rfl, ⟨_, _, _, _, h⟩, hb⟩

/-- A sector that begins so. -/
def pg1 (c : Nat) : List Nat := c :: List.replicate 63 0
theorem pg1_length (c : Nat) : (pg1 c).length = 64 := by simp [pg1]
theorem new5 (w : World) : Calls Tryd.prog 10 #[.int .i64 5] w fun e w' => ∃ db, e = .returned (.tuple #[.pointer (some ⟨db, 0, none⟩), .nilIface]) ∧ Dk w.heap.size w' db (DK.new 5) ∧ Below w.heap.size w w' := new_D w 5 (by decide) (by decide)
def D1 : DK := (DK.new 5).write 3 (pg1 1)
def D2 : DK := D1.flush
def D3 : DK := D2.write 3 (pg1 2)
def D4 : DK := D3.write 4 (pg1 3)
def D5 : DK := D4.crash [1]
theorem res_nil {w : World} {v : Value} (h : IsRes w v 0) : v = .nilIface := h
theorem num_nil (W : World) : Calls Tryd.prog 14 #[.nilIface] W fun ev w' => ev = .returned (.int .i64 0) ∧ w' = W := by
  go_enter Tryd.func14, Tryd.ntmps14
  go_wp2
  go_ret
  exact ⟨rfl, rfl⟩

theorem ints_one (w : World) (z : Int) (hz : (Lit.int .i64 z).wf = true) (t : TypeId) : IsInts .i64 (w.alloc (.cells #[.int .i64 z] t)) (some ⟨w.heap.size, 0, none⟩) [z] := by
  refine ⟨(fun y hy => by simp at hy; subst hy; exact hz), .inr ⟨w.heap.size, 0, rfl, by simp, fun i hi => ?_⟩⟩
  obtain rfl : i = 0 := by simp at hi; omega
  simp
theorem crash_one {B : Nat} {w : World} {db : Nat} (h : Dk B w db D4) : Calls Tryd.prog 13 #[.pointer (some ⟨db, 0, none⟩), .slice (some ⟨w.heap.size, 0, none⟩) 1 1] (w.alloc (.cells #[.int .i64 1] 3)) fun e w' => ∃ eb, e = .returned (.pointer (some ⟨eb, 0, none⟩)) ∧ Dk w.heap.size w' eb D5 ∧ Below w.heap.size w w' := by
  have hb : Below w.heap.size w (w.alloc (.cells #[.int .i64 1] 3)) := (Below.refl _ _).alloc (Nat.le_refl _) _
  have hc := (h.below hb).crash (by decide) (some ⟨w.heap.size, 0, none⟩) [1] 1 (ints_one w 1 (by decide) _) (by decide)
  refine hc.mono ?_
  rintro e w' ⟨eb, rfl, ⟨fb, mb, cap, cv, h1⟩, h2⟩
  exact ⟨eb, rfl, ⟨fb, mb, cap, cv, h1.base_mono (by simp)⟩, hb.trans (h2.mono (by simp))⟩

theorem nv_inj (k : IntKind) (l m : List Nat) : ((l.map fun (c : Nat) => (c : Int)) == (m.map fun (c : Nat) => (c : Int))) = (l == m) := by
  have h : ∀ l m : List Nat, (l.map fun (c : Nat) => (c : Int)) = (m.map fun (c : Nat) => (c : Int)) ↔ l = m := by
    intro l
    induction l with
    | nil => intro m; cases m <;> simp
    | cons x r ih => intro m; cases m with
      | nil => simp
      | cons y q => simp only [List.map_cons, List.cons.injEq, ih]; constructor <;> (rintro ⟨a, b⟩; exact ⟨by omega, b⟩)
  rw [Bool.eq_iff_iff]
  simp only [beq_iff_eq]
  exact h l m
/-- Two sectors compared. -/
theorem run_eql_pg (p q : List Nat) (hp : p.length = 64) (hq : q.length = 64) (w : World) : (Op.equal 33 (pgV p) (pgV q)).run Tryd.prog w = .ok (p == q) w := by
  have h := run_equalIn_array (P := Tryd.prog) (t := 33) (e := 5) (n := 64) (k := .u8) 9998 (by kernel_rfl) (by kernel_rfl) Tryd.sizeOf5
    (p.map fun (c : Nat) => (c : Int)) (q.map fun (c : Nat) => (c : Int)) (by rw [List.length_map, hp]) (by rw [List.length_map, hq]) w
  rw [nv_inj .u8, List.map_map, List.map_map] at h
  exact h
theorem binOp_eql_pg (p q : List Nat) : binOp .eql 33 (pgV p) (pgV q) = (do pure (.bool (← Op.equal 33 (pgV p) (pgV q)))) := rfl
theorem binOp_neq_pg (p q : List Nat) : binOp .neq 33 (pgV p) (pgV q) = (do pure (.bool (!(← Op.equal 33 (pgV p) (pgV q))))) := rfl
theorem eqGuard_pg (op : BinOp) (x y : Operand) (p q : List Nat) (w : World) : (eqGuard op 33 x y (pgV p) (pgV q)).run Tryd.prog w = .ok () w := run_eqGuard_agg _ op _ x y _ _ (by kernel_rfl)
set_option maxRecDepth 100000 in
theorem wp_neq_pg {o : Oper} {a : Act} {w : World} {K : Act → World → Prop} {Q : Exit → Act → World → Prop} (x y : Operand) (ho : o.op = .binOp .neq 33 x y 33) (p q : List Nat) (hp : p.length = 64) (hq : q.length = 64) (hx : a.eval x = pgV p) (hy : a.eval y = pgV q)
    (h : K (a.put o.dst (.bool (!(p == q)))) w) : o.wp Tryd.prog a w K Q := by
  unfold Oper.wp execOp
  simp only [ho, hx, hy, binOp_neq_pg, Sem.run_bind, Sem.run_pure, eqGuard_pg, run_eql_pg p q hp hq w, Result.andThen_ok]
  exact h
set_option maxRecDepth 100000 in
theorem wp_eql_pg {o : Oper} {a : Act} {w : World} {K : Act → World → Prop} {Q : Exit → Act → World → Prop} (x y : Operand) (ho : o.op = .binOp .eql 33 x y 33) (p q : List Nat) (hp : p.length = 64) (hq : q.length = 64) (hx : a.eval x = pgV p) (hy : a.eval y = pgV q)
    (h : K (a.put o.dst (.bool (p == q))) w) : o.wp Tryd.prog a w K Q := by
  unfold Oper.wp execOp
  simp only [ho, hx, hy, binOp_eql_pg, Sem.run_bind, Sem.run_pure, eqGuard_pg, run_eql_pg p q hp hq w, Result.andThen_ok]
  exact h
theorem wpList_eql_pg {ops : Array Oper} {rest : List Oper} {o : Oper} {a : Act} {w : World} {Q : Exit → Act → World → Prop} (hw : Region.wanted o (yielded ops a.tmps) = true) (x y : Operand) (ho : o.op = .binOp .eql 33 x y 33) (p q : List Nat) (hp : p.length = 64) (hq : q.length = 64) (hx : a.eval x = pgV p) (hy : a.eval y = pgV q)
    (h : wpList Tryd.prog ops Q rest (a.put o.dst (.bool (p == q))) w) : wpList Tryd.prog ops Q (o :: rest) a w :=
  wpList_wanted hw fun K hK => wp_eql_pg x y ho p q hp hq hx hy (hK _ _ h)
theorem wpList_neq_pg {ops : Array Oper} {rest : List Oper} {o : Oper} {a : Act} {w : World} {Q : Exit → Act → World → Prop} (hw : Region.wanted o (yielded ops a.tmps) = true) (x y : Operand) (ho : o.op = .binOp .neq 33 x y 33) (p q : List Nat) (hp : p.length = 64) (hq : q.length = 64) (hx : a.eval x = pgV p) (hy : a.eval y = pgV q)
    (h : wpList Tryd.prog ops Q rest (a.put o.dst (.bool (!(p == q)))) w) : wpList Tryd.prog ops Q (o :: rest) a w :=
  wpList_wanted hw fun K hK => wp_neq_pg x y ho p q hp hq hx hy (hK _ _ h)
/-- A variable with a sector laid into it. -/
theorem pg_var (w : World) (p : List Nat) : IsBlk ((w.alloc (.cells (nv .u8 zeroPg) 33)).setRow w.heap.size (nv .u8 p)) w.heap.size (nv .u8 p) 33 ∧ Below w.heap.size w ((w.alloc (.cells (nv .u8 zeroPg) 33)).setRow w.heap.size (nv .u8 p)) :=
  ⟨isBlk_setRow (IsBlk.new _ _ _) _, below_setRow ((Below.refl _ _).alloc (Nat.le_refl _) _) _ (Nat.le_refl _) _⟩

set_option maxRecDepth 100000 in
set_option maxHeartbeats 4000000 in
theorem stands_any (W : World) : Calls Tryd.prog 9 #[] W fun e w' => e = .returned (.bool true) ∧ Below W.heap.size W w' := by
  go_enter Tryd.func9, Tryd.ntmps9
  go_upto_region 2 with (go_at_call 10; (with_reducible refine (new5 _).mono ?_); rintro e w1 ⟨db, rfl, h1, hb1⟩)
  have hw1 := fun w (h : Dk W.heap.size w db (DK.new 5)) (hs : W.heap.size ≤ w.heap.size) => h.write 3 (pg1 1) (pg1_length 1) (by decide) hs
  go_upto_region 3 with (go_at_call 11; refine (hw1 _ h1 hb1.size).mono ?_; rintro e w2 ⟨v, rfl, hr2, h2, hb2⟩; obtain rfl := res_nil hr2)
  have hw2 := h2.flush (by decide) (Nat.le_trans hb1.size hb2.size)
  go_upto_region 4 with (go_at_call 12; (with_reducible refine hw2.mono ?_); rintro e w3 ⟨v3, rfl, hr3, h3, hb3⟩; obtain rfl := res_nil hr3)
  have hw3 := fun w (h : Dk W.heap.size w db D2) (hs : W.heap.size ≤ w.heap.size) => h.write 3 (pg1 2) (pg1_length 2) (by decide) hs
  go_upto_region 5 with (go_at_call 11; refine (hw3 _ h3 (Nat.le_trans hb1.size (Nat.le_trans hb2.size hb3.size))).mono ?_; rintro e w4 ⟨v, rfl, hr4, h4, hb4⟩; obtain rfl := res_nil hr4)
  have hw4 := fun w (h : Dk W.heap.size w db D3) (hs : W.heap.size ≤ w.heap.size) => h.write 4 (pg1 3) (pg1_length 3) (by decide) hs
  go_upto_region 6 with (go_at_call 11; refine (hw4 _ h4 (Nat.le_trans hb1.size (Nat.le_trans hb2.size (Nat.le_trans hb3.size hb4.size)))).mono ?_; rintro e w5 ⟨v, rfl, hr5, h5, hb5⟩; obtain rfl := res_nil hr5)
  have hb15 : Below W.heap.size W w5 := (((hb1.trans hb2).trans hb3).trans hb4).trans hb5
  have H5 := Lib.hid (And.intro h5 hb15)
  clear hw1 hw2 hw3 hw4 h1 h2 h3 h4 h5 hb1 hb2 hb3 hb4 hb5 hb15 hr2 hr3 hr4 hr5
  have hcr := crash_one H5.out.1
  go_upto_region 7 with (go_at_call 13; (with_reducible refine hcr.mono ?_); rintro e w6 ⟨eb, rfl, h6, hb6⟩; have H6 := Lib.hid (And.intro h6 hb6); clear h6 hb6)
  clear hcr
  have hr7 := H6.out.1.read 3
  have e7 : D5.readE 3 = 0 := by kernel_rfl
  have f7 : D5.read 3 = pg1 1 := by kernel_rfl
  rw [e7, f7] at hr7
  clear e7 f7
  go_upto_region 8 with (first
    | (go_at_call 15; (with_reducible refine hr7.mono ?_); rintro e w7 ⟨v7, rfl, hv7, hb7⟩; obtain rfl := res_nil hv7; have H7 := Lib.hid hb7; clear hb7)
    | (refine wpList_alloc_info (by rfl) 33 (by rfl) (.agg (nv .u8 zeroPg)) (nv .u8 zeroPg) (by kernel_rfl) rfl ?_)
    | (refine wpList_store_row (by rfl) 33 (.tmp 8) (.tmp 33) (by rfl) _ (nv .u8 (pg1 1)) (by rfl) (by rfl) 33 (nv .u8 zeroPg) (heap_alloc_new _ _) (info_pg _ (pg1_length 1)) (by rfl) (nv_one _ _) ?_))
  have hv1 := pg_var w7 (pg1 1)
  generalize (w7.alloc (.cells (nv .u8 zeroPg) 33)).setRow w7.heap.size (nv .u8 (pg1 1)) = w8 at hv1 ⊢
  have h68 : Below w6.heap.size w6 w8 := H7.out.trans (hv1.2.mono H7.out.size)
  have hr8 := (H6.out.1.below h68).read 4
  have e8 : D5.readE 4 = 0 := by kernel_rfl
  have f8 : D5.read 4 = pg1 3 := by kernel_rfl
  rw [e8, f8] at hr8
  have H8 := Lib.hid (And.intro hv1.1 h68)
  clear e8 f8 hr7 hv1 h68
  go_upto_region 9 with (first
    | (go_at_call 15; (with_reducible refine hr8.mono ?_); rintro e w9 ⟨v9, rfl, hv9, hb9⟩; obtain rfl := res_nil hv9; have H9 := Lib.hid hb9; clear hb9)
    | (refine wpList_alloc_info (by rfl) 33 (by rfl) (.agg (nv .u8 zeroPg)) (nv .u8 zeroPg) (by kernel_rfl) rfl ?_)
    | (refine wpList_store_row (by rfl) 33 (.tmp 10) (.tmp 38) (by rfl) _ (nv .u8 (pg1 3)) (by rfl) (by rfl) 33 (nv .u8 zeroPg) (heap_alloc_new _ _) (info_pg _ (pg1_length 3)) (by rfl) (nv_one _ _) ?_))
  have hv2 := pg_var w9 (pg1 3)
  generalize (w9.alloc (.cells (nv .u8 zeroPg) 33)).setRow w9.heap.size (nv .u8 (pg1 3)) = wA at hv2 ⊢
  have hA1 : IsBlk wA w7.heap.size (nv .u8 (pg1 1)) 33 := (H8.out.1.below H9.out H8.out.1.lt).below hv2.2 (Nat.lt_of_lt_of_le H8.out.1.lt H9.out.size)
  have h6A : Below w6.heap.size w6 wA := (H8.out.2.trans (H9.out.mono H8.out.2.size)).trans (hv2.2.mono (Nat.le_trans H8.out.2.size H9.out.size))
  have h5A : Below w5.heap.size w5 wA := H6.out.2.trans (h6A.mono H6.out.2.size)
  have hsz := (H5.out.1.below h5A).size
  have f5 : (D3.write 4 (pg1 3)).firm.length = 5 := by kernel_rfl
  rw [f5] at hsz
  have HA := Lib.hid (And.intro hA1 (And.intro hv2.1 (H5.out.2.trans (h5A.mono H5.out.2.size))))
  clear hr8 hv2 hA1 h6A h5A f5
  go_wp2_with (first
    | (go_at_call 14; (with_reducible refine (num_nil _).mono ?_); rintro e w' ⟨rfl, rfl⟩)
    | (go_at_call 21; refine hsz.mono ?_; rintro e w' ⟨rfl, rfl⟩)
    | (refine wpList_load_row_g (by rfl) 33 (.tmp 8) (by rfl) w7.heap.size (by rfl) 33 (nv .u8 (pg1 1)) (0, 0) _ HA.out.1 Tryd.underlying33 rfl (info_pg _ (pg1_length 1)) ?_)
    | (refine wpList_load_row_g (by rfl) 33 (.tmp 10) (by rfl) w9.heap.size (by rfl) 33 (nv .u8 (pg1 3)) (0, 0) _ HA.out.2.1 Tryd.underlying33 rfl (info_pg _ (pg1_length 3)) ?_)
    | (refine wpList_eql_pg (by rfl) (.tmp 62) (.tmp 63) (by rfl) (pg1 1) (pg1 1) (pg1_length 1) (pg1_length 1) (by rfl) (by rfl) ?_)
    | (refine wpList_eql_pg (by rfl) (.tmp 67) (.tmp 68) (by rfl) (pg1 3) (pg1 3) (pg1_length 3) (pg1_length 3) (by rfl) (by rfl) ?_))
  go_ret
  exact ⟨rfl, HA.out.2.2⟩
end Go.Proofs.YtjmjfgbpjecgfaaDoor
