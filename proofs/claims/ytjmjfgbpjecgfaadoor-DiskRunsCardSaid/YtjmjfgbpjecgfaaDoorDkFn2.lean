/-
  disk: Read.
-/
import Derived.Test.YtjmjfgbpjecgfaaDoorDkFn1
import Derived.Test.YtjmjfgbpjecgfaaDoorNv
import Derived.Laws.Rows
import Derived.Deep.DeepCutAuto
namespace Go.Proofs.YtjmjfgbpjecgfaaDoor
set_option linter.unusedVariables false
set_option linter.unusedSimpArgs false
open Go.RowKit

theorem results_cell_tmp {P : Program} {fn : Func} {p q : Tmp} {ty : TypeId} (h : fn.results = #[.cell p ty, .tmp q]) (tmps : Array Value) (w : World) (g : Nat) (t : TypeId) (cs : Array Value) (fr : Nat × Nat) (d : TypeDesc)
    (hp : tmps.getD p undef = .pointer (some ⟨g, 0, none⟩)) (hg : w.heap[g]? = some (.cells cs t fr))
    (hu : P.underlying ty = some d) (hd : (match d with | .struct _ | .array _ _ => true | _ => false) = true) (hi : (P.info? ty).map (·.size) = some cs.size) :
    (results fn tmps).run P w = .ok (.tuple #[.agg cs, tmps.getD q undef]) w := by
  have hp' : tmps[p]?.getD undef = .pointer (some ⟨g, 0, none⟩) := by simpa using hp
  simp [results, h, hp', asAddr, run_loadVar_row w g t ty cs fr d hg hu hd hi]

/-- A sector's value. -/
def pgV (p : List Nat) : Value := .agg (nv .u8 p)
theorem pgF_toArray (p : List Nat) : (pgF p).toArray = nv .u8 p := rfl
theorem info_pg (p : List Nat) (h : p.length = 64) : (Tryd.prog.info? 33).map (·.size) = some (nv .u8 p).size := by rw [nv_size, h]; kernel_rfl

section
variable {w : World} {base db fb mb cap : Nat} {cv : Value} {d : DK}

/-- The world behind the making of a sector's variable. -/
structure NewPg (w w1 : World) (p : List Nat) : Prop where
  blk : IsBlk w1 w.heap.size (nv .u8 p) 33
  below : Below w.heap.size w w1
  size : w1.heap.size = w.heap.size + 1
theorem newPg (w : World) : NewPg w (w.alloc (.cells (nv .u8 zeroPg) 33)) zeroPg := ⟨IsBlk.new _ _ _, (Below.refl _ _).alloc (Nat.le_refl _) _, by simp⟩
theorem zeroPg_length : zeroPg.length = 64 := rfl

theorem setRow_but (w : World) (g : Nat) (cs : Array Value) : But (fun k => k = g) w (w.setRow g cs) := by
  refine ⟨rfl, rfl, rfl, by simp [World.setRow], fun k _ hk => ?_⟩
  exact setRow_other w g k cs hk
/-- The end of Read: what its result variable holds. -/
theorem read_ret {W w1 w2 : World} {p0 p : List Nat} {a : Act} {v : Value} {R : Ending → World → Prop} (h : NewPg W w1 p0) (hb : Below w1.heap.size w1 w2) (hp : p.length = 64) (h4 : a.tmps.getD 4 undef = .pointer (some ⟨W.heap.size, 0, none⟩)) (h5 : a.tmps.getD 5 undef = v) (hd : a.defers = [])
    (hR : Below W.heap.size W (w2.setRow W.heap.size (nv .u8 p)) → But (fun k => k = W.heap.size) w2 (w2.setRow W.heap.size (nv .u8 p)) → R (.returned (.tuple #[pgV p, v])) (w2.setRow W.heap.size (nv .u8 p))) : bodyPost Tryd.prog Tryd.f15 R .ret a (w2.setRow W.heap.size (nv .u8 p)) := by
  have hblk : IsBlk w2 W.heap.size (nv .u8 p0) 33 := h.blk.below hb h.blk.lt
  refine bodyPost_ret (v := .tuple #[pgV p, v]) ?_ hd (hR ((h.below.trans (hb.mono h.below.size)).trans ((setRow_but _ _ _).below (Nat.le_trans h.below.size hb.size) (fun k hk => by omega))) (setRow_but _ _ _))
  rw [← h5]
  exact results_cell_tmp Tryd.results15 _ _ W.heap.size 33 (nv .u8 p) (0, 0) (.array 64 5) h4 (isBlk_setRow hblk _) (by kernel_rfl) rfl (info_pg _ hp)

set_option maxHeartbeats 2000000 in
theorem read_off (h : IsDk w base db fb mb cap cv d) (i : Int) (ho : d.off = true) : Calls Tryd.prog 15 #[.pointer (some ⟨db, 0, none⟩), .int .i64 i] w fun e w' => ∃ v, e = .returned (.tuple #[pgV zeroPg, v]) ∧ IsRes w' v 10 ∧ Below w.heap.size w w' := by
  go_enter Tryd.func15, Tryd.ntmps15
  go_upto_region 1 with fail
  change Code.wp _ _ _ _ (w.alloc (.cells (nv .u8 zeroPg) 33))
  have hw := newPg w
  generalize w.alloc (.cells (nv .u8 zeroPg) 33) = w1 at hw ⊢
  have hoff := off_any (h.below hw.below)
  rw [ho] at hoff
  have HW := Lib.hid hw
  clear h hw
  go_wp2_with (first
    | (go_at_call 17; (with_reducible refine hoff.mono ?_); rintro e w' ⟨rfl, rfl⟩)
    | (go_at_call 23; (with_reducible refine (in_off _).mono ?_); rintro e w2 ⟨v, rfl, ⟨b, rfl, hbb⟩, hr, hb⟩; have HBB := Lib.hid hbb; clear hbb; have HB := Lib.hid hb; have HR := Lib.hid hr; clear hb hr)
    | (refine wpList_store_row (by rfl) 33 (.tmp 4) (.tmp 10) (by rfl) w.heap.size (nv .u8 zeroPg) (by rfl) (by rfl) 33 (nv .u8 zeroPg) (by exact HW.out.blk.below HB.out HW.out.blk.lt) (info_pg _ zeroPg_length) (by rfl) (nv_one _ _) ?_))
  (try simp only [Exit.inBlock, Exit.then])
  refine read_ret HW.out HB.out zeroPg_length rfl rfl rfl fun h1 h2 => ⟨_, rfl, HR.out.but h2 ?_, h1⟩
  have h3 := HBB.out
  have h4 := HW.out.size
  show ¬ b = w.heap.size
  omega

set_option maxHeartbeats 2000000 in
theorem read_bad (h : IsDk w base db fb mb cap cv d) (i : Int) (ho : d.off = false) (hi : d.bad i = true) : Calls Tryd.prog 15 #[.pointer (some ⟨db, 0, none⟩), .int .i64 i] w fun e w' => ∃ v, e = .returned (.tuple #[pgV zeroPg, v]) ∧ IsRes w' v 1 ∧ Below w.heap.size w w' := by
  have hi' : i < 0 ∨ (0 ≤ i ∧ (d.firm.length : Int) ≤ i) := by
    simp only [DK.bad, Bool.or_eq_true, decide_eq_true_eq] at hi
    omega
  go_enter Tryd.func15, Tryd.ntmps15
  go_upto_region 1 with fail
  change Code.wp _ _ _ _ (w.alloc (.cells (nv .u8 zeroPg) 33))
  have hw := newPg w
  generalize w.alloc (.cells (nv .u8 zeroPg) 33) = w1 at hw ⊢
  have hoff := off_any (h.below hw.below)
  have c0 := (h.below hw.below).c0
  rw [ho] at hoff
  have HW := Lib.hid hw
  have hn2 := h.n2
  clear h hw hi
  rcases hi' with hneg | ⟨hpos, hge⟩
  · go_wp2_with (first
      | (go_at_call 17; (with_reducible refine hoff.mono ?_); rintro e w' ⟨rfl, rfl⟩)
      | (go_at_call 23; (with_reducible refine (in_arg _).mono ?_); rintro e w2 ⟨v, rfl, ⟨b, rfl, hbb⟩, hr, hb⟩; have HBB := Lib.hid hbb; clear hbb; have HB := Lib.hid hb; have HR := Lib.hid hr; clear hb hr)
      | (refine wpList_store_row (by rfl) 33 (.tmp 4) (.tmp 24) (by rfl) w.heap.size (nv .u8 zeroPg) (by rfl) (by rfl) 33 (nv .u8 zeroPg) (by exact HW.out.blk.below HB.out HW.out.blk.lt) (info_pg _ zeroPg_length) (by rfl) (nv_one _ _) ?_))
    (try simp only [Exit.inBlock, Exit.then])
    refine read_ret HW.out HB.out zeroPg_length rfl rfl rfl fun h1 h2 => ⟨_, rfl, HR.out.but h2 ?_, h1⟩
    have h3 := HBB.out
    have h4 := HW.out.size
    show ¬ b = w.heap.size
    omega
  · have hneg : ¬ i < 0 := by omega
    go_wp2_with (first
      | (go_at_call 17; (with_reducible refine hoff.mono ?_); rintro e w' ⟨rfl, rfl⟩)
      | (go_at_call 23; (with_reducible refine (in_arg _).mono ?_); rintro e w2 ⟨v, rfl, ⟨b, rfl, hbb⟩, hr, hb⟩; have HBB := Lib.hid hbb; clear hbb; have HB := Lib.hid hb; have HR := Lib.hid hr; clear hb hr)
      | (refine wpList_store_row (by rfl) 33 (.tmp 4) (.tmp 24) (by rfl) w.heap.size (nv .u8 zeroPg) (by rfl) (by rfl) 33 (nv .u8 zeroPg) (by exact HW.out.blk.below HB.out HW.out.blk.lt) (info_pg _ zeroPg_length) (by rfl) (nv_one _ _) ?_))
    (try simp only [Exit.inBlock, Exit.then])
    refine read_ret HW.out HB.out zeroPg_length rfl rfl rfl fun h1 h2 => ⟨_, rfl, HR.out.but h2 ?_, h1⟩
    have h3 := HBB.out
    have h4 := HW.out.size
    show ¬ b = w.heap.size
    omega

theorem rangeAt_tail {w : World} {g o : Nat} {v : Value} {vs : List Value} (h : w.rangeAt g o (v :: vs)) : w.rangeAt g (o + 1) vs := fun j u hj => by
  have := h (j + 1) u (by simpa using hj)
  rw [show o + 1 + j = o + (j + 1) by omega]
  exact this

theorem last_look {w : World} {mb : Nat} {l : List (Nat × List Nat)} (h : IntMap w mb .i64 (lastM l)) {n : Int} {v : Value} (hv : lastM l n = some v) : (Instr.lookup 62 (.map (some mb)) (.int .i64 n) true).run Tryd.prog w = .ok (.tuple #[v, .bool true]) w := by
  have := run_lookup2_intMap (P := Tryd.prog) (t := 62) (kt := 3) (e := 3) Tryd.underlying62 Tryd.underlying3 h (z := .int .i64 0) (by kernel_rfl) n
  rwa [hv] at this
theorem last_none {w : World} {mb : Nat} {l : List (Nat × List Nat)} (h : IntMap w mb .i64 (lastM l)) {n : Int} (hv : lastM l n = none) : (Instr.lookup 62 (.map (some mb)) (.int .i64 n) true).run Tryd.prog w = .ok (.tuple #[.int .i64 0, .bool false]) w := by
  have := run_lookup2_intMap (P := Tryd.prog) (t := 62) (kt := 3) (e := 3) Tryd.underlying62 Tryd.underlying3 h (z := .int .i64 0) (by kernel_rfl) n
  rwa [hv] at this

set_option maxHeartbeats 4000000 in
theorem read_pend (h : IsDk w base db fb mb cap cv d) (k : Nat) (ho : d.off = false) (hk : k < d.firm.length) (j : Nat) (hj : lastFrom d.pend k 0 = some j) : Calls Tryd.prog 15 #[.pointer (some ⟨db, 0, none⟩), .int .i64 (k : Int)] w fun e w' => e = .returned (.tuple #[pgV (d.cur.getD k zeroPg), .nilIface]) ∧ Below w.heap.size w w' := by
  obtain ⟨_, x, hx, hxk, hcur⟩ := lastFrom_some h.pend hj
  rw [Nat.sub_zero] at hx
  have hxl : x.2.length = 64 := by
    have := h.cache.1 x (List.mem_of_getElem? hx)
    rw [wrF_length] at this
    omega
  have hjl : j < d.pend.length := (List.getElem?_eq_some_iff.1 hx).1
  rw [show d.cur.getD k zeroPg = x.2 from hcur]
  go_enter Tryd.func15, Tryd.ntmps15
  go_upto_region 1 with fail
  change Code.wp _ _ _ _ (w.alloc (.cells (nv .u8 zeroPg) 33))
  have hw := newPg w
  generalize w.alloc (.cells (nv .u8 zeroPg) 33) = w1 at hw ⊢
  have h1 := h.below hw.below
  have hoff := off_any h1
  have c0 := h1.c0
  have c1 := h1.c1
  have c2 := h1.c2
  rw [ho] at hoff
  obtain ⟨g, cc, rfl, hrg, _⟩ := h1.cache.range (by decide) hx
  have hr2 := rangeAt_tail hrg
  have HM := Lib.hid (And.intro h1.map (show lastM d.pend (k : Int) = some (.int .i64 (j : Int)) by
    unfold lastM
    rw [if_pos (by omega), Int.toNat_natCast, hj]
    rfl))
  have HW := Lib.hid hw
  have hn2 := h.n2
  have HR := Lib.hid hr2
  have hcc : d.pend.length ≤ cc ∧ cc ≤ maxLen := by
    obtain ⟨g', cap', cur', e, _, _, h5, h6, _⟩ := h1.cache.block (by intro e; rw [e] at hjl; simp at hjl)
    injection e with _ _ e
    subst e
    exact ⟨h5, h6⟩
  unfold maxLen at hcc
  have HX := Lib.hid hxl
  obtain ⟨hcc1, -⟩ := hcc
  clear h hw h1 hrg hr2 hj hcur hxk hx hxl
  go_wp2_with (first
    | (go_at_call 17; (with_reducible refine hoff.mono ?_); rintro e w' ⟨rfl, rfl⟩)
    | (refine wpList_lookup2 (by rfl) 62 (.tmp 31) (.tmp 32) true (by rfl) mb .i64 (k : Int) _ (by rfl) (by rfl) (last_look HM.out.1 HM.out.2) ?_)
    | (refine wpList_load_mid (by rfl) 33 (.tmp 43) (by rfl) g (j * 65 + 1) (by rfl) (bv x.2) _ HR.out Tryd.underlying33 rfl (by rw [bv_length, HX.out]; kernel_rfl) ?_)
    | (refine wpList_store_row (by rfl) 33 (.tmp 4) (.tmp 44) (by rfl) w.heap.size (nv .u8 x.2) (by rfl) (by rfl) 33 (nv .u8 zeroPg) (by exact HW.out.blk) (info_pg _ HX.out) (by rw [nv_size, nv_size, HX.out]; rfl) (nv_one _ _) ?_))
  (try simp only [Exit.inBlock, Exit.then])
  exact read_ret HW.out (Below.refl _ _) HX.out rfl rfl rfl fun h1 _ => ⟨rfl, h1⟩

set_option maxHeartbeats 4000000 in
theorem read_firm (h : IsDk w base db fb mb cap cv d) (k : Nat) (ho : d.off = false) (hk : k < d.firm.length) (hj : lastFrom d.pend k 0 = none) : Calls Tryd.prog 15 #[.pointer (some ⟨db, 0, none⟩), .int .i64 (k : Int)] w fun e w' => e = .returned (.tuple #[pgV (d.cur.getD k zeroPg), .nilIface]) ∧ Below w.heap.size w w' := by
  have hcur := lastFrom_none h.pend hj
  rw [show d.cur.getD k zeroPg = d.firm.getD k zeroPg from hcur]
  clear hcur
  have hx : d.firm[k]? = some (d.firm.getD k zeroPg) := by simp [List.getD, List.getElem?_eq_getElem hk]
  generalize d.firm.getD k zeroPg = p at *
  have hxl : p.length = 64 := by
    have := h.firm.1 p (List.mem_of_getElem? hx)
    rwa [pgF_length] at this
  go_enter Tryd.func15, Tryd.ntmps15
  go_upto_region 1 with fail
  change Code.wp _ _ _ _ (w.alloc (.cells (nv .u8 zeroPg) 33))
  have hw := newPg w
  generalize w.alloc (.cells (nv .u8 zeroPg) 33) = w1 at hw ⊢
  have h1 := h.below hw.below
  have hoff := off_any h1
  have c0 := h1.c0
  have c2 := h1.c2
  rw [ho] at hoff
  obtain ⟨g, cc, e, hrg, _⟩ := h1.firm.range (by decide) hx
  injection e with e1 _ e3
  injection e1 with e1
  injection e1 with e1
  subst e1 e3
  have HM := Lib.hid (And.intro h1.map (show lastM d.pend (k : Int) = none by
    unfold lastM
    rw [if_pos (by omega), Int.toNat_natCast, hj]
    rfl))
  have HW := Lib.hid hw
  have hn2 := h.n2
  have HR := Lib.hid hrg
  have HX := Lib.hid hxl
  have hcc1 : d.firm.length ≤ cap := by
    obtain ⟨g', cap', cur', e, _, _, h5, _⟩ := h1.firm.block (by intro e; rw [e] at hk; simp at hk)
    injection e with _ _ e
    subst e
    exact h5
  clear h hw h1 hrg hj hx hxl
  go_wp2_with (first
    | (go_at_call 17; (with_reducible refine hoff.mono ?_); rintro e w' ⟨rfl, rfl⟩)
    | (refine wpList_lookup2 (by rfl) 62 (.tmp 31) (.tmp 32) true (by rfl) mb .i64 (k : Int) _ (by rfl) (by rfl) (last_none HM.out.1 HM.out.2) ?_)
    | (refine wpList_load_mid (by rfl) 33 (.tmp 50) (by rfl) fb (k * 64) (by rfl) (bv p) _ HR.out Tryd.underlying33 rfl (by rw [bv_length, HX.out]; kernel_rfl) ?_)
    | (refine wpList_store_row (by rfl) 33 (.tmp 4) (.tmp 51) (by rfl) w.heap.size (nv .u8 p) (by rfl) (by rfl) 33 (nv .u8 zeroPg) (by exact HW.out.blk) (info_pg _ HX.out) (by rw [nv_size, nv_size, HX.out]; rfl) (nv_one _ _) ?_))
  (try simp only [Exit.inBlock, Exit.then])
  exact read_ret HW.out (Below.refl _ _) HX.out rfl rfl rfl fun h1 _ => ⟨rfl, h1⟩

/-- Read, whatever is asked for. -/
theorem read_any (h : IsDk w base db fb mb cap cv d) (i : Int) : Calls Tryd.prog 15 #[.pointer (some ⟨db, 0, none⟩), .int .i64 i] w fun e w' => ∃ v, e = .returned (.tuple #[pgV (d.read i), v]) ∧ IsRes w' v (d.readE i) ∧ Below w.heap.size w w' := by
  cases ho : d.off with
  | true =>
    have e1 : d.readE i = 10 := by simp [DK.readE, ho]
    have e2 : d.read i = zeroPg := by simp [DK.read, e1]
    rw [e1, e2]
    exact read_off h i ho
  | false =>
    cases hb : d.bad i with
    | true =>
      have e1 : d.readE i = 1 := by simp [DK.readE, ho, hb]
      have e2 : d.read i = zeroPg := by simp [DK.read, e1]
      rw [e1, e2]
      exact read_bad h i ho hb
    | false =>
      have e1 : d.readE i = 0 := by simp [DK.readE, ho, hb]
      have e2 : d.read i = d.cur.getD i.toNat zeroPg := by simp [DK.read, e1]
      rw [e1, e2]
      simp only [DK.bad, Bool.or_eq_false_iff, decide_eq_false_iff_not] at hb
      obtain ⟨k, rfl⟩ : ∃ k : Nat, i = (k : Int) := ⟨i.toNat, by omega⟩
      rw [Int.toNat_natCast]
      have hk : k < d.firm.length := by omega
      cases hj : lastFrom d.pend k 0 with
      | none => exact (read_firm h k ho hk hj).mono fun e w' ⟨h1, h2⟩ => ⟨_, h1, rfl, h2⟩
      | some j => exact (read_pend h k ho hk j hj).mono fun e w' ⟨h1, h2⟩ => ⟨_, h1, rfl, h2⟩
theorem read_nil (i : Int) (w : World) : Calls Tryd.prog 15 #[.pointer none, .int .i64 i] w fun e w' => ∃ v, e = .returned (.tuple #[pgV zeroPg, v]) ∧ IsRes w' v 10 ∧ Below w.heap.size w w' := by
  go_enter Tryd.func15, Tryd.ntmps15
  go_upto_region 1 with fail
  change Code.wp _ _ _ _ (w.alloc (.cells (nv .u8 zeroPg) 33))
  have hw := newPg w
  generalize w.alloc (.cells (nv .u8 zeroPg) 33) = w1 at hw ⊢
  have HW := Lib.hid hw
  clear hw
  go_wp2_with (first
    | (go_at_call 17; (with_reducible refine (off_nil _).mono ?_); rintro e w' ⟨rfl, rfl⟩)
    | (go_at_call 23; (with_reducible refine (in_off _).mono ?_); rintro e w2 ⟨v, rfl, ⟨b, rfl, hbb⟩, hr, hb⟩; have HBB := Lib.hid hbb; clear hbb; have HB := Lib.hid hb; have HR := Lib.hid hr; clear hb hr)
    | (refine wpList_store_row (by rfl) 33 (.tmp 4) (.tmp 10) (by rfl) w.heap.size (nv .u8 zeroPg) (by rfl) (by rfl) 33 (nv .u8 zeroPg) (by exact HW.out.blk.below HB.out HW.out.blk.lt) (info_pg _ zeroPg_length) (by rfl) (nv_one _ _) ?_))
  (try simp only [Exit.inBlock, Exit.then])
  refine read_ret HW.out HB.out zeroPg_length rfl rfl rfl fun h1 h2 => ⟨_, rfl, HR.out.but h2 ?_, h1⟩
  have h3 := HBB.out
  have h4 := HW.out.size
  show ¬ b = w.heap.size
  omega
end
end Go.Proofs.YtjmjfgbpjecgfaaDoor
