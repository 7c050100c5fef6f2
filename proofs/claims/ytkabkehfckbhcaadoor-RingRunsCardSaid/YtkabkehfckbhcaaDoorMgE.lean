/-
  disk: the document's disk in memory.
  disk: the document's Read.
  disk: the document's Write.
  disk: the document's Flush and Crash.
  disk: the document's Crash.
  disk: how the calls read.
  disk: a disk and the document's, side by side: one call of both.
-/
import Derived.Test.YtkabkehfckbhcaaDoorMgD
import Derived.Deep.LoopGhost
import Derived.Test.YtkabkehfckbhcaaDoorMgA
import Derived.Deep.DeepCutAuto
import Derived.Deep.CutBlock
namespace Go.Proofs.YtkabkehfckbhcaaDoor
set_option linter.unusedVariables false
set_option linter.unusedSimpArgs false
open Go.RowKit

def atF (x : Nat × List Nat) : List Value := [.int .i64 ((x.1 : Nat) : Int)]
def whF (x : Nat × List Nat) : List Value := bv x.2
/-- The document's disk, block by block. -/
structure IsRd (w : World) (base rb fb cap : Nat) (av wv : Value) (d : DK) : Prop where
  blk : IsBlk w rb #[.slice (some ⟨fb, 0, none⟩) d.firm.length cap, av, wv, .int .i64 d.fuel, .bool d.off] 90
  firm : RowF w base 48 64 pgF (.slice (some ⟨fb, 0, none⟩) d.firm.length cap) d.firm
  at_ : RowF w base 3 1 atF av d.pend
  what : RowF w base 48 64 whF wv d.pend
  apart : wv.ownBlock ≠ some fb
  pend : ∀ x ∈ d.pend, x.1 < d.firm.length
  n1 : 1 ≤ d.firm.length
  n2 : d.firm.length ≤ 4096
  f1 : -1 ≤ d.fuel
  f2 : d.fuel ≤ 9223372036854775807
  brb : base ≤ rb
theorem RowF.no_blk {α : Type} {f : α → List Value} {c : Nat} {w : World} {base : Nat} {t t' : TypeId} {v : Value} {l : List α} (h : RowF w base t c f v l) {b : Nat} {cs : Array Value} (hb : IsBlk w b cs t') (ht : t ≠ t') : v.ownBlock ≠ some b := by
  intro e
  obtain ⟨cur, hc⟩ := h.tag b e
  unfold IsBlk at hb
  rw [hc] at hb
  injection hb with hb
  injection hb with _ h2
  exact ht h2
theorem RowF.ne_row {α β : Type} {f : α → List Value} {g : β → List Value} {c c' : Nat} {w : World} {base base' : Nat} {t t' : TypeId} {v v' : Value} {l : List α} {m : List β} (h : RowF w base t c f v l) (h' : RowF w base' t' c' g v' m) (ht : t ≠ t') {k : Nat} (hk : v.ownBlock = some k) : v'.ownBlock ≠ some k := by
  intro e
  obtain ⟨cur, hc⟩ := h.tag k hk
  obtain ⟨cur2, hc2⟩ := h'.tag k e
  rw [hc] at hc2
  injection hc2 with hc2
  injection hc2 with _ h2
  exact ht h2
section
variable {w w' : World} {base rb fb cap : Nat} {av wv : Value} {d : DK}
theorem IsRd.fb_ne (h : IsRd w base rb fb cap av wv d) : fb ≠ rb := fun e => h.firm.no_blk h.blk (by decide) (by rw [e]; rfl)
theorem IsRd.av_ne (h : IsRd w base rb fb cap av wv d) {k : Nat} (hk : av.ownBlock = some k) : k ≠ rb ∧ k ≠ fb ∧ wv.ownBlock ≠ some k :=
  ⟨fun e => h.at_.no_blk h.blk (by decide) (e ▸ hk), fun e => h.at_.ne_row h.firm (by decide) hk (by rw [e]; rfl), h.at_.ne_row h.what (by decide) hk⟩
theorem IsRd.wv_ne (h : IsRd w base rb fb cap av wv d) {k : Nat} (hk : wv.ownBlock = some k) : k ≠ rb ∧ k ≠ fb ∧ av.ownBlock ≠ some k :=
  ⟨fun e => h.what.no_blk h.blk (by decide) (e ▸ hk), fun e => h.apart (e ▸ hk), h.what.ne_row h.at_ (by decide) hk⟩
theorem IsRd.fb_lt (h : IsRd w base rb fb cap av wv d) : fb < w.heap.size := h.firm.lt fb rfl
theorem IsRd.fb_base (h : IsRd w base rb fb cap av wv d) : base ≤ fb := h.firm.base_le fb rfl
theorem IsRd.base_mono {base' : Nat} (h : IsRd w base rb fb cap av wv d) (hb : base' ≤ base) : IsRd w base' rb fb cap av wv d :=
  ⟨h.blk, h.firm.mono hb, h.at_.mono hb, h.what.mono hb, h.apart, h.pend, h.n1, h.n2, h.f1, h.f2, Nat.le_trans hb h.brb⟩
/-- Nothing of it has turned. -/
theorem IsRd.same (h : IsRd w base rb fb cap av wv d) {S : Nat → Prop} (hw : But S w w') (h1 : ¬ S rb) (h2 : ¬ S fb) (h3 : ∀ k, av.ownBlock = some k → ¬ S k) (h4 : ∀ k, wv.ownBlock = some k → ¬ S k) : IsRd w' base rb fb cap av wv d :=
  ⟨hw.blk h.blk h1, h.firm.but hw (fun k hk => by simp [Value.ownBlock] at hk; subst hk; exact h2), h.at_.but hw h3, h.what.but hw h4, h.apart, h.pend, h.n1, h.n2, h.f1, h.f2, h.brb⟩
theorem IsRd.below (h : IsRd w base rb fb cap av wv d) (hw : Below w.heap.size w w') : IsRd w' base rb fb cap av wv d :=
  h.same (S := fun _ => False) (But.of_below hw (Nat.le_refl _)) id id (fun _ _ => id) (fun _ _ => id)
/-- The struct alone has turned. -/
theorem IsRd.turn (h : IsRd w base rb fb cap av wv d) {d' : DK} (hf : d'.firm = d.firm) (hp : d'.pend = d.pend) (h1 : -1 ≤ d'.fuel) (h2 : d'.fuel ≤ 9223372036854775807)
    (hb : IsBlk w' rb #[.slice (some ⟨fb, 0, none⟩) d.firm.length cap, av, wv, .int .i64 d'.fuel, .bool d'.off] 90) (hw : But (fun k => k = rb) w w') : IsRd w' base rb fb cap av wv d' :=
  ⟨by rw [hf]; exact hb, by rw [hf]; exact h.firm.but hw (fun k hk e => h.fb_ne (by simp [Value.ownBlock] at hk; omega)), by rw [hp]; exact h.at_.but hw (fun k hk e => (h.av_ne hk).1 e), by rw [hp]; exact h.what.but hw (fun k hk e => (h.wv_ne hk).1 e), h.apart, by rw [hf, hp]; exact h.pend, by rw [hf]; exact h.n1, by rw [hf]; exact h.n2, h1, h2, h.brb⟩
theorem IsRd.c0 (h : IsRd w base rb fb cap av wv d) : w.cell? ⟨rb, 0, none⟩ = some (.slice (some ⟨fb, 0, none⟩) d.firm.length cap) := h.blk.cell 0 rfl
theorem IsRd.c1 (h : IsRd w base rb fb cap av wv d) : w.cell? ⟨rb, 1, none⟩ = some av := h.blk.cell 1 rfl
theorem IsRd.c2 (h : IsRd w base rb fb cap av wv d) : w.cell? ⟨rb, 2, none⟩ = some wv := h.blk.cell 2 rfl
theorem IsRd.c3 (h : IsRd w base rb fb cap av wv d) : w.cell? ⟨rb, 3, none⟩ = some (.int .i64 d.fuel) := h.blk.cell 3 rfl
theorem IsRd.c4 (h : IsRd w base rb fb cap av wv d) : w.cell? ⟨rb, 4, none⟩ = some (.bool d.off) := h.blk.cell 4 rfl

theorem ref_no (h : IsRd w base rb fb cap av wv d) (i : Int) : Calls Tryd.prog 36 #[.pointer (some ⟨rb, 0, none⟩), .int .i64 i] w fun e w' => e = .returned (.bool (d.bad i)) ∧ w' = w := by
  have c0 := h.c0
  have hn2 := h.n2
  clear h
  by_cases hi : i < 0
  · have hb : d.bad i = true := by simp [DK.bad, hi]
    rw [hb]
    clear hb
    go_enter Tryd.func36, Tryd.ntmps36
    go_wp2
    go_ret
    exact ⟨rfl, rfl⟩
  · have hb : d.bad i = decide ((d.firm.length : Int) ≤ i) := by simp [DK.bad, hi]
    rw [hb]
    clear hb
    go_enter Tryd.func36, Tryd.ntmps36
    go_wp2
    go_ret
    exact ⟨by simp, rfl⟩

/-- One step. -/
theorem ref_step (h : IsRd w base rb fb cap av wv d) : Calls Tryd.prog 37 #[.pointer (some ⟨rb, 0, none⟩)] w fun e w' => e = .returned (.int .i64 (if d.may then 0 else 10)) ∧ IsRd w' base rb fb cap av wv d.step ∧ But (fun k => k = rb) w w' := by
  have c3 := h.c3
  have c4 := h.c4
  have z3 := h.blk.fz 3
  have z4 := h.blk.fz 4
  have f1 := h.f1
  have f2 := h.f2
  have HH := Lib.hid h
  clear h
  by_cases h0 : d.fuel = 0
  · have hm : d.may = false := by simp [DK.may, h0]
    rw [hm]
    rw [h0] at c3
    have HS : Hid (d.step = { d with off := true }) := Lib.hid (by
      unfold DK.step
      cases ho : d.off with
      | true => rw [if_pos rfl]; cases d; simp at ho; subst ho; rfl
      | false => rw [if_neg (by simp), if_pos h0])
    have hb : But (fun k => k = rb) w (w.setCell ⟨rb, 4, none⟩ (.bool true)) := (But.refl (fun k => k = rb) w).setCell (p := ⟨rb, 4, none⟩) rfl _
    have HB := Lib.hid hb
    have hs := HH.out.blk.set 4 (.bool true)
    have HS2 := Lib.hid hs
    have c4' := hs.cell 4 (v := .bool true) rfl
    clear hm f1 f2 h0 hb hs
    go_enter Tryd.func37, Tryd.ntmps37
    go_wp2
    go_ret
    refine ⟨rfl, ?_, HB.out⟩
    rw [HS.out]
    exact HH.out.turn rfl rfl HH.out.f1 HH.out.f2 HS2.out HB.out
  · have h0' : ¬ d.fuel = 0 := h0
    cases ho : d.off with
    | true =>
      have hm : d.may = false := by simp [DK.may, ho]
      have HS : Hid (d.step = d) := Lib.hid (by simp [DK.step, ho])
      rw [hm]
      rw [ho] at c4
      clear hm ho
      have h0b : (d.fuel == 0) = false := by simp; exact h0
      go_enter Tryd.func37, Tryd.ntmps37
      go_wp2
      go_ret
      refine ⟨rfl, ?_, But.refl _ _⟩
      rw [HS.out]
      exact HH.out
    | false =>
      have hm : d.may = true := by simp [DK.may, ho, h0]
      rw [hm]
      rw [ho] at c4
      have h0b : (d.fuel == 0) = false := by simp; exact h0
      by_cases hp : 0 < d.fuel
      · have HS : Hid (d.step = { d with fuel := d.fuel - 1 }) := Lib.hid (by
          unfold DK.step
          rw [if_neg (by simp [ho]), if_neg h0, if_pos hp])
        have hb : But (fun k => k = rb) w (w.setCell ⟨rb, 3, none⟩ (.int .i64 (d.fuel - 1))) := (But.refl (fun k => k = rb) w).setCell (p := ⟨rb, 3, none⟩) rfl _
        have HB := Lib.hid hb
        have HS2 := Lib.hid (HH.out.blk.set 3 (.int .i64 (d.fuel - 1)))
        have HF : Hid (-1 ≤ d.fuel - 1 ∧ d.fuel - 1 ≤ 9223372036854775807) := Lib.hid ⟨by omega, by omega⟩
        clear hm ho h0 hb
        go_enter Tryd.func37, Tryd.ntmps37
        go_wp2
        go_ret
        refine ⟨rfl, ?_, HB.out⟩
        rw [HS.out]
        exact HH.out.turn rfl rfl HF.out.1 HF.out.2 HS2.out HB.out
      · have HS : Hid (d.step = d) := Lib.hid (by
          unfold DK.step
          rw [if_neg (by simp [ho]), if_neg h0, if_neg hp])
        clear hm ho h0
        go_enter Tryd.func37, Tryd.ntmps37
        go_wp2
        go_ret
        refine ⟨rfl, ?_, But.refl _ _⟩
        rw [HS.out]
        exact HH.out

set_option maxRecDepth 100000 in
set_option maxHeartbeats 4000000 in
theorem ref_new (w : World) (n : Nat) (h1 : 1 ≤ n) (h2 : n ≤ 4096) : Calls Tryd.prog 10 #[.int .i64 (n : Int)] w fun e w' => ∃ rb fb cap, e = .returned (.tuple #[.pointer (some ⟨rb, 0, none⟩), .int .i64 0]) ∧ IsRd w' w.heap.size rb fb cap (.slice none 0 0) (.slice none 0 0) (DK.new n) ∧ Below w.heap.size w w' := by
  obtain ⟨it, z, hi1, hi2, hi3, hi4, hi5⟩ := pg_typ
  have HI := Lib.hid (And.intro hi1 (And.intro hi2 (And.intro hi3 (And.intro hi4 hi5))))
  have hby : it.bytes * n ≤ 281474976710656 := by rw [hi4]; omega
  have hmx : n ≤ maxLen := by unfold maxLen; omega
  have HB := Lib.hid (And.intro hby hmx)
  clear hi1 hi2 hi3 hi4 hi5 hby hmx
  have hn1 : ¬ ((n : Int) < 1) := by omega
  have hn2 : ¬ ((n : Int) > 4096) := by omega
  go_enter Tryd.func10, Tryd.ntmps10
  go_wp2_with (refine wpList_make_full w (by rfl) (.tmp 10) (.tmp 10) 41 (by rfl) w.heap.size 48 it z 64 Tryd.underlying41 HI.out.1 HI.out.2.1 HI.out.2.2.1 .i64 .i64 _ _ n (by rfl) (by rfl) rfl rfl HB.out.1 HB.out.2 (Nat.le_refl _) ?_; intro w1 q1 q2; have HQ := Lib.hid (And.intro q1 q2); clear q1 q2)
  go_ret2
  have hrow : RowF w1 w.heap.size 48 64 pgF (.slice (some ⟨w.heap.size, 0, none⟩) n n) (List.replicate n zeroPg) := RowF.made (by rfl) (by decide) HI.out.2.2.2.2 HQ.out.1
  have hb1 : Below w.heap.size w w1 := ⟨HQ.out.2.os, HQ.out.2.tape, HQ.out.2.output, HQ.out.2.size, fun k hk => HQ.out.2.block k hk (by simp)⟩
  refine ⟨_, rfl, ⟨w.heap.size, n, ⟨?_, ?_, RowF.nil _ _ _ _ _, RowF.nil _ _ _ _ _, (by intro e; cases e), (fun x hx => by cases hx), ?_, ?_, (by show (-1 : Int) ≤ -1; omega), (by show (-1 : Int) ≤ 9223372036854775807; omega), hb1.size⟩⟩, ?_⟩
  · show IsBlk _ _ #[.slice (some ⟨w.heap.size, 0, none⟩) (List.replicate n zeroPg).length n, .slice none 0 0, .slice none 0 0, .int .i64 (-1), .bool false] _
    rw [List.length_replicate]
    exact IsBlk.new w1 #[.slice (some ⟨w.heap.size, 0, none⟩) n n, .slice none 0 0, .slice none 0 0, .int .i64 (-1), .bool false] 90
  · show RowF _ _ _ _ _ (.slice (some ⟨w.heap.size, 0, none⟩) (List.replicate n zeroPg).length n) (List.replicate n zeroPg)
    rw [List.length_replicate]
    exact hrow.below ((Below.refl _ _).alloc (Nat.le_refl _) _)
  · show 1 ≤ (List.replicate n zeroPg).length
    rw [List.length_replicate]; exact h1
  · show (List.replicate n zeroPg).length ≤ 4096
    rw [List.length_replicate]; exact h2
  · exact hb1.alloc hb1.size _
theorem ref_new_bad (w : World) (n : Int) (h : n < 1 ∨ 4096 < n) : Calls Tryd.prog 10 #[.int .i64 n] w fun e w' => e = .returned (.tuple #[.pointer none, .int .i64 1]) ∧ w' = w := by
  by_cases h1 : n < 1
  · go_enter Tryd.func10, Tryd.ntmps10
    go_wp2
    go_ret2
    exact ⟨rfl, rfl⟩
  · have h2 : n > 4096 := by omega
    clear h
    go_enter Tryd.func10, Tryd.ntmps10
    go_wp2
    go_ret2
    exact ⟨rfl, rfl⟩
end
end Go.Proofs.YtkabkehfckbhcaaDoor

namespace Go.Proofs.YtkabkehfckbhcaaDoor
set_option linter.unusedVariables false
set_option linter.unusedSimpArgs false
open Go.RowKit

theorem getD_set_ne (l : List (List Nat)) (i j : Nat) (v : List Nat) (h : i ≠ j) : (l.set i v).getD j zeroPg = l.getD j zeroPg := by
  simp only [List.getD, List.getElem?_set, if_neg h]
theorem applyP_none {l : List (Nat × List Nat)} : ∀ {f : List (List Nat)} {i : Nat}, (∀ x ∈ l, x.1 ≠ i) → (applyP f l).getD i zeroPg = f.getD i zeroPg := by
  induction l with
  | nil => intro f i _; rfl
  | cons x r ih =>
    intro f i h
    rw [applyP_cons, ih (fun y hy => h y (List.mem_cons_of_mem _ hy)), getD_set_ne _ _ _ _ (h x (by simp))]
theorem applyP_at {f : List (List Nat)} {l : List (Nat × List Nat)} {i k : Nat} {x : Nat × List Nat} (hl : ∀ y ∈ l, y.1 < f.length) (hk : l[k]? = some x) (hx : x.1 = i) (hn : ∀ (j : Nat) y, k < j → l[j]? = some y → y.1 ≠ i) : (applyP f l).getD i zeroPg = x.2 := by
  have hkl : k < l.length := (List.getElem?_eq_some_iff.1 hk).1
  have e : l = l.take k ++ (x :: l.drop (k + 1)) := by
    have h1 : l.drop k = x :: l.drop (k + 1) := by rw [List.drop_eq_getElem_cons hkl, (List.getElem?_eq_some_iff.1 hk).2]
    rw [← h1, List.take_append_drop]
  have hd : ∀ y ∈ l.drop (k + 1), y.1 ≠ i := fun y hy => by
    obtain ⟨j, hj, rfl⟩ := List.mem_iff_getElem.1 hy
    rw [List.length_drop] at hj
    rw [List.getElem_drop]
    exact hn (k + 1 + j) _ (by omega) (List.getElem?_eq_getElem (by omega))
  rw [e, applyP_append, applyP_cons, applyP_none hd, getD_set _ _ _ _ (by rw [applyP_length]; exact hl x (List.mem_of_getElem? hk)), if_pos hx]

section
variable {w : World} {base rb fb cap : Nat} {av wv : Value} {d : DK}
theorem rread_ret {W w1 w2 : World} {p0 p : List Nat} {a : Act} {v : Value} {R : Ending → World → Prop} (h : NewPg W w1 p0) (hb : Below w1.heap.size w1 w2) (hp : p.length = 64) (h4 : a.tmps.getD 4 undef = .pointer (some ⟨W.heap.size, 0, none⟩)) (h5 : a.tmps.getD 5 undef = v) (hd : a.defers = [])
    (hR : Below W.heap.size W (w2.setRow W.heap.size (nv .u8 p)) → But (fun k => k = W.heap.size) w2 (w2.setRow W.heap.size (nv .u8 p)) → R (.returned (.tuple #[pgV p, v])) (w2.setRow W.heap.size (nv .u8 p))) : bodyPost Tryd.prog Tryd.f29 R .ret a (w2.setRow W.heap.size (nv .u8 p)) := by
  have hblk : IsBlk w2 W.heap.size (nv .u8 p0) 48 := h.blk.below hb h.blk.lt
  refine bodyPost_ret (v := .tuple #[pgV p, v]) ?_ hd (hR ((h.below.trans (hb.mono h.below.size)).trans ((setRow_but _ _ _).below (Nat.le_trans h.below.size hb.size) (fun k hk => by omega))) (setRow_but _ _ _))
  rw [← h5]
  exact results_cell_tmp Tryd.results29 _ _ W.heap.size 48 (nv .u8 p) (0, 0) (.array 64 5) h4 (isBlk_setRow hblk _) (by kernel_rfl) rfl (info_pg _ hp)

set_option maxHeartbeats 2000000 in
theorem rread_off (h : IsRd w base rb fb cap av wv d) (i : Int) (ho : d.off = true) : Calls Tryd.prog 29 #[.pointer (some ⟨rb, 0, none⟩), .int .i64 i] w fun e w' => e = .returned (.tuple #[pgV zeroPg, .int .i64 10]) ∧ Below w.heap.size w w' := by
  go_enter Tryd.func29, Tryd.ntmps29
  go_upto_region 1 with fail
  change Code.wp _ _ _ _ (w.alloc (.cells (nv .u8 zeroPg) 48))
  have hw := newPg w
  generalize w.alloc (.cells (nv .u8 zeroPg) 48) = w1 at hw ⊢
  have c4 := (h.below hw.below).c4
  rw [ho] at c4
  have HW := Lib.hid hw
  clear h hw ho
  go_wp2_with (refine wpList_store_row (by rfl) 48 (.tmp 4) (.tmp 11) (by rfl) w.heap.size (nv .u8 zeroPg) (by rfl) (by rfl) 48 (nv .u8 zeroPg) (by exact HW.out.blk) (info_pg _ zeroPg_length) (by rfl) (nv_one _ _) ?_)
  (try simp only [Exit.inBlock, Exit.then])
  exact rread_ret HW.out (Below.refl _ _) zeroPg_length rfl rfl rfl fun h1 _ => ⟨rfl, h1⟩
set_option maxHeartbeats 2000000 in
theorem rread_bad (h : IsRd w base rb fb cap av wv d) (i : Int) (ho : d.off = false) (hb : d.bad i = true) : Calls Tryd.prog 29 #[.pointer (some ⟨rb, 0, none⟩), .int .i64 i] w fun e w' => e = .returned (.tuple #[pgV zeroPg, .int .i64 1]) ∧ Below w.heap.size w w' := by
  go_enter Tryd.func29, Tryd.ntmps29
  go_upto_region 1 with fail
  change Code.wp _ _ _ _ (w.alloc (.cells (nv .u8 zeroPg) 48))
  have hw := newPg w
  generalize w.alloc (.cells (nv .u8 zeroPg) 48) = w1 at hw ⊢
  have c4 := (h.below hw.below).c4
  rw [ho] at c4
  have hno := ref_no (h.below hw.below) i
  rw [hb] at hno
  have HW := Lib.hid hw
  clear h hw ho hb
  go_wp2_with (first
    | (go_at_call 36; (with_reducible refine hno.mono ?_); rintro e w' ⟨rfl, rfl⟩)
    | (refine wpList_store_row (by rfl) 48 (.tmp 4) (.tmp 15) (by rfl) w.heap.size (nv .u8 zeroPg) (by rfl) (by rfl) 48 (nv .u8 zeroPg) (by exact HW.out.blk) (info_pg _ zeroPg_length) (by rfl) (nv_one _ _) ?_))
  (try simp only [Exit.inBlock, Exit.then])
  exact rread_ret HW.out (Below.refl _ _) zeroPg_length rfl rfl rfl fun h1 _ => ⟨rfl, h1⟩
set_option maxHeartbeats 4000000 in
theorem rread_ok (h : IsRd w base rb fb cap av wv d) (i : Nat) (ho : d.off = false) (hi : i < d.firm.length) (hl : d.pend.length ≤ 1000000) : Calls Tryd.prog 29 #[.pointer (some ⟨rb, 0, none⟩), .int .i64 (i : Int)] w fun e w' => e = .returned (.tuple #[pgV (d.cur.getD i zeroPg), .int .i64 0]) ∧ Below w.heap.size w w' := by
  have hb : d.bad (i : Int) = false := by simp only [DK.bad, Bool.or_eq_false_iff, decide_eq_false_iff_not]; omega
  have HP := Lib.hid (And.intro h.pend hi)
  generalize hcur : d.cur.getD i zeroPg = P
  have HCUR := Lib.hid hcur
  clear hcur
  go_enter Tryd.func29, Tryd.ntmps29
  go_upto_region 1 with fail
  change Code.wp _ _ _ _ (w.alloc (.cells (nv .u8 zeroPg) 48))
  have hw := newPg w
  generalize w.alloc (.cells (nv .u8 zeroPg) 48) = w1 at hw ⊢
  have h1 := h.below hw.below
  have c0 := h1.c0
  have c1 := h1.c1
  have c2 := h1.c2
  have c4 := h1.c4
  rw [ho] at c4
  have hno := ref_no h1 (i : Int)
  rw [hb] at hno
  have HW := Lib.hid (And.intro hw h1)
  obtain ⟨aa, ac, rfl⟩ := h1.at_.slice
  obtain ⟨wa, wc, rfl⟩ := h1.what.slice
  clear h hw h1 ho hb hi
  go_wp2_with (first
    | (go_at_call 36; (with_reducible refine hno.mono ?_); rintro e w' ⟨rfl, hw'⟩; obtain rfl := hw'.symm))
  go_loopw [6] (fun v wr => ∃ k : Nat, k ≤ d.pend.length ∧ v = .int .i64 ((k : Int) - 1) ∧ wr = w1 ∧ Hid (∀ (j : Nat) y, k ≤ j → d.pend[j]? = some y → y.1 ≠ i)) (fun v _ => (intOf v + 1).toNat)
  case atStart => exact ⟨d.pend.length, by omega, by go_num, rfl, fun j y hj hy => by have := (List.getElem?_eq_some_iff.1 hy).1; omega⟩
  case round =>
    obtain ⟨k, hk, rfl, rfl, HN⟩ := hrel
    rcases k with _ | k
    · have hPc : P = d.firm.getD i zeroPg := HCUR.out.symm.trans (applyP_none (fun x hx => by
        obtain ⟨j, hj, rfl⟩ := List.mem_iff_getElem.1 hx
        exact HN.out j _ (Nat.zero_le _) (List.getElem?_eq_getElem hj)))
      have hi := HP.out.2
      have hx : d.firm[i]? = some (d.firm.getD i zeroPg) := by simp [List.getD, List.getElem?_eq_getElem hi]
      rw [← hPc] at hx
      clear hPc
      have hxl : P.length = 64 := by
        have := HW.out.2.firm.1 P (List.mem_of_getElem? hx)
        rwa [pgF_length] at this
      obtain ⟨g, cc, e, hrg, _⟩ := HW.out.2.firm.range (by decide) hx
      injection e with e1 _ e3
      injection e1 with e1
      injection e1 with e1
      subst e1 e3
      have hcc1 : d.firm.length ≤ cap := by
        obtain ⟨g', cap', cur', e, _, _, h5, _⟩ := HW.out.2.firm.block (by intro e; rw [e] at hi; simp at hi)
        injection e with _ _ e
        subst e
        exact h5
      have HX := Lib.hid (And.intro hxl hrg)
      have hii : (i : Int) < (d.firm.length : Int) := by omega
      clear hx hxl hrg hi
      go_wp2_with (first
        | (refine wpList_load_mid (by rfl) 48 (.tmp 47) (by rfl) fb (i * 64) (by rfl) (bv P) _ HX.out.2 Tryd.underlying48 rfl (by rw [bv_length, HX.out.1]; kernel_rfl) ?_)
        | (refine wpList_store_row (by rfl) 48 (.tmp 4) (.tmp 48) (by rfl) w.heap.size (nv .u8 P) (by rfl) (by rfl) 48 (nv .u8 zeroPg) (by exact HW.out.1.blk) (info_pg _ HX.out.1) (by rw [nv_size, nv_size, HX.out.1]; rfl) (nv_one _ _) ?_))
      (try simp only [Exit.inBlock, Exit.then])
      exact rread_ret HW.out.1 (Below.refl _ _) HX.out.1 rfl rfl rfl fun h1 _ => ⟨rfl, h1⟩
    · have hkl : k < d.pend.length := by omega
      have hx : d.pend[k]? = some d.pend[k] := List.getElem?_eq_getElem hkl
      generalize d.pend[k] = x at hx
      obtain ⟨g, cc, e, hrg, _⟩ := HW.out.2.at_.range (by decide) hx
      injection e with e1 _ e3
      subst e1 e3
      have hca : d.pend.length ≤ ac := by
        obtain ⟨g', cap', cur', e, _, _, h5, _⟩ := HW.out.2.at_.block (by intro e; rw [e] at hkl; simp at hkl)
        injection e with _ _ e
        subst e
        exact h5
      have ca := hrg 0 _ rfl
      rw [Nat.mul_one, Nat.add_zero] at ca
      clear hrg
      have e1 : ((k + 1 : Nat) : Int) - 1 = (k : Int) := by omega
      rw [e1]
      have hk0 : (0 : Int) ≤ (k : Int) := by omega
      have hkI : (k : Int) < (d.pend.length : Int) := by omega
      by_cases hxi : x.1 = i
      · have hPc : P = x.2 := HCUR.out.symm.trans (applyP_at HP.out.1 hx hxi (fun j y hj hy => HN.out j y hj hy))
        subst hPc
        obtain ⟨g2, cc2, e, hrg, _⟩ := HW.out.2.what.range (by decide) hx
        injection e with e2 _ e3
        subst e2 e3
        have hcw : d.pend.length ≤ wc := by
          obtain ⟨g', cap', cur', e, _, _, h5, _⟩ := HW.out.2.what.block (by intro e; rw [e] at hkl; simp at hkl)
          injection e with _ _ e
          subst e
          exact h5
        have hxl : x.2.length = 64 := by
          have := HW.out.2.what.1 x (List.mem_of_getElem? hx)
          unfold whF at this
          rwa [bv_length] at this
        have HX := Lib.hid (And.intro hxl hrg)
        rw [hxi] at ca
        clear hx hxl hrg hxi e1
        go_wp2_with (first
          | (refine wpList_load_mid (by rfl) 48 (.tmp 40) (by rfl) g2 (k * 64) (by rfl) (bv x.2) _ HX.out.2 Tryd.underlying48 rfl (by rw [bv_length, HX.out.1]; kernel_rfl) ?_)
          | (refine wpList_store_row (by rfl) 48 (.tmp 4) (.tmp 41) (by rfl) w.heap.size (nv .u8 x.2) (by rfl) (by rfl) 48 (nv .u8 zeroPg) (by exact HW.out.1.blk) (info_pg _ HX.out.1) (by rw [nv_size, nv_size, HX.out.1]; rfl) (nv_one _ _) ?_))
        (try simp only [Exit.inBlock, Exit.then])
        exact rread_ret HW.out.1 (Below.refl _ _) HX.out.1 rfl rfl rfl fun h1 _ => ⟨rfl, h1⟩
      · have hne : ((x.1 : Int) == (i : Int)) = false := by simp; omega
        have HX := Lib.hid (And.intro hx hxi)
        clear hx hxi e1
        go_wp2
        go_round
        case rel => exact ⟨k, by omega, by go_num, trivial, fun j y hj hy => by
          by_cases e : j = k
          · subst e
            have := HX.out.1.symm.trans hy
            rw [← Option.some.inj this]
            exact HX.out.2
          · exact HN.out j y (by omega) hy⟩
        case measure => simp [intOf] <;> omega
/-- Read, whatever is asked for. -/
theorem ref_read (h : IsRd w base rb fb cap av wv d) (i : Int) (hl : d.pend.length ≤ 1000000) : Calls Tryd.prog 29 #[.pointer (some ⟨rb, 0, none⟩), .int .i64 i] w fun e w' => e = .returned (.tuple #[pgV (d.read i), .int .i64 ((d.readE i : Nat) : Int)]) ∧ Below w.heap.size w w' := by
  cases ho : d.off with
  | true =>
    have e1 : d.readE i = 10 := by simp [DK.readE, ho]
    have e2 : d.read i = zeroPg := by simp [DK.read, e1]
    rw [e1, e2]
    exact rread_off h i ho
  | false =>
    cases hb : d.bad i with
    | true =>
      have e1 : d.readE i = 1 := by simp [DK.readE, ho, hb]
      have e2 : d.read i = zeroPg := by simp [DK.read, e1]
      rw [e1, e2]
      exact rread_bad h i ho hb
    | false =>
      have e1 : d.readE i = 0 := by simp [DK.readE, ho, hb]
      have e2 : d.read i = d.cur.getD i.toNat zeroPg := by simp [DK.read, e1]
      rw [e1, e2]
      simp only [DK.bad, Bool.or_eq_false_iff, decide_eq_false_iff_not] at hb
      obtain ⟨k, rfl⟩ : ∃ k : Nat, i = (k : Int) := ⟨i.toNat, by omega⟩
      rw [Int.toNat_natCast]
      exact rread_ok h k ho (by omega) hl
end
end Go.Proofs.YtkabkehfckbhcaaDoor

namespace Go.Proofs.YtkabkehfckbhcaaDoor
set_option linter.unusedVariables false
set_option linter.unusedSimpArgs false
open Go.RowKit

/-- The document's disk whose two lists are not (yet) one. -/
structure IsRdG (w : World) (base rb fb cap : Nat) (av wv : Value) (d : DK) (la lw : List (Nat × List Nat)) : Prop where
  blk : IsBlk w rb #[.slice (some ⟨fb, 0, none⟩) d.firm.length cap, av, wv, .int .i64 d.fuel, .bool d.off] 90
  firm : RowF w base 48 64 pgF (.slice (some ⟨fb, 0, none⟩) d.firm.length cap) d.firm
  at_ : RowF w base 3 1 atF av la
  what : RowF w base 48 64 whF wv lw
  apart : wv.ownBlock ≠ some fb
theorem IsRd.gen {w : World} {base rb fb cap : Nat} {av wv : Value} {d : DK} (h : IsRd w base rb fb cap av wv d) : IsRdG w base rb fb cap av wv d d.pend d.pend := ⟨h.blk, h.firm, h.at_, h.what, h.apart⟩
def rdS (rb : Nat) (av wv : Value) (k : Nat) : Prop := k = rb ∨ av.ownBlock = some k ∨ wv.ownBlock = some k
section
variable {w w' w3 w4 : World} {base rb fb cap : Nat} {av wv : Value} {d : DK} {la lw : List (Nat × List Nat)}
theorem IsRdG.below (h : IsRdG w base rb fb cap av wv d la lw) (hb : Below w.heap.size w w') : IsRdG w' base rb fb cap av wv d la lw :=
  ⟨h.blk.below hb h.blk.lt, h.firm.below hb, h.at_.below hb, h.what.below hb, h.apart⟩
theorem IsRdG.fb_ne (h : IsRdG w base rb fb cap av wv d la lw) : fb ≠ rb := fun e => h.firm.no_blk h.blk (by decide) (by rw [e]; rfl)
theorem IsRdG.putAt (h : IsRdG w base rb fb cap av wv d la lw) {v1 : Value} {x : Nat × List Nat} (hb : Below w.heap.size w w3)
    (q1 : w4.ownsRow base 3 1 v1 (la.length + 1) (la.flatMap atF ++ atF x)) (q2 : w3.grownBy w4 av.ownBlock) (q3 : v1.ownBlock = av.ownBlock ∨ v1.ownBlock = some w3.heap.size) :
    IsRdG (w4.setCell ⟨rb, 1, none⟩ v1) base rb fb cap v1 wv d (la ++ [x]) lw ∧ But (fun k => k = rb ∨ av.ownBlock = some k) w (w4.setCell ⟨rb, 1, none⟩ v1) := by
  have h3 := h.below hb
  have hb34 : But (fun k => av.ownBlock = some k) w3 w4 := (But.refl _ _).grown q2 (fun k hk => hk)
  have hss : But (fun k => k = rb) w4 (w4.setCell ⟨rb, 1, none⟩ v1) := (But.refl (fun k => k = rb) w4).setCell (p := ⟨rb, 1, none⟩) rfl _
  have n1 : av.ownBlock ≠ some rb := h3.at_.no_blk h3.blk (by decide)
  have hr : RowF w4 base 3 1 atF v1 (la ++ [x]) := by
    refine ⟨fun y _ => rfl, ?_⟩
    rw [List.length_append, List.flatMap_append]
    simpa using q1
  have hv1 : v1.ownBlock ≠ some rb := hr.no_blk (hb34.blk h3.blk n1) (by decide)
  refine ⟨⟨?_, ?_, ?_, ?_, h.apart⟩, ((But.of_below hb (Nat.le_refl _)).trans (hb34.mono (fun k hk => .inr hk))).trans (hss.mono (fun k hk => .inl hk))⟩
  · exact (hb34.blk h3.blk n1).set 1 v1
  · exact (h3.firm.but hb34 (fun k hk e => h3.at_.ne_row h3.firm (by decide) e hk)).but hss (fun k hk e => h3.fb_ne (by simp [Value.ownBlock] at hk; omega))
  · exact hr.but hss (fun k hk e => hv1 (e ▸ hk))
  · exact (h3.what.but hb34 (fun k hk e => h3.at_.ne_row h3.what (by decide) e hk)).but hss (fun k hk e => h3.what.no_blk h3.blk (by decide) (e ▸ hk))
theorem IsRdG.putWhat (h : IsRdG w base rb fb cap av wv d la lw) {v1 : Value} {x : Nat × List Nat} (hx : x.2.length = 64) (hb : Below w.heap.size w w3)
    (q1 : w4.ownsRow base 48 64 v1 (lw.length + 1) (lw.flatMap whF ++ whF x)) (q2 : w3.grownBy w4 wv.ownBlock) (q3 : v1.ownBlock = wv.ownBlock ∨ v1.ownBlock = some w3.heap.size) :
    IsRdG (w4.setCell ⟨rb, 2, none⟩ v1) base rb fb cap av v1 d la (lw ++ [x]) ∧ But (fun k => k = rb ∨ wv.ownBlock = some k) w (w4.setCell ⟨rb, 2, none⟩ v1) := by
  have h3 := h.below hb
  have hb34 : But (fun k => wv.ownBlock = some k) w3 w4 := (But.refl _ _).grown q2 (fun k hk => hk)
  have hss : But (fun k => k = rb) w4 (w4.setCell ⟨rb, 2, none⟩ v1) := (But.refl (fun k => k = rb) w4).setCell (p := ⟨rb, 2, none⟩) rfl _
  have n1 : wv.ownBlock ≠ some rb := h3.what.no_blk h3.blk (by decide)
  have hr : RowF w4 base 48 64 whF v1 (lw ++ [x]) := by
    refine ⟨fun y hy => ?_, ?_⟩
    · rcases List.mem_append.1 hy with hy | hy
      · exact h.what.1 y hy
      · simp at hy; subst hy; unfold whF; rw [bv_length, hx]
    · rw [List.length_append, List.flatMap_append]
      simpa using q1
  have hv1 : v1.ownBlock ≠ some rb := hr.no_blk (hb34.blk h3.blk n1) (by decide)
  have hva : ∀ k, v1.ownBlock = some k → fb ≠ k := fun k hk e => by
    subst e
    rcases q3 with q | q
    · rw [q] at hk; exact h.apart hk
    · rw [q] at hk
      obtain e := Option.some.inj hk
      have := h3.firm.lt fb rfl
      omega
  refine ⟨⟨?_, ?_, ?_, ?_, fun e => hva _ e rfl⟩, ((But.of_below hb (Nat.le_refl _)).trans (hb34.mono (fun k hk => .inr hk))).trans (hss.mono (fun k hk => .inl hk))⟩
  · exact (hb34.blk h3.blk n1).set 2 v1
  · exact (h3.firm.but hb34 (fun k hk e => by simp [Value.ownBlock] at hk; subst hk; exact h.apart e)).but hss (fun k hk e => h3.fb_ne (by simp [Value.ownBlock] at hk; omega))
  · exact (h3.at_.but hb34 (fun k hk e => h3.at_.ne_row h3.what (by decide) hk e)).but hss (fun k hk e => h3.at_.no_blk h3.blk (by decide) (e ▸ hk))
  · exact hr.but hss (fun k hk e => hv1 (e ▸ hk))
theorem int_typ : ∃ it z, Tryd.prog.info? 3 = some it ∧ it.zero = some z ∧ it.size = 1 ∧ it.bytes = 8 ∧ z.cells.size = 1 := by
  have hA : (Tryd.prog.info? 3).bind (fun it => it.zero.map fun z => (it.size, it.bytes, z.cells.size)) = some (1, 8, 1) := by kernel_rfl
  obtain ⟨it, h1, hA⟩ := Option.bind_eq_some_iff.1 hA
  obtain ⟨z, h2, h5⟩ := Option.map_eq_some_iff.1 hA
  exact ⟨it, z, h1, h2, congrArg Prod.fst h5, congrArg (fun x => x.2.1) h5, congrArg (fun x => x.2.2) h5⟩
theorem int_src (w : World) (k : Nat) : Src (w.alloc (.cells #[.int .i64 (k : Int)] 3)) 1 (some ⟨w.heap.size, 0, none⟩) 1 [.int .i64 (k : Int)] := by
  refine ⟨rfl, (fun h => by cases h), ?_⟩
  rintro ad ⟨rfl⟩ j u hu
  rw [Addr.add_mid, Nat.zero_add]
  exact (IsBlk.new w #[.int .i64 (k : Int)] 3).cell j (by rw [← hu]; simp)
theorem run_pg_slice (w : World) (p : List Nat) (hp : p.length = 64) : (Instr.buildSlice 41 1 #[(0, pgV p)]).run Tryd.prog w = .ok (.slice (some ⟨w.heap.size, 0, none⟩) 1 1) (w.alloc (.cells (nv .u8 p) 48)) := by
  obtain ⟨it, z, h1, h2, h3, h4, h5⟩ := pg_typ
  have hz : z.cells.size = 64 := by rw [h5]; rfl
  have hn : (nv .u8 p).size = 64 := by rw [nv_size]; exact hp
  refine run_buildSlice w _ 48 1 _ _ it z Tryd.underlying41 h1 h2 (by rw [h3]; omega) (by rw [h3]; omega) ?_
  have hsz : ((Array.range (1 * it.size)).map (fun x => z.cells[x % z.cells.size]!)).size = (nv .u8 p).size := by rw [Array.size_map, Array.size_range, h3, hn]
  exact fill_one _ _ _ (by rw [hn, h3]) hsz
theorem pg_src (w : World) (p : List Nat) (hp : p.length = 64) : Src (w.alloc (.cells (nv .u8 p) 48)) 64 (some ⟨w.heap.size, 0, none⟩) 1 (bv p) := by
  refine ⟨by rw [bv_length, hp], (fun h => by cases h), ?_⟩
  rintro ad ⟨rfl⟩ j u hu
  rw [Addr.add_mid, Nat.zero_add]
  refine (IsBlk.new w (nv .u8 p) 48).cell j ?_
  show (bv p).toArray[j]? = some u
  rw [List.getElem?_toArray]
  exact hu

set_option maxRecDepth 100000 in
set_option maxHeartbeats 4000000 in
theorem rwrite_no (h : IsRd w base rb fb cap av wv d) (i : Int) (p : List Nat) (hm : d.may = false) (hb : d.off = false → d.bad i = false) : Calls Tryd.prog 16 #[.pointer (some ⟨rb, 0, none⟩), .int .i64 i, pgV p] w fun e w' => e = .returned (.int .i64 10) ∧ IsRd w' base rb fb cap av wv d.step ∧ But (rdS rb av wv) w w' := by
  go_enter Tryd.func16, Tryd.ntmps16
  unfold pgV
  go_upto_region 1 with fail
  change Code.wp _ _ _ _ (w.alloc (.cells (nv .u8 p) 48))
  have hw : NewPg w (w.alloc (.cells (nv .u8 p) 48)) p := ⟨IsBlk.new _ _ _, (Below.refl _ _).alloc (Nat.le_refl _) _, by simp⟩
  generalize w.alloc (.cells (nv .u8 p) 48) = w1 at hw ⊢
  have h1 := h.below hw.below
  have c4 := h1.c4
  have hno := ref_no h1 i
  have hst := ref_step h1
  rw [hm] at hst
  have HW := Lib.hid (And.intro hw h1)
  clear hw
  cases ho : d.off with
  | true =>
    rw [ho] at c4
    have HS : Hid (d.step = d) := Lib.hid (by simp [DK.step, ho])
    clear ho hb hno hst h1 h
    go_wp2
    go_ret
    exact ⟨rfl, by rw [HS.out]; exact HW.out.2, But.of_below HW.out.1.below (Nat.le_refl _)⟩
  | false =>
    rw [ho] at c4
    rw [hb ho] at hno
    clear ho hb h1 h
    go_wp2_with (first
      | (go_at_call 36; (with_reducible refine hno.mono ?_); rintro e w' ⟨rfl, hw'⟩; obtain rfl := hw'.symm)
      | (go_at_call 37; (with_reducible refine hst.mono ?_); rintro e w2 ⟨rfl, h2, hb2⟩; have H2 := Lib.hid (And.intro h2 hb2); clear h2 hb2))
    go_ret
    exact ⟨rfl, H2.out.1, (But.of_below HW.out.1.below (Nat.le_refl _)).trans (H2.out.2.mono (fun k hk => .inl hk))⟩
set_option maxRecDepth 100000 in
set_option maxHeartbeats 4000000 in
theorem rwrite_bad (h : IsRd w base rb fb cap av wv d) (i : Int) (p : List Nat) (ho : d.off = false) (hb : d.bad i = true) : Calls Tryd.prog 16 #[.pointer (some ⟨rb, 0, none⟩), .int .i64 i, pgV p] w fun e w' => e = .returned (.int .i64 1) ∧ IsRd w' base rb fb cap av wv d ∧ But (rdS rb av wv) w w' := by
  go_enter Tryd.func16, Tryd.ntmps16
  unfold pgV
  go_upto_region 1 with fail
  change Code.wp _ _ _ _ (w.alloc (.cells (nv .u8 p) 48))
  have hw : NewPg w (w.alloc (.cells (nv .u8 p) 48)) p := ⟨IsBlk.new _ _ _, (Below.refl _ _).alloc (Nat.le_refl _) _, by simp⟩
  generalize w.alloc (.cells (nv .u8 p) 48) = w1 at hw ⊢
  have h1 := h.below hw.below
  have c4 := h1.c4
  have hno := ref_no h1 i
  rw [hb] at hno
  rw [ho] at c4
  have HW := Lib.hid (And.intro hw h1)
  clear hw h1 h ho hb
  go_wp2_with (go_at_call 36; (with_reducible refine hno.mono ?_); rintro e w' ⟨rfl, hw'⟩; obtain rfl := hw'.symm)
  go_ret
  exact ⟨rfl, HW.out.2, But.of_below HW.out.1.below (Nat.le_refl _)⟩

set_option maxRecDepth 100000 in
set_option maxHeartbeats 4000000 in
theorem rwrite_ok (h : IsRd w base rb fb cap av wv d) (i : Nat) (p : List Nat) (hp : p.length = 64) (ho : d.off = false) (hi : i < d.firm.length) (hm : d.may = true) (hl : d.pend.length < 1000000) (hbase : base ≤ w.heap.size) : Calls Tryd.prog 16 #[.pointer (some ⟨rb, 0, none⟩), .int .i64 (i : Int), pgV p] w fun e w' => e = .returned (.int .i64 0) ∧ ∃ av' wv', IsRd w' base rb fb cap av' wv' (d.step.put i p) ∧ But (rdS rb av wv) w w' ∧ (∀ k, av'.ownBlock = some k ∨ wv'.ownBlock = some k → av.ownBlock = some k ∨ wv.ownBlock = some k ∨ w.heap.size ≤ k) := by
  have hb : d.bad (i : Int) = false := by simp only [DK.bad, Bool.or_eq_false_iff, decide_eq_false_iff_not]; omega
  go_enter Tryd.func16, Tryd.ntmps16
  unfold pgV
  go_upto_region 1 with fail
  change Code.wp _ _ _ _ (w.alloc (.cells (nv .u8 p) 48))
  have hw : NewPg w (w.alloc (.cells (nv .u8 p) 48)) p := ⟨IsBlk.new _ _ _, (Below.refl _ _).alloc (Nat.le_refl _) _, by simp⟩
  generalize w.alloc (.cells (nv .u8 p) 48) = w1 at hw ⊢
  have h1 := h.below hw.below
  have c4 := h1.c4
  have hno := ref_no h1 (i : Int)
  have hst := ref_step h1
  rw [hm] at hst
  rw [hb] at hno
  rw [ho] at c4
  have HW := Lib.hid (And.intro hw h)
  have HH := Lib.hid (And.intro hp (And.intro hi (And.intro hl hbase)))
  clear hw h1 h ho hb hm hp hi hl hbase
  go_upto_region 7 with (first
    | (go_at_call 36; (with_reducible refine hno.mono ?_); rintro e w' ⟨rfl, hw'⟩; obtain rfl := hw'.symm)
    | (go_at_call 37; (with_reducible refine hst.mono ?_); rintro e w2 ⟨rfl, h2, hb2⟩; have H2 := Lib.hid (And.intro h2 hb2); clear h2 hb2))
  clear hno hst c4
  obtain ⟨hsf1, hsf2⟩ := step_firm d
  have hg := H2.out.1.gen
  rw [hsf2] at hg
  obtain ⟨aa, ac, rfl⟩ := hg.at_.slice
  obtain ⟨wa, wc, rfl⟩ := hg.what.slice
  have HSF := Lib.hid (And.intro hsf1 hsf2)
  clear hsf1 hsf2
  have c1 := hg.blk.cell 1 rfl
  have hwx : IsBlk w2 w.heap.size (nv .u8 p) 48 := H2.out.2.blk HW.out.1.blk (fun e => by have := HW.out.2.blk.lt; omega)
  have hbs : base ≤ w2.heap.size := Nat.le_trans HH.out.2.2.2 (Nat.le_trans HW.out.1.below.size H2.out.2.size)
  have HG := Lib.hid (And.intro hg (And.intro hwx hbs))
  clear hg hwx hbs
  obtain ⟨it, z, hi1, hi2, hi3, hi4, hi5⟩ := int_typ
  have hb3 : Below w2.heap.size w2 (w2.alloc (.cells #[.int .i64 (i : Int)] 3)) := (Below.refl _ _).alloc (Nat.le_refl _) _
  have hown := (HG.out.1.below hb3).at_.2
  have z1 := (HG.out.1.below hb3).blk.fz 1
  have c1' := (HG.out.1.below hb3).blk.cell 1 rfl
  have hm1 : d.pend.length + 1 ≤ maxLen := by have := HH.out.2.2.1; unfold maxLen; omega
  have hm2 : (d.pend.length + 1) * 8 ≤ 140737488355328 := by have := HH.out.2.2.1; omega
  have hm3 : base ≤ (w2.alloc (.cells #[.int .i64 (i : Int)] 3)).heap.size := Nat.le_trans HG.out.2.2 hb3.size
  have HA := Lib.hid (And.intro hi1 (And.intro hi2 (And.intro hi3 (And.intro hi4 (And.intro hi5 (And.intro hown (And.intro hm1 (And.intro hm2 hm3))))))))
  have HB3 := Lib.hid (And.intro hb3 (And.intro z1 c1'))
  clear hi1 hi2 hi3 hi4 hi5 hown hm1 hm2 hm3 hb3 z1 c1'
  go_upto_region 8 with (refine wpList_append_src (w2.alloc (.cells #[.int .i64 (i : Int)] 3)) (by rfl) (.tmp 23) (.tmp 25) 88 (by rfl) base 3 it z 1 8 Tryd.underlying88 HA.out.1 HA.out.2.1 HA.out.2.2.1 HA.out.2.2.2.1 HA.out.2.2.2.2.1 (by decide) (.slice aa d.pend.length ac) d.pend.length _ (by rfl) HA.out.2.2.2.2.2.1 (some ⟨w2.heap.size, 0, none⟩) 1 1 [.int .i64 (i : Int)] (by rfl) (int_src w2 i) (by intro e; cases e) (fun u hu => by obtain rfl := List.mem_singleton.1 hu; rfl) HA.out.2.2.2.2.2.2.1 HA.out.2.2.2.2.2.2.2.1 HA.out.2.2.2.2.2.2.2.2 fun v1 w4 q1 q2 q3 => ?_
                         obtain ⟨g1, k1, rfl⟩ := own_some q1
                         have hp4 := HG.out.1.putAt (x := (i, p)) HB3.out.1 q1 q2 q3
                         have hne := (HG.out.1.below HB3.out.1).at_.no_blk (HG.out.1.below HB3.out.1).blk (by decide)
                         have c14 := (World.cell?_of_block (a := ⟨rb, 1, none⟩) (q2.block rb (cell_lt HB3.out.2.2) (fun e => hne e.symm))).trans HB3.out.2.2
                         have z14 := (World.frozen?_of_block (a := ⟨rb, 1, none⟩) (q2.block rb (cell_lt HB3.out.2.2) (fun e => hne e.symm))).trans HB3.out.2.1
                         have H4 := Lib.hid (And.intro hp4 (q3.imp id (fun e => (⟨_, e, HB3.out.1.size⟩ : ∃ k, (Value.slice (some ⟨g1, 0, none⟩) (d.pend.length + 1) k1).ownBlock = some k ∧ w2.heap.size ≤ k))))
                         clear q1 q2 q3 hp4 hne)
  generalize w4.setCell ⟨rb, 1, none⟩ (.slice (some ⟨g1, 0, none⟩) (d.pend.length + 1) k1) = w5 at H4 ⊢
  clear c14 z14 c1
  have hx5 : IsBlk w5 w.heap.size (nv .u8 p) 48 := by
    refine H4.out.1.2.blk HG.out.2.1 (fun e => ?_)
    rcases e with e | e
    · have := HW.out.2.blk.lt; omega
    · exact HG.out.1.at_.no_blk HG.out.2.1 (by decide) e
  have c2 := H4.out.1.1.blk.cell 2 rfl
  have hb6 : Below w5.heap.size w5 (w5.drew.alloc (.cells (nv .u8 p) 48)) := ((Below.refl _ _).drew).alloc (Nat.le_refl _) _
  have hsrc := pg_src w5.drew p HH.out.1
  have hrun := run_pg_slice w5.drew p HH.out.1
  have h6 := H4.out.1.1.below hb6
  have hx6 : IsBlk (w5.drew.alloc (.cells (nv .u8 p) 48)) w.heap.size (nv .u8 p) 48 := hx5.below hb6 hx5.lt
  have hm1 : d.pend.length + 1 ≤ maxLen := by have := HH.out.2.2.1; unfold maxLen; omega
  have hm2 : (d.pend.length + 1) * 64 ≤ 140737488355328 := by have := HH.out.2.2.1; omega
  have hm3 : base ≤ (w5.drew.alloc (.cells (nv .u8 p) 48)).heap.size := Nat.le_trans HG.out.2.2 (Nat.le_trans H4.out.1.2.size hb6.size)
  refine wp_region_till 8 (S := fun w' => w'.cell? ⟨rb, 2, none⟩ = some (.slice wa d.pend.length wc) ∧ IsBlk w' w.heap.size (nv .u8 p) 48) (by kernel_rfl) ⟨c2, hx5⟩ (fun hHeld => ?_)
  generalize w5.drew.alloc (.cells (nv .u8 p) 48) = w6 at hb6 hsrc hrun h6 hx6 hm3
  have H6 := Lib.hid (And.intro hb6 (And.intro hsrc (And.intro hrun (And.intro h6 (And.intro hx6 (And.intro hm1 (And.intro hm2 hm3)))))))
  clear hb6 hsrc hrun h6 hx6 hm1 hm2 hm3 c2
  have hlen : (bv p).length = 64 := by rw [bv_length, HH.out.1]
  refine wpTill_take (i := 0) (v := ?_) rfl (by kernel_rfl) (by kernel_rfl) (by kernel_rfl) (by kernel_rfl) (fun _ _ _ h => h) (Or.inl ⟨by rfl, ?_⟩) (by with_reducible assumption) ?_
  rotate_left
  · intro w hSw; (try dsimp only at hSw); (try go_split_ands); go_simp; (try with_reducible rfl)
  (try simp only [Act.put, List.getElem_toArray, List.getElem_cons_succ, List.getElem_cons_zero, List.setIfInBounds_toArray, List.set_cons_zero, List.set_cons_succ])
  refine wpTill_take (i := 1) (v := ?_) rfl (by kernel_rfl) (by kernel_rfl) (by kernel_rfl) (by kernel_rfl) (fun _ _ _ h => h) (Or.inl ⟨by rfl, ?_⟩) (by with_reducible assumption) ?_
  rotate_left
  · intro w hSw; (try dsimp only at hSw); (try go_split_ands); go_simp; (try with_reducible rfl)
  (try simp only [Act.put, List.getElem_toArray, List.getElem_cons_succ, List.getElem_cons_zero, List.setIfInBounds_toArray, List.set_cons_zero, List.set_cons_succ])
  refine wpTill_take (i := 2) (v := ?_) rfl (by kernel_rfl) (by kernel_rfl) (by kernel_rfl) (by kernel_rfl) (fun _ _ _ h => h) (Or.inl ⟨by rfl, ?_⟩) (by with_reducible assumption) ?_
  rotate_left
  · intro w hSw; (try dsimp only at hSw); (try go_split_ands); go_simp; (try with_reducible rfl)
  (try simp only [Act.put, List.getElem_toArray, List.getElem_cons_succ, List.getElem_cons_zero, List.setIfInBounds_toArray, List.set_cons_zero, List.set_cons_succ])
  refine wpTill_take (i := 3) (v := ?_) rfl (by kernel_rfl) (by kernel_rfl) (by kernel_rfl) (by kernel_rfl) (fun _ _ _ h => h) (Or.inl ⟨by rfl, ?_⟩) (by with_reducible assumption) ?_
  rotate_left
  · intro w hSw; (try dsimp only at hSw); (try go_split_ands); go_simp; (try with_reducible rfl)
  (try simp only [Act.put, List.getElem_toArray, List.getElem_cons_succ, List.getElem_cons_zero, List.setIfInBounds_toArray, List.set_cons_zero, List.set_cons_succ])
  refine wpTill_take (i := 4) (v := ?_) rfl (by kernel_rfl) (by kernel_rfl) (by kernel_rfl) (by kernel_rfl) (fun _ _ _ h => h) (Or.inl ⟨by rfl, ?_⟩) (by with_reducible assumption) ?_
  rotate_left
  · intro w hSw; (try dsimp only at hSw); (try go_split_ands); go_simp; (try with_reducible rfl)
  (try simp only [Act.put, List.getElem_toArray, List.getElem_cons_succ, List.getElem_cons_zero, List.setIfInBounds_toArray, List.set_cons_zero, List.set_cons_succ])
  refine wpTill_take (i := 5) (v := .agg (bv p).toArray) rfl (by kernel_rfl) (by kernel_rfl) (by kernel_rfl) (by kernel_rfl) (fun _ _ _ h => h) (yieldsIf_load_mid (by rfl) 48 (.tmp 5) (by rfl) w.heap.size 0 (by rfl) (bv p) _ (fun w hS => range_blk hS.2) Tryd.underlying48 rfl (by rw [hlen]; kernel_rfl)) (by with_reducible assumption) ?_
  (try simp only [Act.put, List.getElem_toArray, List.getElem_cons_succ, List.getElem_cons_zero, List.setIfInBounds_toArray, List.set_cons_zero, List.set_cons_succ])
  refine wpTill_ready (rs := [6]) (by kernel_rfl) (by simp) ?_
  refine TillAll.cons rfl (fun K9 hK9 => ?_) TillAll.nil
  rw [if_pos (by rfl)]
  simp only [List.getElem_toArray, List.getElem_cons_succ, List.getElem_cons_zero]
  refine wp_slice_one 41 (.tmp 34) (by rfl) _ _ (by rfl) H6.out.2.2.1 ?_
  refine hK9.out _ _ ⟨H6.out.2.2.2.1.blk.cell 2 rfl, H6.out.2.2.2.2.1⟩ (fun hHeld => ?_)
  clear hK9 K9
  (try simp only [Act.put, List.getElem_toArray, List.getElem_cons_succ, List.getElem_cons_zero, List.setIfInBounds_toArray, List.set_cons_zero, List.set_cons_succ])
  refine wpTill_ready (rs := [7]) (by kernel_rfl) (by simp) ?_
  refine TillAll.cons rfl (fun K9 hK9 => ?_) TillAll.nil
  obtain ⟨it, z, hi1, hi2, hi3, hi4, hi5⟩ := pg_typ
  refine step_append_src w6 (by rfl) (.tmp 33) (.tmp 35) 41 (by rfl) base 48 it z 64 64 Tryd.underlying41 hi1 hi2 hi3 hi4 (by rw [hi5]; rfl) (by decide) _ _ _ (by rfl) H6.out.2.2.2.1.what.2 _ 1 1 (bv p) (by rfl) H6.out.2.1 (by intro e; cases e) (bv_one _) H6.out.2.2.2.2.2.1 H6.out.2.2.2.2.2.2.1 H6.out.2.2.2.2.2.2.2 fun v' w7 q1 q2 q3 => ?_
  obtain ⟨g2, k2, rfl⟩ := own_some q1
  have hfin := H4.out.1.1.putWhat (x := (i, p)) HH.out.1 H6.out.1 q1 q2 q3
  have hne := H6.out.2.2.2.1.what.no_blk H6.out.2.2.2.1.blk (by decide)
  have c20 := H6.out.2.2.2.1.blk.cell 2 rfl
  have c27 := (World.cell?_of_block (a := ⟨rb, 2, none⟩) (q2.block rb (cell_lt c20) (fun e => hne e.symm))).trans c20
  have z27 := (World.frozen?_of_block (a := ⟨rb, 2, none⟩) (q2.block rb (cell_lt c20) (fun e => hne e.symm))).trans (H6.out.2.2.2.1.blk.fz 2)
  have hown7 : (∀ k, (Value.slice (some ⟨g2, 0, none⟩) (d.pend.length + 1) k2).ownBlock = some k → (Value.slice wa d.pend.length wc).ownBlock = some k ∨ w.heap.size ≤ k) := fun k hk => by
    rcases q3 with e | e
    · rw [e] at hk; exact .inl hk
    · rw [e] at hk
      obtain rfl := Option.some.inj hk
      right
      exact Nat.le_trans HW.out.1.below.size (Nat.le_trans H2.out.2.size (Nat.le_trans H4.out.1.2.size H6.out.1.size))
  have hx7 : IsBlk w7 w.heap.size (nv .u8 p) 48 ∨ True := .inr trivial
  have HF := Lib.hid (And.intro hfin hown7)
  refine hK9.out _ _ ⟨c27, ?_⟩ (fun hHeld => ?_)
  · refine H6.out.2.2.2.2.1.of_block (q2.block _ H6.out.2.2.2.2.1.lt (fun e => ?_))
    have h1 := H4.out.1.1.what.lt _ e.symm
    have h2 := (HW.out.2.what.lt)
    have h3 : (Value.slice wa d.pend.length wc).ownBlock = some w.heap.size := e.symm
    have := h2 _ h3
    omega
  clear hK9 K9 q1 q2 q3 hfin hown7 hx7 hi1 hi2 hi3 hi4 hi5 hne c20
  (try simp only [Act.put, List.getElem_toArray, List.getElem_cons_succ, List.getElem_cons_zero, List.setIfInBounds_toArray, List.set_cons_zero, List.set_cons_succ])
  refine wpTill_last (by kernel_rfl) ?_
  refine wpAny_take (i := 8) (v := ?_) rfl (by kernel_rfl) (by kernel_rfl) (by kernel_rfl) (fun _ _ _ h => h) (Or.inl ⟨by rfl, ?_⟩) ?_
  rotate_left
  · intro w; go_simp; (try with_reducible rfl)
  (try simp only [Act.put, List.getElem_toArray, List.getElem_cons_succ, List.getElem_cons_zero, List.setIfInBounds_toArray, List.set_cons_zero, List.set_cons_succ])
  refine wpAny_take (i := 9) (v := ?_) rfl (by kernel_rfl) (by kernel_rfl) (by kernel_rfl) (fun _ _ _ h => h) (Or.inl ⟨by rfl, ?_⟩) ?_
  rotate_left
  · intro w; go_simp; (try with_reducible rfl)
  (try simp only [Act.put, List.getElem_toArray, List.getElem_cons_succ, List.getElem_cons_zero, List.setIfInBounds_toArray, List.set_cons_zero, List.set_cons_succ])
  refine wpAny_ready (rs := [10]) (by kernel_rfl) (by simp) ?_
  refine AllReady.cons rfl (fun K9 hK9 => ?_) AllReady.nil
  go_simp
  refine hK9 _ _ ?_
  clear hK9 K9
  refine wpAny_done (by kernel_rfl) ?_ _
  go_wp2
  go_ret
  have hpe : (d.step.put i p).pend = d.pend ++ [(i, p)] := by show d.step.pend ++ _ = _; rw [HSF.out.2]
  refine ⟨rfl, _, _, ⟨HF.out.1.1.blk, HF.out.1.1.firm, by rw [hpe]; exact HF.out.1.1.at_, by rw [hpe]; exact HF.out.1.1.what, HF.out.1.1.apart, ?_, ?_, ?_, ?_, ?_, H2.out.1.brb⟩, ?_, ?_⟩
  · intro x hx
    show x.1 < d.step.firm.length
    have hx' : x ∈ d.pend ++ [(i, p)] := by
      have : x ∈ d.step.pend ++ [(i, p)] := hx
      rwa [HSF.out.2] at this
    rw [HSF.out.1]
    rcases List.mem_append.1 hx' with h0 | h0
    · exact HW.out.2.pend x h0
    · simp at h0; subst h0; exact HH.out.2.1
  · exact H2.out.1.n1
  · exact H2.out.1.n2
  · exact H2.out.1.f1
  · exact H2.out.1.f2
  · exact (((But.of_below HW.out.1.below (Nat.le_refl _)).trans (H2.out.2.mono (fun k hk => .inl hk))).trans (H4.out.1.2.mono (fun k hk => hk.imp id .inl))).trans (HF.out.1.2.mono (fun k hk => hk.imp id .inr))
  · rintro k (hk | hk)
    · rcases H4.out.2 with e | ⟨j, e, hj⟩
      · rw [e] at hk; exact .inl hk
      · rw [e] at hk
        obtain rfl := Option.some.inj hk
        exact .inr (.inr (Nat.le_trans HW.out.1.below.size (Nat.le_trans H2.out.2.size hj)))
    · exact .inr (HF.out.2 k hk)

/-- Write, whatever comes. -/
theorem ref_write (h : IsRd w base rb fb cap av wv d) (i : Int) (p : List Nat) (hp : p.length = 64) (hl : d.pend.length < 1000000) (hbase : base ≤ w.heap.size) : Calls Tryd.prog 16 #[.pointer (some ⟨rb, 0, none⟩), .int .i64 i, pgV p] w fun e w' => e = .returned (.int .i64 ((d.writeE i : Nat) : Int)) ∧ ∃ av' wv', IsRd w' base rb fb cap av' wv' (d.write i p) ∧ But (rdS rb av wv) w w' ∧ (∀ k, av'.ownBlock = some k ∨ wv'.ownBlock = some k → av.ownBlock = some k ∨ wv.ownBlock = some k ∨ w.heap.size ≤ k) := by
  have hid : ∀ k, av.ownBlock = some k ∨ wv.ownBlock = some k → av.ownBlock = some k ∨ wv.ownBlock = some k ∨ w.heap.size ≤ k := fun k hk => hk.imp id .inl
  cases ho : d.off with
  | true =>
    have hm : d.may = false := by simp [DK.may, ho]
    have e1 : d.writeE i = 10 := by simp [DK.writeE, ho]
    have e2 : d.write i p = d := by simp [DK.write, ho]
    have e3 : d.step = d := by simp [DK.step, ho]
    rw [e1, e2]
    refine (rwrite_no h i p hm (fun h => by rw [ho] at h; cases h)).mono ?_
    rintro e w' ⟨rfl, h2, h3⟩
    rw [e3] at h2
    exact ⟨rfl, av, wv, h2, h3, hid⟩
  | false =>
    cases hb : d.bad i with
    | true =>
      have e1 : d.writeE i = 1 := by simp [DK.writeE, ho, hb]
      have e2 : d.write i p = d := by simp [DK.write, ho, hb]
      rw [e1, e2]
      exact (rwrite_bad h i p ho hb).mono fun e w' ⟨h0, h2, h3⟩ => ⟨h0, av, wv, h2, h3, hid⟩
    | false =>
      cases hm : d.may with
      | false =>
        have e1 : d.writeE i = 10 := by simp [DK.writeE, ho, hb, hm]
        have e2 : d.write i p = d.step := by simp [DK.write, ho, hb, hm]
        rw [e1, e2]
        exact (rwrite_no h i p hm (fun _ => hb)).mono fun e w' ⟨h0, h2, h3⟩ => ⟨h0, av, wv, h2, h3, hid⟩
      | true =>
        have e1 : d.writeE i = 0 := by simp [DK.writeE, ho, hb, hm]
        simp only [DK.bad, Bool.or_eq_false_iff, decide_eq_false_iff_not] at hb
        obtain ⟨k, rfl⟩ : ∃ k : Nat, i = (k : Int) := ⟨i.toNat, by omega⟩
        have hbad : d.bad (k : Int) = false := by simp only [DK.bad, Bool.or_eq_false_iff, decide_eq_false_iff_not]; omega
        have e2 : d.write (k : Int) p = d.step.put k p := by
          simp only [DK.write, ho, hbad, hm, if_true, DK.put, Int.toNat_natCast, (step_firm d).2]
          rfl
        rw [e1, e2]
        exact rwrite_ok h k p hp ho (by omega) hm hl hbase
end
end Go.Proofs.YtkabkehfckbhcaaDoor

namespace Go.Proofs.YtkabkehfckbhcaaDoor
set_option linter.unusedVariables false
set_option linter.unusedSimpArgs false
open Go.RowKit

section
variable {w : World} {base rb fb cap : Nat} {av wv : Value} {d : DK}
/-- One more write made firm. -/
theorem IsRd.firm1 {w3 : World} {d1 d2 : DK} (h : IsRd w3 base rb fb cap av wv d1) {j : Nat} {p : List Nat} (hj : j < d1.firm.length) (hp : p.length = 64) (h2 : d2 = { d1 with firm := d1.firm.set j p }) :
    IsRd (w3.setCells fb (j * 64) (bv p)) base rb fb cap av wv d2 := by
  subst h2
  have hb : But (fun k => k = fb) w3 (w3.setCells fb (j * 64) (bv p)) := (But.refl (fun k => k = fb) w3).setCells (g := fb) rfl _ _
  refine ⟨?_, ?_, h.at_.but hb (fun k hk e => (h.av_ne hk).2.1 e), h.what.but hb (fun k hk e => (h.wv_ne hk).2.1 e), h.apart, ?_, ?_, ?_, h.f1, h.f2, h.brb⟩
  · have := hb.blk h.blk (fun e => h.fb_ne e.symm)
    simpa only [List.length_set] using this
  · have := h.firm.set (by decide) hj p (by rw [pgF_length, hp]) (g := fb) rfl
    rw [List.length_set]
    exact this
  · intro x hx; rw [List.length_set]; exact h.pend x hx
  · rw [List.length_set]; exact h.n1
  · rw [List.length_set]; exact h.n2
theorem IsRd.wlen (h : IsRd w base rb fb cap av wv d) {x : Nat × List Nat} (hx : x ∈ d.pend) : x.2.length = 64 := by
  have := h.what.1 x hx
  unfold whF at this
  rwa [bv_length] at this
/-- What a row of the k-th pending write holds. -/
theorem IsRd.atk (h : IsRd w base rb fb cap av wv d) {k : Nat} {x : Nat × List Nat} (hk : d.pend[k]? = some x) : ∃ ga ac, av = .slice (some ⟨ga, 0, none⟩) d.pend.length ac ∧ d.pend.length ≤ ac ∧ w.cell? ⟨ga, k, none⟩ = some (.int .i64 ((x.1 : Nat) : Int)) := by
  obtain ⟨g, cc, e, hrg, _⟩ := h.at_.range (by decide) hk
  obtain ⟨g', cap', cur', e', _, _, h5, _⟩ := h.at_.block (by intro e; rw [e] at hk; simp at hk)
  have hc : cap' = cc := by
    rw [e] at e'
    injection e' with _ _ e'
    exact e'.symm
  refine ⟨g, cc, e, by rw [← hc]; exact h5, ?_⟩
  have := hrg 0 _ rfl
  rwa [Nat.mul_one, Nat.add_zero] at this
theorem IsRd.whk (h : IsRd w base rb fb cap av wv d) {k : Nat} {x : Nat × List Nat} (hk : d.pend[k]? = some x) : ∃ gw wc, wv = .slice (some ⟨gw, 0, none⟩) d.pend.length wc ∧ d.pend.length ≤ wc ∧ w.rangeAt gw (k * 64) (bv x.2) := by
  obtain ⟨g, cc, e, hrg, _⟩ := h.what.range (by decide) hk
  obtain ⟨g', cap', cur', e', _, _, h5, _⟩ := h.what.block (by intro e; rw [e] at hk; simp at hk)
  have hc : cap' = cc := by
    rw [e] at e'
    injection e' with _ _ e'
    exact e'.symm
  exact ⟨g, cc, e, by rw [← hc]; exact h5, hrg⟩
theorem IsRd.fth (h : IsRd w base rb fb cap av wv d) {j : Nat} (hj : j < d.firm.length) : w.there fb (j * 64) 64 ∧ d.firm.length ≤ cap := by
  have hx0 : d.firm[j]? = some (d.firm.getD j zeroPg) := by simp [List.getD, List.getElem?_eq_getElem hj]
  obtain ⟨g5, c5, e5, _, hth⟩ := h.firm.range (k := j) (by decide) hx0
  injection e5 with e5 _ _
  injection e5 with e5
  injection e5 with e5
  subst e5
  obtain ⟨g', cap', cur', e, _, _, h5, _⟩ := h.firm.block (by intro e; rw [e] at hj; simp at hj)
  injection e with _ _ e
  subst e
  exact ⟨hth, h5⟩

end
end Go.Proofs.YtkabkehfckbhcaaDoor

namespace Go.Proofs.YtkabkehfckbhcaaDoor
set_option linter.unusedVariables false
set_option linter.unusedSimpArgs false
open Go.RowKit

/-- In the midst of a crash: of the k-th write j picks were looked at. -/
def DK.half2 (d : DK) (pick : List Int) (k j : Nat) (x : Nat × List Nat) : DK := if (pick.take j).contains (k : Int) = true then { d.half pick k with firm := (d.half pick k).firm.set x.1 x.2 } else d.half pick k
theorem half2_zero (d : DK) (pick : List Int) (k : Nat) (x : Nat × List Nat) : d.half2 pick k 0 x = d.half pick k := by simp [DK.half2]
theorem half2_end (d : DK) (pick : List Int) {k : Nat} {x : Nat × List Nat} (h : d.pend[k]? = some x) : d.half2 pick k pick.length x = d.half pick (k + 1) := by
  unfold DK.half2
  rw [List.take_length]
  cases hc : pick.contains (k : Int) with
  | true => rw [if_pos rfl, half_in d pick h hc]
  | false => rw [if_neg (by decide), half_out d pick h hc]
theorem half2_length (d : DK) (pick : List Int) (k j : Nat) (x : Nat × List Nat) : (d.half2 pick k j x).firm.length = d.firm.length := by
  unfold DK.half2
  split
  · show ((d.half pick k).firm.set x.1 x.2).length = _
    rw [List.length_set, half_length]
  · exact half_length _ _ _
theorem take_snoc' {l : List Int} {j : Nat} {z : Int} (h : l[j]? = some z) : l.take (j + 1) = l.take j ++ [z] := by rw [List.take_add_one, h]; rfl
theorem half2_hit (d : DK) (pick : List Int) {k j : Nat} {x : Nat × List Nat} (h : pick[j]? = some (k : Int)) : d.half2 pick k (j + 1) x = { d.half2 pick k j x with firm := (d.half2 pick k j x).firm.set x.1 x.2 } := by
  unfold DK.half2
  rw [take_snoc' h]
  have e : (pick.take j ++ [(k : Int)]).contains (k : Int) = true := by simp
  rw [if_pos e]
  split
  · simp [List.set_set]
  · rfl
theorem half2_miss (d : DK) (pick : List Int) {k j : Nat} {x : Nat × List Nat} {z : Int} (h : pick[j]? = some z) (hz : z ≠ (k : Int)) : d.half2 pick k (j + 1) x = d.half2 pick k j x := by
  unfold DK.half2
  rw [take_snoc' h]
  have e : (pick.take j ++ [z]).contains (k : Int) = (pick.take j).contains (k : Int) := by
    rw [Bool.eq_iff_iff]
    simp only [List.contains_iff_mem, List.mem_append, List.mem_singleton]
    constructor
    · rintro (h | h)
      · exact h
      · exact absurd h.symm hz
    · exact .inl
  rw [e]
section
variable {w : World} {base rb fb cap : Nat} {av wv : Value} {d : DK}
theorem made_rd {w2 : World} {B g2 k2 : Nat} {firm : List (List Nat)} (h : RowF w2 B 48 64 pgF (.slice (some ⟨g2, 0, none⟩) firm.length k2) firm) (hB : B ≤ w2.heap.size) (h1 : 1 ≤ firm.length) (h2 : firm.length ≤ 4096) :
    IsRd (w2.alloc (.cells #[.slice (some ⟨g2, 0, none⟩) firm.length k2, .slice none 0 0, .slice none 0 0, .int .i64 (-1), .bool false] 90)) B w2.heap.size g2 k2 (.slice none 0 0) (.slice none 0 0) { firm := firm } :=
  ⟨IsBlk.new w2 _ _, h.below ((Below.refl _ _).alloc (Nat.le_refl _) _), RowF.nil _ _ _ _ _, RowF.nil _ _ _ _ _, (by intro e; cases e), (fun x hx => by cases hx), h1, h2, (by show (-1 : Int) ≤ -1; omega), (by show (-1 : Int) ≤ 9223372036854775807; omega), hB⟩

end
end Go.Proofs.YtkabkehfckbhcaaDoor

namespace Go.Proofs.YtkabkehfckbhcaaDoor
set_option linter.unusedVariables false
set_option linter.unusedSimpArgs false
open Go.RowKit

/-- A call of a disk, read. -/
structure CallK where
  kd : Int
  i : Int
  c : Nat
  a : Option Addr
  pick : List Int
  pc : Nat
def CallK.cells (k : CallK) : List Value := [.int .i64 k.kd, .int .i64 k.i, .int .u8 (k.c : Int), .slice k.a k.pick.length k.pc]
structure CallK.ok (w : World) (k : CallK) : Prop where
  ints : IsInts .i64 w k.a k.pick
  len : k.pick.length ≤ 35184372088832
  byte : k.c < 256
  iw : (Lit.int .i64 k.i).wf = true
theorem get4 {α : Type} {l : List α} {x0 x1 x2 x3 : α} (hl : l.length = 4) (h0 : l[0]? = some x0) (h1 : l[1]? = some x1) (h2 : l[2]? = some x2) (h3 : l[3]? = some x3) : l = [x0, x1, x2, x3] := by
  match l, hl with
  | [a, b, c, d], _ => simp_all
/-- The calls that came in. -/
structure IsCalls (w : World) (a : Option Addr) (l : List CallK) : Prop where
  ok : ∀ K ∈ l, K.ok w
  at_ : l = [] ∨ ∃ b off, a = some ⟨b, off, none⟩ ∧ b < w.heap.size ∧ ∀ i K, l[i]? = some K → w.rangeAt b (off + i * 4) K.cells
theorem CallK.ok.below {w w' : World} {K : CallK} (h : K.ok w) (hb : Below w.heap.size w w') : K.ok w' := by
  refine ⟨⟨h.ints.1, ?_⟩, h.len, h.byte, h.iw⟩
  rcases h.ints.2 with h0 | ⟨b, off, h1, h2, h3⟩
  · exact .inl h0
  · exact .inr ⟨b, off, h1, Nat.lt_of_lt_of_le h2 hb.size, fun i hi => by rw [hb.cell (by exact h2)]; exact h3 i hi⟩
theorem IsCalls.below {w w' : World} {a : Option Addr} {l : List CallK} (h : IsCalls w a l) (hb : Below w.heap.size w w') : IsCalls w' a l := by
  refine ⟨fun K hK => (h.ok K hK).below hb, ?_⟩
  rcases h.at_ with h0 | ⟨b, off, h1, h2, h3⟩
  · exact .inl h0
  · exact .inr ⟨b, off, h1, Nat.lt_of_lt_of_le h2 hb.size, fun i K hK j v hv => by rw [hb.cell (by exact h2)]; exact h3 i K hK j v hv⟩
theorem IsInts.below_ {w w' : World} {k : IntKind} {a : Option Addr} {l : List Int} (h : IsInts k w a l) (hb : Below w.heap.size w w') : IsInts k w' a l := by
  refine ⟨h.1, ?_⟩
  rcases h.2 with h0 | ⟨b, off, h1, h2, h3⟩
  · exact .inl h0
  · exact .inr ⟨b, off, h1, Nat.lt_of_lt_of_le h2 hb.size, fun i hi => by rw [hb.cell (by exact h2)]; exact h3 i hi⟩
end Go.Proofs.YtkabkehfckbhcaaDoor

namespace Go.Proofs.YtkabkehfckbhcaaDoor
set_option linter.unusedVariables false
set_option linter.unusedSimpArgs false
open Go.RowKit

/-- The document's disk, all whose blocks are N's. -/
def RdN (N : Nat → Prop) (B : Nat) (w : World) (rb : Nat) (d : DK) : Prop := ∃ fb cap av wv, IsRd w B rb fb cap av wv d ∧ N rb ∧ N fb ∧ (∀ k, av.ownBlock = some k → N k) ∧ (∀ k, wv.ownBlock = some k → N k)
section
variable {N N' T : Nat → Prop} {B : Nat} {w w' : World} {db rb : Nat} {d : DK}
theorem DkN.but' (h : DkN N B w db d) (hb : But T w w') (hs : ∀ k, T k → N k) : DkN N B w' db d := by
  obtain ⟨fb, mb, cap, cv, h, n1, n2, n3, n4⟩ := h
  exact ⟨fb, mb, cap, cv, h.same hb (fun x => n1 (hs _ x)) (fun x => n2 (hs _ x)) (fun x => n3 (hs _ x)) (fun k hk x => n4 k hk (hs _ x)), n1, n2, n3, n4⟩
theorem DkN.widen' (h : DkN N B w db d) (hs : ∀ k, N' k → N k ∨ w.heap.size ≤ k) : DkN N' B w db d := by
  obtain ⟨fb, mb, cap, cv, h, n1, n2, n3, n4⟩ := h
  refine ⟨fb, mb, cap, cv, h, fun x => ?_, fun x => ?_, fun x => ?_, fun k hk x => ?_⟩
  · have := h.blk.lt; rcases hs _ x with y | y; exact n1 y; omega
  · have := h.fb_lt; rcases hs _ x with y | y; exact n2 y; omega
  · have := h.map.lt; rcases hs _ x with y | y; exact n3 y; omega
  · have := h.cache.lt k hk; rcases hs _ x with y | y; exact n4 k hk y; omega
theorem RdN.below (h : RdN N B w rb d) (hb : Below w.heap.size w w') : RdN N B w' rb d := by
  obtain ⟨fb, cap, av, wv, h, n⟩ := h
  exact ⟨fb, cap, av, wv, h.below hb, n⟩
theorem RdN.but (h : RdN N B w rb d) (hb : But T w w') (hs : ∀ k, N k → ¬ T k) : RdN N B w' rb d := by
  obtain ⟨fb, cap, av, wv, h, n1, n2, n3, n4⟩ := h
  exact ⟨fb, cap, av, wv, h.same hb (hs _ n1) (hs _ n2) (fun k hk => hs k (n3 k hk)) (fun k hk => hs k (n4 k hk)), n1, n2, n3, n4⟩
/-- More blocks, of those that stand. -/
theorem RdN.more (h : RdN N B w rb d) (hs : ∀ k, k < w.heap.size → N k → N' k) : RdN N' B w rb d := by
  obtain ⟨fb, cap, av, wv, h, n1, n2, n3, n4⟩ := h
  exact ⟨fb, cap, av, wv, h, hs _ h.blk.lt n1, hs _ h.fb_lt n2, fun k hk => hs k (h.at_.lt k hk) (n3 k hk), fun k hk => hs k (h.what.lt k hk) (n4 k hk)⟩
theorem DkN.base (h : DkN N B w db d) {B' : Nat} (hb : B' ≤ B) : DkN N B' w db d := by
  obtain ⟨fb, mb, cap, cv, h, n⟩ := h
  exact ⟨fb, mb, cap, cv, h.base_mono hb, n⟩
end

/-- Both, side by side; X's blocks are neither's. -/
def RI (X : Nat → Prop) (B : Nat) (w : World) (db rb : Nat) (d m : DK) : Prop := ∃ N : Nat → Prop, DkN N B w db d ∧ RdN (fun k => N k ∧ ¬ X k) B w rb m ∧ (∀ k, N k → k < w.heap.size) ∧ (∀ k, X k → N k)
def NoX (_ : Nat) : Prop := False
section
variable {X : Nat → Prop} {B : Nat} {w w' : World} {db rb : Nat} {d m : DK}
theorem RI.below (h : RI X B w db rb d m) (hb : Below w.heap.size w w') : RI X B w' db rb d m := by
  obtain ⟨N, h1, h2, h3, h4⟩ := h
  exact ⟨N, h1.below hb, h2.below hb, fun k hk => Nat.lt_of_lt_of_le (h3 k hk) hb.size, h4⟩
theorem RI.dk (h : RI X B w db rb d m) : Dk B w db d := by obtain ⟨N, h1, _⟩ := h; exact h1.dk
theorem RI.rd (h : RI X B w db rb d m) : ∃ fb cap av wv, IsRd w B rb fb cap av wv m := by obtain ⟨N, _, ⟨fb, cap, av, wv, h, _⟩, _⟩ := h; exact ⟨fb, cap, av, wv, h⟩
theorem RI.noX (h : RI X B w db rb d m) : RI NoX B w db rb d m := by
  obtain ⟨N, h1, h2, h3, h4⟩ := h
  exact ⟨N, h1, h2.more (fun k _ hk => ⟨hk.1, id⟩), h3, fun k hk => hk.elim⟩
/-- A block that was made behind both. -/
theorem RI.addX (h : RI NoX B w db rb d m) (hb : Below w.heap.size w w') {cb : Nat} (h1 : w.heap.size ≤ cb) (h2 : cb < w'.heap.size) : RI (fun k => k = cb) B w' db rb d m := by
  obtain ⟨N, q1, q2, q3, _⟩ := h
  refine ⟨fun k => N k ∨ k = cb, (q1.widen' (fun k hk => hk.imp id (fun e => by omega))).below hb, (q2.more (fun k hk hN => ⟨.inl hN.1, by omega⟩)).below hb, ?_, fun k hk => .inr hk⟩
  rintro k (hk | rfl)
  · exact Nat.lt_of_lt_of_le (q3 k hk) hb.size
  · exact h2
theorem RI.writeD (h : RI X B w db rb d m) (i : Int) (p : List Nat) (hp : p.length = 64) (hl : d.pend.length < 1000000) (hB : B ≤ w.heap.size) : Calls Tryd.prog 15 #[.pointer (some ⟨db, 0, none⟩), .int .i64 i, pgV p] w fun e w' => ∃ v, e = .returned v ∧ IsRes w' v (d.writeE i) ∧ RI X B w' db rb (d.write i p) m ∧ Below B w w' ∧ But (fun k => ¬ X k) w w' := by
  obtain ⟨N, q1, q2, q3, q4⟩ := h
  refine (q1.write q3 i p hp hl hB).mono ?_
  rintro e w' ⟨v, rfl, h1, h2, h3, h4⟩
  exact ⟨v, rfl, h1, ⟨N, h2, q2.but h4 (fun k hk hn => hn hk.1), fun k hk => Nat.lt_of_lt_of_le (q3 k hk) h4.size, q4⟩, h3, h4.mono (fun k hk hx => hk (q4 k hx))⟩
theorem RI.flushD (h : RI X B w db rb d m) (hl : d.pend.length < 1000001) (hB : B ≤ w.heap.size) : Calls Tryd.prog 30 #[.pointer (some ⟨db, 0, none⟩)] w fun e w' => ∃ v, e = .returned v ∧ IsRes w' v d.flushE ∧ RI X B w' db rb d.flush m ∧ Below B w w' ∧ But (fun k => ¬ X k) w w' := by
  obtain ⟨N, q1, q2, q3, q4⟩ := h
  refine (q1.flush hl hB).mono ?_
  rintro e w' ⟨v, rfl, h1, h2, h3, h4⟩
  exact ⟨v, rfl, h1, ⟨N, h2, q2.but h4 (fun k hk hn => hn hk.1), fun k hk => Nat.lt_of_lt_of_le (q3 k hk) h4.size, q4⟩, h3, h4.mono (fun k hk hx => hk (q4 k hx))⟩
/-- The document's disk has turned. -/
theorem RI.turnM {m' : DK} {fb cap : Nat} {av wv av' wv' : Value} {N T : Nat → Prop} (q1 : DkN N B w db d) (q3 : ∀ k, N k → k < w.heap.size) (q4 : ∀ k, X k → N k) (h : IsRd w B rb fb cap av wv m)
    (n1 : N rb ∧ ¬ X rb) (n2 : N fb ∧ ¬ X fb) (n3 : ∀ k, av.ownBlock = some k → N k ∧ ¬ X k) (n4 : ∀ k, wv.ownBlock = some k → N k ∧ ¬ X k) (h' : IsRd w' B rb fb cap av' wv' m') (hb : But T w w') (hT : ∀ k, T k → k = rb ∨ k = fb ∨ av.ownBlock = some k ∨ wv.ownBlock = some k)
    (ho : ∀ k, av'.ownBlock = some k ∨ wv'.ownBlock = some k → av.ownBlock = some k ∨ wv.ownBlock = some k ∨ w.heap.size ≤ k) (hB : B ≤ w.heap.size) : RI X B w' db rb d m' ∧ Below B w w' ∧ But (fun k => ¬ X k) w w' := by
  have hTN : ∀ k, T k → N k ∧ ¬ X k := fun k hk => by
    rcases hT k hk with rfl | rfl | e | e
    · exact n1
    · exact n2
    · exact n3 k e
    · exact n4 k e
  have hTB : ∀ k, T k → B ≤ k := fun k hk => by
    rcases hT k hk with rfl | rfl | e | e
    · exact h.brb
    · exact h.fb_base
    · exact h.at_.base_le k e
    · exact h.what.base_le k e
  have hX : ∀ k, w.heap.size ≤ k → ¬ X k := fun k hk hx => by have := q3 k (q4 k hx); omega
  have key : ∀ k, k < w'.heap.size → (av.ownBlock = some k ∨ wv.ownBlock = some k ∨ w.heap.size ≤ k) → (N k ∨ (w.heap.size ≤ k ∧ k < w'.heap.size)) ∧ ¬ X k := fun k hkl hk => by
    rcases hk with e | e | e
    · exact ⟨.inl (n3 k e).1, (n3 k e).2⟩
    · exact ⟨.inl (n4 k e).1, (n4 k e).2⟩
    · exact ⟨.inr ⟨e, hkl⟩, hX k e⟩
  refine ⟨⟨fun k => N k ∨ (w.heap.size ≤ k ∧ k < w'.heap.size), ?_, ⟨fb, cap, av', wv', h', ⟨.inl n1.1, n1.2⟩, ⟨.inl n2.1, n2.2⟩, fun k hk => key k (h'.at_.lt k hk) (ho k (.inl hk)), fun k hk => key k (h'.what.lt k hk) (ho k (.inr hk))⟩, ?_, fun k hk => .inl (q4 k hk)⟩, hb.below hB hTB, hb.mono (fun k hk => (hTN k hk).2)⟩
  · exact ((q1.widen' (N' := fun k => N k ∨ w.heap.size ≤ k) (fun k hk => hk)).but' hb (fun k hk => .inl (hTN k hk).1)).fewer (fun k hk => hk.imp id (fun e => e.1))
  · rintro k (hk | hk)
    · exact Nat.lt_of_lt_of_le (q3 k hk) hb.size
    · exact hk.2
theorem RI.writeM (h : RI X B w db rb d m) (i : Int) (p : List Nat) (hp : p.length = 64) (hl : m.pend.length < 1000000) (hB : B ≤ w.heap.size) : Calls Tryd.prog 16 #[.pointer (some ⟨rb, 0, none⟩), .int .i64 i, pgV p] w fun e w' => e = .returned (.int .i64 ((m.writeE i : Nat) : Int)) ∧ RI X B w' db rb d (m.write i p) ∧ Below B w w' ∧ But (fun k => ¬ X k) w w' := by
  obtain ⟨N, q1, ⟨fb, cap, av, wv, h, n1, n2, n3, n4⟩, q3, q4⟩ := h
  refine (ref_write h i p hp hl hB).mono ?_
  rintro e w' ⟨rfl, av', wv', h', hb, ho⟩
  exact ⟨rfl, RI.turnM q1 q3 q4 h n1 n2 n3 n4 h' hb (fun k hk => hk.imp id (fun e => .inr e)) ho hB⟩
theorem RI.fuelM (h : RI X B w db rb d m) (n : Int) (hn : n ≤ 9223372036854775807) (hB : B ≤ w.heap.size) : RI X B (w.setCell ⟨rb, 3, none⟩ (.int .i64 (max n (-1)))) db rb d (m.setFuel n) ∧ Below B w (w.setCell ⟨rb, 3, none⟩ (.int .i64 (max n (-1)))) := by
  obtain ⟨N, q1, ⟨fb, cap, av, wv, h, n1, n2, n3, n4⟩, q3, q4⟩ := h
  have hb : But (fun k => k = rb) w (w.setCell ⟨rb, 3, none⟩ (.int .i64 (max n (-1)))) := (But.refl (fun k => k = rb) w).setCell (p := ⟨rb, 3, none⟩) rfl _
  have h' : IsRd (w.setCell ⟨rb, 3, none⟩ (.int .i64 (max n (-1)))) B rb fb cap av wv (m.setFuel n) := h.turn rfl rfl (by show -1 ≤ max n (-1); omega) (by show max n (-1) ≤ _; omega) (h.blk.set 3 _) hb
  have := RI.turnM (X := X) q1 q3 q4 h n1 n2 n3 n4 h' hb (fun k hk => .inl hk) (fun k hk => hk.imp id .inl) hB
  exact ⟨this.1, this.2.1⟩
/-- Two disks just made, one behind the other. -/
theorem RI.begin {w1 w2 : World} {B0 fb cap : Nat} {av wv : Value} (h1 : Dk B0 w1 db d) (hB0 : B ≤ B0) (h2 : IsRd w2 w1.heap.size rb fb cap av wv m) (hb : Below w1.heap.size w1 w2) (hB : B ≤ w1.heap.size) : RI NoX B w2 db rb d m := by
  refine ⟨fun k => w1.heap.size ≤ k ∧ k < w2.heap.size, ((h1.keep.base hB0).fewer (fun k hk => hk.1)).below hb, ⟨fb, cap, av, wv, h2.base_mono hB, ?_, ?_, fun k hk => ?_, fun k hk => ?_⟩, fun k hk => hk.2, fun k hk => hk.elim⟩
  · exact ⟨⟨h2.brb, h2.blk.lt⟩, id⟩
  · exact ⟨⟨h2.fb_base, h2.fb_lt⟩, id⟩
  · exact ⟨⟨h2.at_.base_le k hk, h2.at_.lt k hk⟩, id⟩
  · exact ⟨⟨h2.what.base_le k hk, h2.what.lt k hk⟩, id⟩
end
/-- How much a disk has at most. -/
def Has (n k : Nat) (d : DK) : Prop := d.firm.length = n ∧ d.pend.length ≤ k
theorem Has.more {n k m : Nat} {d : DK} (h : Has n k d) (hk : k ≤ m) : Has n m d := ⟨h.1, Nat.le_trans h.2 hk⟩
theorem has_write {n k : Nat} {d : DK} (h : Has n k d) (i : Int) (p : List Nat) : Has n (k + 1) (d.write i p) := by
  obtain ⟨f1, f2⟩ := step_firm d
  unfold DK.write
  split
  · exact h.more (by omega)
  · split
    · exact h.more (by omega)
    · split
      · exact ⟨by show d.step.firm.length = n; rw [f1]; exact h.1, by show (d.pend ++ [_]).length ≤ _; simp; exact h.2⟩
      · exact ⟨by rw [f1]; exact h.1, by rw [f2]; have := h.2; omega⟩
theorem has_flush {n k : Nat} {d : DK} (h : Has n k d) : Has n (k + 1) d.flush := by
  obtain ⟨f1, f2⟩ := step_firm d
  unfold DK.flush
  split
  · exact ⟨by show d.cur.length = n; rw [cur_length]; exact h.1, Nat.zero_le _⟩
  · exact ⟨by rw [f1]; exact h.1, by rw [f2]; have := h.2; omega⟩
theorem has_fuel {n k : Nat} {d : DK} (h : Has n k d) (i : Int) : Has n (k + 1) (d.setFuel i) := ⟨h.1, Nat.le_succ_of_le h.2⟩
theorem has_crash {n k : Nat} {d : DK} (h : Has n k d) (p : List Int) : Has n (k + 1) (d.crash p) := ⟨by show (applyP _ _).length = n; rw [applyP_length]; exact h.1, Nat.zero_le _⟩
end Go.Proofs.YtkabkehfckbhcaaDoor
