/-
  disk: the document's disk in memory.
-/
import Derived.Test.YtjmjfgbpjecgfaaDoorDkFn6
namespace Go.Proofs.YtjmjfgbpjecgfaaDoor
set_option linter.unusedVariables false
set_option linter.unusedSimpArgs false
open Go.RowKit

def atF (x : Nat × List Nat) : List Value := [.int .i64 ((x.1 : Nat) : Int)]
def whF (x : Nat × List Nat) : List Value := bv x.2
/-- The document's disk, block by block. -/
structure IsRd (w : World) (base rb fb cap : Nat) (av wv : Value) (d : DK) : Prop where
  blk : IsBlk w rb #[.slice (some ⟨fb, 0, none⟩) d.firm.length cap, av, wv, .int .i64 d.fuel, .bool d.off] 54
  firm : RowF w base 33 64 pgF (.slice (some ⟨fb, 0, none⟩) d.firm.length cap) d.firm
  at_ : RowF w base 3 1 atF av d.pend
  what : RowF w base 33 64 whF wv d.pend
  apart : wv.ownBlock ≠ some fb
  pend : ∀ x ∈ d.pend, x.1 < d.firm.length
  n1 : 1 ≤ d.firm.length
  n2 : d.firm.length ≤ 4096
  f1 : -1 ≤ d.fuel
  f2 : d.fuel ≤ 9223372036854775807
  brb : base ≤ rb
theorem RowF.no_blk {α : Type} {f : α → List Value} {c : Nat} {w : World} {base : Nat} {t t' : TypeId} {v : Value} {l : List α} (h : RowF w base t c f v l) {b : Nat} {cs : Array Value} (hb : IsBlk w b cs t') (ht : t ≠ t') : v.ownBlock ≠ some b := by
  intro e
  obtain ⟨cur, hc⟩ := h.tag b e
  unfold IsBlk at hb
  rw [hc] at hb
  injection hb with hb
  injection hb with _ h2
  exact ht h2
theorem RowF.ne_row {α β : Type} {f : α → List Value} {g : β → List Value} {c c' : Nat} {w : World} {base base' : Nat} {t t' : TypeId} {v v' : Value} {l : List α} {m : List β} (h : RowF w base t c f v l) (h' : RowF w base' t' c' g v' m) (ht : t ≠ t') {k : Nat} (hk : v.ownBlock = some k) : v'.ownBlock ≠ some k := by
  intro e
  obtain ⟨cur, hc⟩ := h.tag k hk
  obtain ⟨cur2, hc2⟩ := h'.tag k e
  rw [hc] at hc2
  injection hc2 with hc2
  injection hc2 with _ h2
  exact ht h2
section
variable {w w' : World} {base rb fb cap : Nat} {av wv : Value} {d : DK}
theorem IsRd.fb_ne (h : IsRd w base rb fb cap av wv d) : fb ≠ rb := fun e => h.firm.no_blk h.blk (by decide) (by rw [e]; rfl)
theorem IsRd.av_ne (h : IsRd w base rb fb cap av wv d) {k : Nat} (hk : av.ownBlock = some k) : k ≠ rb ∧ k ≠ fb ∧ wv.ownBlock ≠ some k :=
  ⟨fun e => h.at_.no_blk h.blk (by decide) (e ▸ hk), fun e => h.at_.ne_row h.firm (by decide) hk (by rw [e]; rfl), h.at_.ne_row h.what (by decide) hk⟩
theorem IsRd.wv_ne (h : IsRd w base rb fb cap av wv d) {k : Nat} (hk : wv.ownBlock = some k) : k ≠ rb ∧ k ≠ fb ∧ av.ownBlock ≠ some k :=
  ⟨fun e => h.what.no_blk h.blk (by decide) (e ▸ hk), fun e => h.apart (e ▸ hk), h.what.ne_row h.at_ (by decide) hk⟩
theorem IsRd.fb_lt (h : IsRd w base rb fb cap av wv d) : fb < w.heap.size := h.firm.lt fb rfl
theorem IsRd.fb_base (h : IsRd w base rb fb cap av wv d) : base ≤ fb := h.firm.base_le fb rfl
theorem IsRd.base_mono {base' : Nat} (h : IsRd w base rb fb cap av wv d) (hb : base' ≤ base) : IsRd w base' rb fb cap av wv d :=
  ⟨h.blk, h.firm.mono hb, h.at_.mono hb, h.what.mono hb, h.apart, h.pend, h.n1, h.n2, h.f1, h.f2, Nat.le_trans hb h.brb⟩
/-- Nothing of it has turned. -/
theorem IsRd.same (h : IsRd w base rb fb cap av wv d) {S : Nat → Prop} (hw : But S w w') (h1 : ¬ S rb) (h2 : ¬ S fb) (h3 : ∀ k, av.ownBlock = some k → ¬ S k) (h4 : ∀ k, wv.ownBlock = some k → ¬ S k) : IsRd w' base rb fb cap av wv d :=
  ⟨hw.blk h.blk h1, h.firm.but hw (fun k hk => by simp [Value.ownBlock] at hk; subst hk; exact h2), h.at_.but hw h3, h.what.but hw h4, h.apart, h.pend, h.n1, h.n2, h.f1, h.f2, h.brb⟩
theorem IsRd.below (h : IsRd w base rb fb cap av wv d) (hw : Below w.heap.size w w') : IsRd w' base rb fb cap av wv d :=
  h.same (S := fun _ => False) (But.of_below hw (Nat.le_refl _)) id id (fun _ _ => id) (fun _ _ => id)
/-- The struct alone has turned. -/
theorem IsRd.turn (h : IsRd w base rb fb cap av wv d) {d' : DK} (hf : d'.firm = d.firm) (hp : d'.pend = d.pend) (h1 : -1 ≤ d'.fuel) (h2 : d'.fuel ≤ 9223372036854775807)
    (hb : IsBlk w' rb #[.slice (some ⟨fb, 0, none⟩) d.firm.length cap, av, wv, .int .i64 d'.fuel, .bool d'.off] 54) (hw : But (fun k => k = rb) w w') : IsRd w' base rb fb cap av wv d' :=
  ⟨by rw [hf]; exact hb, by rw [hf]; exact h.firm.but hw (fun k hk e => h.fb_ne (by simp [Value.ownBlock] at hk; omega)), by rw [hp]; exact h.at_.but hw (fun k hk e => (h.av_ne hk).1 e), by rw [hp]; exact h.what.but hw (fun k hk e => (h.wv_ne hk).1 e), h.apart, by rw [hf, hp]; exact h.pend, by rw [hf]; exact h.n1, by rw [hf]; exact h.n2, h1, h2, h.brb⟩
theorem IsRd.c0 (h : IsRd w base rb fb cap av wv d) : w.cell? ⟨rb, 0, none⟩ = some (.slice (some ⟨fb, 0, none⟩) d.firm.length cap) := h.blk.cell 0 rfl
theorem IsRd.c1 (h : IsRd w base rb fb cap av wv d) : w.cell? ⟨rb, 1, none⟩ = some av := h.blk.cell 1 rfl
theorem IsRd.c2 (h : IsRd w base rb fb cap av wv d) : w.cell? ⟨rb, 2, none⟩ = some wv := h.blk.cell 2 rfl
theorem IsRd.c3 (h : IsRd w base rb fb cap av wv d) : w.cell? ⟨rb, 3, none⟩ = some (.int .i64 d.fuel) := h.blk.cell 3 rfl
theorem IsRd.c4 (h : IsRd w base rb fb cap av wv d) : w.cell? ⟨rb, 4, none⟩ = some (.bool d.off) := h.blk.cell 4 rfl

theorem ref_no (h : IsRd w base rb fb cap av wv d) (i : Int) : Calls Tryd.prog 29 #[.pointer (some ⟨rb, 0, none⟩), .int .i64 i] w fun e w' => e = .returned (.bool (d.bad i)) ∧ w' = w := by
  have c0 := h.c0
  have hn2 := h.n2
  clear h
  by_cases hi : i < 0
  · have hb : d.bad i = true := by simp [DK.bad, hi]
    rw [hb]
    clear hb
    go_enter Tryd.func29, Tryd.ntmps29
    go_wp2
    go_ret
    exact ⟨rfl, rfl⟩
  · have hb : d.bad i = decide ((d.firm.length : Int) ≤ i) := by simp [DK.bad, hi]
    rw [hb]
    clear hb
    go_enter Tryd.func29, Tryd.ntmps29
    go_wp2
    go_ret
    exact ⟨by simp, rfl⟩

/-- One step. -/
theorem ref_step (h : IsRd w base rb fb cap av wv d) : Calls Tryd.prog 34 #[.pointer (some ⟨rb, 0, none⟩)] w fun e w' => e = .returned (.int .i64 (if d.may then 0 else 10)) ∧ IsRd w' base rb fb cap av wv d.step ∧ But (fun k => k = rb) w w' := by
  have c3 := h.c3
  have c4 := h.c4
  have z3 := h.blk.fz 3
  have z4 := h.blk.fz 4
  have f1 := h.f1
  have f2 := h.f2
  have HH := Lib.hid h
  clear h
  by_cases h0 : d.fuel = 0
  · have hm : d.may = false := by simp [DK.may, h0]
    rw [hm]
    rw [h0] at c3
    have HS : Hid (d.step = { d with off := true }) := Lib.hid (by
      unfold DK.step
      cases ho : d.off with
      | true => rw [if_pos rfl]; cases d; simp at ho; subst ho; rfl
      | false => rw [if_neg (by simp), if_pos h0])
    have hb : But (fun k => k = rb) w (w.setCell ⟨rb, 4, none⟩ (.bool true)) := (But.refl (fun k => k = rb) w).setCell (p := ⟨rb, 4, none⟩) rfl _
    have HB := Lib.hid hb
    have hs := HH.out.blk.set 4 (.bool true)
    have HS2 := Lib.hid hs
    have c4' := hs.cell 4 (v := .bool true) rfl
    clear hm f1 f2 h0 hb hs
    go_enter Tryd.func34, Tryd.ntmps34
    go_wp2
    go_ret
    refine ⟨rfl, ?_, HB.out⟩
    rw [HS.out]
    exact HH.out.turn rfl rfl HH.out.f1 HH.out.f2 HS2.out HB.out
  · have h0' : ¬ d.fuel = 0 := h0
    cases ho : d.off with
    | true =>
      have hm : d.may = false := by simp [DK.may, ho]
      have HS : Hid (d.step = d) := Lib.hid (by simp [DK.step, ho])
      rw [hm]
      rw [ho] at c4
      clear hm ho
      have h0b : (d.fuel == 0) = false := by simp; exact h0
      go_enter Tryd.func34, Tryd.ntmps34
      go_wp2
      go_ret
      refine ⟨rfl, ?_, But.refl _ _⟩
      rw [HS.out]
      exact HH.out
    | false =>
      have hm : d.may = true := by simp [DK.may, ho, h0]
      rw [hm]
      rw [ho] at c4
      have h0b : (d.fuel == 0) = false := by simp; exact h0
      by_cases hp : 0 < d.fuel
      · have HS : Hid (d.step = { d with fuel := d.fuel - 1 }) := Lib.hid (by
          unfold DK.step
          rw [if_neg (by simp [ho]), if_neg h0, if_pos hp])
        have hb : But (fun k => k = rb) w (w.setCell ⟨rb, 3, none⟩ (.int .i64 (d.fuel - 1))) := (But.refl (fun k => k = rb) w).setCell (p := ⟨rb, 3, none⟩) rfl _
        have HB := Lib.hid hb
        have HS2 := Lib.hid (HH.out.blk.set 3 (.int .i64 (d.fuel - 1)))
        have HF : Hid (-1 ≤ d.fuel - 1 ∧ d.fuel - 1 ≤ 9223372036854775807) := Lib.hid ⟨by omega, by omega⟩
        clear hm ho h0 hb
        go_enter Tryd.func34, Tryd.ntmps34
        go_wp2
        go_ret
        refine ⟨rfl, ?_, HB.out⟩
        rw [HS.out]
        exact HH.out.turn rfl rfl HF.out.1 HF.out.2 HS2.out HB.out
      · have HS : Hid (d.step = d) := Lib.hid (by
          unfold DK.step
          rw [if_neg (by simp [ho]), if_neg h0, if_neg hp])
        clear hm ho h0
        go_enter Tryd.func34, Tryd.ntmps34
        go_wp2
        go_ret
        refine ⟨rfl, ?_, But.refl _ _⟩
        rw [HS.out]
        exact HH.out

set_option maxRecDepth 100000 in
set_option maxHeartbeats 4000000 in
theorem ref_new (w : World) (n : Nat) (h1 : 1 ≤ n) (h2 : n ≤ 4096) : Calls Tryd.prog 19 #[.int .i64 (n : Int)] w fun e w' => ∃ rb fb cap, e = .returned (.tuple #[.pointer (some ⟨rb, 0, none⟩), .int .i64 0]) ∧ IsRd w' w.heap.size rb fb cap (.slice none 0 0) (.slice none 0 0) (DK.new n) ∧ Below w.heap.size w w' := by
  obtain ⟨it, z, hi1, hi2, hi3, hi4, hi5⟩ := pg_typ
  have HI := Lib.hid (And.intro hi1 (And.intro hi2 (And.intro hi3 (And.intro hi4 hi5))))
  have hby : it.bytes * n ≤ 281474976710656 := by rw [hi4]; omega
  have hmx : n ≤ maxLen := by unfold maxLen; omega
  have HB := Lib.hid (And.intro hby hmx)
  clear hi1 hi2 hi3 hi4 hi5 hby hmx
  have hn1 : ¬ ((n : Int) < 1) := by omega
  have hn2 : ¬ ((n : Int) > 4096) := by omega
  go_enter Tryd.func19, Tryd.ntmps19
  go_wp2_with (refine wpList_make_full w (by rfl) (.tmp 10) (.tmp 10) 43 (by rfl) w.heap.size 33 it z 64 Tryd.underlying43 HI.out.1 HI.out.2.1 HI.out.2.2.1 .i64 .i64 _ _ n (by rfl) (by rfl) rfl rfl HB.out.1 HB.out.2 (Nat.le_refl _) ?_; intro w1 q1 q2; have HQ := Lib.hid (And.intro q1 q2); clear q1 q2)
  go_ret2
  have hrow : RowF w1 w.heap.size 33 64 pgF (.slice (some ⟨w.heap.size, 0, none⟩) n n) (List.replicate n zeroPg) := RowF.made (by rfl) (by decide) HI.out.2.2.2.2 HQ.out.1
  have hb1 : Below w.heap.size w w1 := ⟨HQ.out.2.os, HQ.out.2.tape, HQ.out.2.output, HQ.out.2.size, fun k hk => HQ.out.2.block k hk (by simp)⟩
  refine ⟨_, rfl, ⟨w.heap.size, n, ⟨?_, ?_, RowF.nil _ _ _ _ _, RowF.nil _ _ _ _ _, (by intro e; cases e), (fun x hx => by cases hx), ?_, ?_, (by show (-1 : Int) ≤ -1; omega), (by show (-1 : Int) ≤ 9223372036854775807; omega), hb1.size⟩⟩, ?_⟩
  · show IsBlk _ _ #[.slice (some ⟨w.heap.size, 0, none⟩) (List.replicate n zeroPg).length n, .slice none 0 0, .slice none 0 0, .int .i64 (-1), .bool false] _
    rw [List.length_replicate]
    exact IsBlk.new w1 #[.slice (some ⟨w.heap.size, 0, none⟩) n n, .slice none 0 0, .slice none 0 0, .int .i64 (-1), .bool false] 54
  · show RowF _ _ _ _ _ (.slice (some ⟨w.heap.size, 0, none⟩) (List.replicate n zeroPg).length n) (List.replicate n zeroPg)
    rw [List.length_replicate]
    exact hrow.below ((Below.refl _ _).alloc (Nat.le_refl _) _)
  · show 1 ≤ (List.replicate n zeroPg).length
    rw [List.length_replicate]; exact h1
  · show (List.replicate n zeroPg).length ≤ 4096
    rw [List.length_replicate]; exact h2
  · exact hb1.alloc hb1.size _
theorem ref_new_bad (w : World) (n : Int) (h : n < 1 ∨ 4096 < n) : Calls Tryd.prog 19 #[.int .i64 n] w fun e w' => e = .returned (.tuple #[.pointer none, .int .i64 1]) ∧ w' = w := by
  by_cases h1 : n < 1
  · go_enter Tryd.func19, Tryd.ntmps19
    go_wp2
    go_ret2
    exact ⟨rfl, rfl⟩
  · have h2 : n > 4096 := by omega
    clear h
    go_enter Tryd.func19, Tryd.ntmps19
    go_wp2
    go_ret2
    exact ⟨rfl, rfl⟩
end
end Go.Proofs.YtjmjfgbpjecgfaaDoor
