/-
  disk: the document's Crash.
-/
import Derived.Test.YtjmjfgbpjecgfaaDoorRdFlush
import Derived.Deep.DeepCutAuto
import Derived.Deep.CutBlock
namespace Go.Proofs.YtjmjfgbpjecgfaaDoor
set_option linter.unusedVariables false
set_option linter.unusedSimpArgs false
open Go.RowKit

/-- In the midst of a crash: of the k-th write j picks were looked at. -/
def DK.half2 (d : DK) (pick : List Int) (k j : Nat) (x : Nat × List Nat) : DK := if (pick.take j).contains (k : Int) = true then { d.half pick k with firm := (d.half pick k).firm.set x.1 x.2 } else d.half pick k
theorem half2_zero (d : DK) (pick : List Int) (k : Nat) (x : Nat × List Nat) : d.half2 pick k 0 x = d.half pick k := by simp [DK.half2]
theorem half2_end (d : DK) (pick : List Int) {k : Nat} {x : Nat × List Nat} (h : d.pend[k]? = some x) : d.half2 pick k pick.length x = d.half pick (k + 1) := by
  unfold DK.half2
  rw [List.take_length]
  cases hc : pick.contains (k : Int) with
  | true => rw [if_pos rfl, half_in d pick h hc]
  | false => rw [if_neg (by decide), half_out d pick h hc]
theorem half2_length (d : DK) (pick : List Int) (k j : Nat) (x : Nat × List Nat) : (d.half2 pick k j x).firm.length = d.firm.length := by
  unfold DK.half2
  split
  · show ((d.half pick k).firm.set x.1 x.2).length = _
    rw [List.length_set, half_length]
  · exact half_length _ _ _
theorem take_snoc' {l : List Int} {j : Nat} {z : Int} (h : l[j]? = some z) : l.take (j + 1) = l.take j ++ [z] := by rw [List.take_add_one, h]; rfl
theorem half2_hit (d : DK) (pick : List Int) {k j : Nat} {x : Nat × List Nat} (h : pick[j]? = some (k : Int)) : d.half2 pick k (j + 1) x = { d.half2 pick k j x with firm := (d.half2 pick k j x).firm.set x.1 x.2 } := by
  unfold DK.half2
  rw [take_snoc' h]
  have e : (pick.take j ++ [(k : Int)]).contains (k : Int) = true := by simp
  rw [if_pos e]
  split
  · simp [List.set_set]
  · rfl
theorem half2_miss (d : DK) (pick : List Int) {k j : Nat} {x : Nat × List Nat} {z : Int} (h : pick[j]? = some z) (hz : z ≠ (k : Int)) : d.half2 pick k (j + 1) x = d.half2 pick k j x := by
  unfold DK.half2
  rw [take_snoc' h]
  have e : (pick.take j ++ [z]).contains (k : Int) = (pick.take j).contains (k : Int) := by
    rw [Bool.eq_iff_iff]
    simp only [List.contains_iff_mem, List.mem_append, List.mem_singleton]
    constructor
    · rintro (h | h)
      · exact h
      · exact absurd h.symm hz
    · exact .inl
  rw [e]
section
variable {w : World} {base rb fb cap : Nat} {av wv : Value} {d : DK}
theorem made_rd {w2 : World} {B g2 k2 : Nat} {firm : List (List Nat)} (h : RowF w2 B 33 64 pgF (.slice (some ⟨g2, 0, none⟩) firm.length k2) firm) (hB : B ≤ w2.heap.size) (h1 : 1 ≤ firm.length) (h2 : firm.length ≤ 4096) :
    IsRd (w2.alloc (.cells #[.slice (some ⟨g2, 0, none⟩) firm.length k2, .slice none 0 0, .slice none 0 0, .int .i64 (-1), .bool false] 54)) B w2.heap.size g2 k2 (.slice none 0 0) (.slice none 0 0) { firm := firm } :=
  ⟨IsBlk.new w2 _ _, h.below ((Below.refl _ _).alloc (Nat.le_refl _) _), RowF.nil _ _ _ _ _, RowF.nil _ _ _ _ _, (by intro e; cases e), (fun x hx => by cases hx), h1, h2, (by show (-1 : Int) ≤ -1; omega), (by show (-1 : Int) ≤ 9223372036854775807; omega), hB⟩

set_option maxRecDepth 100000 in
set_option maxHeartbeats 4000000 in
theorem ref_crash (h : IsRd w base rb fb cap av wv d) (hl : d.pend.length < 1000001) (pa : Option Addr) (pick : List Int) (pc : Nat) (hp : IsInts .i64 w pa pick) (hpl : pick.length ≤ 35184372088832) : Calls Tryd.prog 28 #[.pointer (some ⟨rb, 0, none⟩), .slice pa pick.length pc] w fun e w' => ∃ eb fb' cap', e = .returned (.pointer (some ⟨eb, 0, none⟩)) ∧ IsRd w' w.heap.size eb fb' cap' (.slice none 0 0) (.slice none 0 0) (d.crash pick) ∧ Below w.heap.size w w' := by
  have c0 := h.c0
  have hsrc : Src w 64 (some ⟨fb, 0, none⟩) d.firm.length (d.firm.flatMap pgF) := h.firm.src (by decide)
  obtain ⟨pt, pz, hi1, hi2, hi3, hi4, hi5⟩ := pg_typ
  have hi5' : pz.cells.size = 64 := by rw [hi5]; rfl
  have hone : ∀ u ∈ d.firm.flatMap pgF, u.oneCell' = true := fun u hu => by
    obtain ⟨q, _, hq⟩ := List.mem_flatMap.1 hu
    exact bv_one _ u hq
  have hn2 := h.n2
  have HA := Lib.hid (And.intro hsrc (And.intro hi1 (And.intro hi2 (And.intro hi3 (And.intro hi4 (And.intro hi5' hone))))))
  have HH := Lib.hid (And.intro h (And.intro hp hpl))
  clear hsrc hi1 hi2 hi3 hi4 hi5 hi5' hone hpl h hp
  go_enter Tryd.func28, Tryd.ntmps28
  go_upto_region 2 with (refine wpList_append_src w (by rfl) (.const (.slice none 0 0)) (.tmp 11) 43 (by rfl) w.heap.size 33 pt pz 64 64 Tryd.underlying43 HA.out.2.1 HA.out.2.2.1 HA.out.2.2.2.1 HA.out.2.2.2.2.1 HA.out.2.2.2.2.2.1 (by decide) (.slice none 0 0) 0 [] (by rfl) (World.ownsRow_nil _ _ _ _) _ d.firm.length cap (d.firm.flatMap pgF) (by rfl) HA.out.1 (by intro e; cases e) HA.out.2.2.2.2.2.2 (by unfold maxLen; omega) (by omega) (Nat.le_refl _) ?_; intro v' w2 q1 q2 q3; rw [Nat.zero_add, List.nil_append] at q1; obtain ⟨g2, k2, rfl⟩ := own_pos q1 HH.out.1.n1; have HV := Lib.hid (And.intro q1 q2); clear q1 q2 q3)
  have hw2 : Below w.heap.size w w2 := (Below.refl w.heap.size w).grown HV.out.2 (Nat.le_refl _) (by intro k hk; cases hk)
  have hmd := made_rd (w2 := w2) (B := w.heap.size) (g2 := g2) (k2 := k2) (firm := d.firm) ⟨HH.out.1.firm.1, HV.out.1⟩ hw2.size HH.out.1.n1 HH.out.1.n2
  have hbA : Below w2.heap.size w2 (w2.alloc (.cells #[.slice (some ⟨g2, 0, none⟩) d.firm.length k2, .slice none 0 0, .slice none 0 0, .int .i64 (-1), .bool false] 54)) := (Below.refl _ _).alloc (Nat.le_refl _) _
  generalize w2.alloc (.cells #[.slice (some ⟨g2, 0, none⟩) d.firm.length k2, .slice none 0 0, .slice none 0 0, .int .i64 (-1), .bool false] 54) = w4 at hbA hmd ⊢
  have hb4 : Below w.heap.size w w4 := hw2.trans (hbA.mono hw2.size)
  have HE := Lib.hid (And.intro hmd hb4)
  generalize w2.heap.size = eb at *
  clear hw2 hmd hbA hb4 HV HA c0
  go_wp2
  go_loopw [6] (fun i wr => ∃ k : Nat, k ≤ d.pend.length ∧ i = .int .i64 k ∧ Hid (IsRd wr w.heap.size eb g2 k2 (.slice none 0 0) (.slice none 0 0) (d.half pick k) ∧ Below w.heap.size w wr)) (fun i _ => d.pend.length - (intOf i).toNat)
  case atStart => exact ⟨0, by omega, rfl, HE.out.1, HE.out.2⟩
  case round =>
    obtain ⟨k, hk, rfl, HR⟩ := hrel
    have hA := HH.out.1.below HR.out.2
    have c1 := hA.c1
    obtain ⟨aa, ac, rfl⟩ := hA.at_.slice
    by_cases hlt : k < d.pend.length
    · have hx : d.pend[k]? = some d.pend[k] := List.getElem?_eq_getElem hlt
      generalize d.pend[k] = x at hx
      have hx1 : x.1 < d.firm.length := HH.out.1.pend x (List.mem_of_getElem? hx)
      obtain ⟨ga, ac', e, hac, cat⟩ := hA.atk (k := k) (x := x) hx
      injection e with e1 _ e3
      subst e1 e3
      obtain ⟨gw, wc, rfl, hwc, hrg⟩ := hA.whk (k := k) (x := x) hx
      have hxl := hA.wlen (x := x) (List.mem_of_getElem? hx)
      have HX := Lib.hid (And.intro hx (And.intro hxl hx1))
      have hxi : (x.1 : Int) < (d.firm.length : Int) := by omega
      have hki : (k : Int) < (d.pend.length : Int) := by omega
      have hl63 : (pick.length : Int) ≤ 35184372088832 := by have := HH.out.2.2; omega
      clear hx hxl hx1 hA cat hrg
      go_wp2
      go_loopw [7] (fun i wr2 => ∃ j : Nat, j ≤ pick.length ∧ i = .int .i64 j ∧ Hid (IsRd wr2 w.heap.size eb g2 k2 (.slice none 0 0) (.slice none 0 0) (d.half2 pick k j x) ∧ Below w.heap.size w wr2)) (fun i _ => pick.length - (intOf i).toNat)
      case atStart => exact ⟨0, by omega, rfl, by rw [half2_zero]; exact HR.out.1, HR.out.2⟩
      case round =>
        obtain ⟨j, hj, rfl, HL⟩ := hrel
        by_cases hjl : j < pick.length
        · have hz : pick[j]? = some pick[j] := List.getElem?_eq_getElem hjl
          obtain ⟨bp, off, rfl, hbp, hcp⟩ := HH.out.2.1.2.resolve_left (by intro h; rw [h] at hjl; simp at hjl)
          have hc := (HL.out.2.cell (p := ⟨bp, off + j, none⟩) hbp).trans (hcp j hjl)
          have hzd : pick.getD j 0 = pick[j] := by simp [List.getD, hz]
          rw [hzd] at hc
          generalize pick[j] = z at hz hc
          have hji : (j : Int) < (pick.length : Int) := by omega
          clear hzd hcp hbp
          by_cases hzk : z = (k : Int)
          · subst hzk
            have HZ := Lib.hid hz
            clear hz
            go_upto_region 9 with fail
            have hB := HH.out.1.below HL.out.2
            have c0 := HL.out.1.c0
            have c1b := hB.c1
            have c2b := hB.c2
            obtain ⟨ga', ac', e, _, cat⟩ := hB.atk (k := k) (x := x) HX.out.1
            injection e with e1 _ e3
            injection e1 with e1
            injection e1 with e1
            subst e1 e3
            obtain ⟨gw', wc', e, _, hrg⟩ := hB.whk (k := k) (x := x) HX.out.1
            injection e with e1 _ e3
            injection e1 with e1
            injection e1 with e1
            subst e1 e3
            obtain ⟨hth, hcap⟩ := HL.out.1.fth (j := x.1) (by rw [half2_length]; exact HX.out.2.2)
            rw [half2_length] at c0 hcap
            have HT := Lib.hid hth
            have hgaw : ga < w.heap.size := HH.out.1.at_.lt ga rfl
            have hgww : gw < w.heap.size := HH.out.1.what.lt gw rfl
            have hrbw : rb < w.heap.size := HH.out.1.blk.lt
            have hg2w : w.heap.size ≤ g2 := HL.out.1.fb_base
            have HLT := Lib.hid (And.intro hgaw (And.intro hgww (And.intro hrbw hg2w)))
            refine wp_region_held_drew (S := fun w' => w'.cell? ⟨eb, 0, none⟩ = some (.slice (some ⟨g2, 0, none⟩) d.firm.length k2) ∧ w'.cell? ⟨rb, 1, none⟩ = some (.slice (some ⟨ga, 0, none⟩) d.pend.length ac) ∧ w'.cell? ⟨rb, 2, none⟩ = some (.slice (some ⟨gw, 0, none⟩) d.pend.length wc) ∧ w'.cell? ⟨ga, k, none⟩ = some (.int .i64 ((x.1 : Nat) : Int)) ∧ w'.rangeAt gw (k * 64) (bv x.2)) (by kernel_rfl) ⟨c0, c1b, c2b, cat, hrg⟩ (fun hHeld => ?_)
            clear hrg c0 c1b c2b cat hth hB hgaw hgww hrbw hg2w
            refine wpAnyH_take (i := 0) (v := ?_) rfl (by kernel_rfl) (by kernel_rfl) (by kernel_rfl) (fun _ _ _ h => h) (Or.inl ⟨by rfl, ?_⟩) (by with_reducible assumption) ?_
            rotate_left
            · intro w hSw; (try dsimp only at hSw); (try go_split_ands); go_simp; (try with_reducible rfl)
            (try simp only [Act.put, List.getElem_toArray, List.getElem_cons_succ, List.getElem_cons_zero, List.setIfInBounds_toArray, List.set_cons_zero, List.set_cons_succ])
            refine wpAnyH_take (i := 1) (v := ?_) rfl (by kernel_rfl) (by kernel_rfl) (by kernel_rfl) (fun _ _ _ h => h) (Or.inl ⟨by rfl, ?_⟩) (by with_reducible assumption) ?_
            rotate_left
            · intro w hSw; (try dsimp only at hSw); (try go_split_ands); go_simp; (try with_reducible rfl)
            (try simp only [Act.put, List.getElem_toArray, List.getElem_cons_succ, List.getElem_cons_zero, List.setIfInBounds_toArray, List.set_cons_zero, List.set_cons_succ])
            refine wpAnyH_take (i := 2) (v := ?_) rfl (by kernel_rfl) (by kernel_rfl) (by kernel_rfl) (fun _ _ _ h => h) (Or.inl ⟨by rfl, ?_⟩) (by with_reducible assumption) ?_
            rotate_left
            · intro w hSw; (try dsimp only at hSw); (try go_split_ands); go_simp; (try with_reducible rfl)
            (try simp only [Act.put, List.getElem_toArray, List.getElem_cons_succ, List.getElem_cons_zero, List.setIfInBounds_toArray, List.set_cons_zero, List.set_cons_succ])
            refine wpAnyH_take (i := 3) (v := ?_) rfl (by kernel_rfl) (by kernel_rfl) (by kernel_rfl) (fun _ _ _ h => h) (Or.inl ⟨by rfl, ?_⟩) (by with_reducible assumption) ?_
            rotate_left
            · intro w hSw; (try dsimp only at hSw); (try go_split_ands); go_simp; (try with_reducible rfl)
            (try simp only [Act.put, List.getElem_toArray, List.getElem_cons_succ, List.getElem_cons_zero, List.setIfInBounds_toArray, List.set_cons_zero, List.set_cons_succ])
            refine wpAnyH_take (i := 4) (v := ?_) rfl (by kernel_rfl) (by kernel_rfl) (by kernel_rfl) (fun _ _ _ h => h) (Or.inl ⟨by rfl, ?_⟩) (by with_reducible assumption) ?_
            rotate_left
            · intro w hSw; (try dsimp only at hSw); (try go_split_ands); go_simp; (try with_reducible rfl)
            (try simp only [Act.put, List.getElem_toArray, List.getElem_cons_succ, List.getElem_cons_zero, List.setIfInBounds_toArray, List.set_cons_zero, List.set_cons_succ])
            refine wpAnyH_take (i := 5) (v := ?_) rfl (by kernel_rfl) (by kernel_rfl) (by kernel_rfl) (fun _ _ _ h => h) (Or.inl ⟨by rfl, ?_⟩) (by with_reducible assumption) ?_
            rotate_left
            · intro w hSw; (try dsimp only at hSw); (try go_split_ands); go_simp; (try with_reducible rfl)
            (try simp only [Act.put, List.getElem_toArray, List.getElem_cons_succ, List.getElem_cons_zero, List.setIfInBounds_toArray, List.set_cons_zero, List.set_cons_succ])
            refine wpAnyH_take (i := 6) (v := ?_) rfl (by kernel_rfl) (by kernel_rfl) (by kernel_rfl) (fun _ _ _ h => h) (Or.inl ⟨by rfl, ?_⟩) (by with_reducible assumption) ?_
            rotate_left
            · intro w hSw; (try dsimp only at hSw); (try go_split_ands); go_simp; (try with_reducible rfl)
            (try simp only [Act.put, List.getElem_toArray, List.getElem_cons_succ, List.getElem_cons_zero, List.setIfInBounds_toArray, List.set_cons_zero, List.set_cons_succ])
            refine wpAnyH_take (i := 7) (v := ?_) rfl (by kernel_rfl) (by kernel_rfl) (by kernel_rfl) (fun _ _ _ h => h) (Or.inl ⟨by rfl, ?_⟩) (by with_reducible assumption) ?_
            rotate_left
            · intro w hSw; (try dsimp only at hSw); (try go_split_ands); go_simp; (try with_reducible rfl)
            (try simp only [Act.put, List.getElem_toArray, List.getElem_cons_succ, List.getElem_cons_zero, List.setIfInBounds_toArray, List.set_cons_zero, List.set_cons_succ])
            refine wpAnyH_take (i := 8) (v := ?_) rfl (by kernel_rfl) (by kernel_rfl) (by kernel_rfl) (fun _ _ _ h => h) (Or.inl ⟨by rfl, ?_⟩) (by with_reducible assumption) ?_
            rotate_left
            · intro w hSw; (try dsimp only at hSw); (try go_split_ands); go_simp; (try with_reducible rfl)
            (try simp only [Act.put, List.getElem_toArray, List.getElem_cons_succ, List.getElem_cons_zero, List.setIfInBounds_toArray, List.set_cons_zero, List.set_cons_succ])
            refine wpAnyH_take (i := 9) (v := ?_) rfl (by kernel_rfl) (by kernel_rfl) (by kernel_rfl) (fun _ _ _ h => h) (Or.inl ⟨by rfl, ?_⟩) (by with_reducible assumption) ?_
            rotate_left
            · intro w hSw; (try dsimp only at hSw); (try go_split_ands); go_simp; (try with_reducible rfl)
            (try simp only [Act.put, List.getElem_toArray, List.getElem_cons_succ, List.getElem_cons_zero, List.setIfInBounds_toArray, List.set_cons_zero, List.set_cons_succ])
            refine wpAnyH_take (i := 10) (v := ?_) rfl (by kernel_rfl) (by kernel_rfl) (by kernel_rfl) (fun _ _ _ h => h) (Or.inl ⟨by rfl, ?_⟩) (by with_reducible assumption) ?_
            rotate_left
            · intro w hSw; (try dsimp only at hSw); (try go_split_ands); go_simp; (try with_reducible rfl)
            (try simp only [Act.put, List.getElem_toArray, List.getElem_cons_succ, List.getElem_cons_zero, List.setIfInBounds_toArray, List.set_cons_zero, List.set_cons_succ])
            refine wpAnyH_take (i := 11) (v := ?_) rfl (by kernel_rfl) (by kernel_rfl) (by kernel_rfl) (fun _ _ _ h => h) (Or.inl ⟨by rfl, ?_⟩) (by with_reducible assumption) ?_
            rotate_left
            · intro w hSw; (try dsimp only at hSw); (try go_split_ands); go_simp; (try with_reducible rfl)
            (try simp only [Act.put, List.getElem_toArray, List.getElem_cons_succ, List.getElem_cons_zero, List.setIfInBounds_toArray, List.set_cons_zero, List.set_cons_succ])
            refine wpAnyH_take (i := 12) (v := ?_) rfl (by kernel_rfl) (by kernel_rfl) (by kernel_rfl) (fun _ _ _ h => h) (Or.inl ⟨by rfl, ?_⟩) (by with_reducible assumption) ?_
            rotate_left
            · intro w hSw; (try dsimp only at hSw); (try go_split_ands); go_simp; (try with_reducible rfl)
            (try simp only [Act.put, List.getElem_toArray, List.getElem_cons_succ, List.getElem_cons_zero, List.setIfInBounds_toArray, List.set_cons_zero, List.set_cons_succ])
            refine wpAnyH_take (i := 13) (v := ?_) rfl (by kernel_rfl) (by kernel_rfl) (by kernel_rfl) (fun _ _ _ h => h) (Or.inl ⟨by rfl, ?_⟩) (by with_reducible assumption) ?_
            rotate_left
            · intro w hSw; (try dsimp only at hSw); (try go_split_ands); go_simp; (try with_reducible rfl)
            (try simp only [Act.put, List.getElem_toArray, List.getElem_cons_succ, List.getElem_cons_zero, List.setIfInBounds_toArray, List.set_cons_zero, List.set_cons_succ])
            refine wpAnyH_take (i := 14) (v := ?_) rfl (by kernel_rfl) (by kernel_rfl) (by kernel_rfl) (fun _ _ _ h => h) (Or.inl ⟨by rfl, ?_⟩) (by with_reducible assumption) ?_
            rotate_left
            · intro w hSw; (try dsimp only at hSw); (try go_split_ands); go_simp; (try with_reducible rfl)
            (try simp only [Act.put, List.getElem_toArray, List.getElem_cons_succ, List.getElem_cons_zero, List.setIfInBounds_toArray, List.set_cons_zero, List.set_cons_succ])
            refine wpAnyH_take (i := 15) (v := ?_) rfl (by kernel_rfl) (by kernel_rfl) (by kernel_rfl) (fun _ _ _ h => h) (Or.inl ⟨by rfl, ?_⟩) (by with_reducible assumption) ?_
            rotate_left
            · intro w hSw; (try dsimp only at hSw); (try go_split_ands); go_simp; (try with_reducible rfl)
            (try simp only [Act.put, List.getElem_toArray, List.getElem_cons_succ, List.getElem_cons_zero, List.setIfInBounds_toArray, List.set_cons_zero, List.set_cons_succ])
            refine wpAnyH_take (i := 16) (v := ?_) rfl (by kernel_rfl) (by kernel_rfl) (by kernel_rfl) (fun _ _ _ h => h) (Or.inl ⟨by rfl, ?_⟩) (by with_reducible assumption) ?_
            rotate_left
            · intro w hSw; (try dsimp only at hSw); (try go_split_ands); go_simp; (try with_reducible rfl)
            (try simp only [Act.put, List.getElem_toArray, List.getElem_cons_succ, List.getElem_cons_zero, List.setIfInBounds_toArray, List.set_cons_zero, List.set_cons_succ])
            refine wpAnyH_take (i := 17) (v := .agg (bv x.2).toArray) rfl (by kernel_rfl) (by kernel_rfl) (by kernel_rfl) (fun _ _ _ h => h) (yieldsIf_load_mid (by rfl) 33 (.tmp 52) (by rfl) gw (k * 64) (by rfl) (bv x.2) _ (fun w hS => hS.2.2.2.2) Tryd.underlying33 rfl (by rw [bv_length, HX.out.2.1]; kernel_rfl)) (by with_reducible assumption) ?_
            (try simp only [Act.put, List.getElem_toArray, List.getElem_cons_succ, List.getElem_cons_zero, List.setIfInBounds_toArray, List.set_cons_zero, List.set_cons_succ])
            refine wpAnyH_take (i := 18) (v := ?_) rfl (by kernel_rfl) (by kernel_rfl) (by kernel_rfl) (fun _ _ _ h => h) (Or.inl ⟨by rfl, ?_⟩) (by with_reducible assumption) ?_
            rotate_left
            · intro w hSw; (try dsimp only at hSw); (try go_split_ands); go_simp; (try with_reducible rfl)
            (try simp only [Act.put, List.getElem_toArray, List.getElem_cons_succ, List.getElem_cons_zero, List.setIfInBounds_toArray, List.set_cons_zero, List.set_cons_succ])
            refine wpAnyH_ready (rs := [19]) (by kernel_rfl) (by simp) ?_
            refine AllReadyH.cons rfl (fun K9 hK9 => ?_) AllReadyH.nil
            rw [if_pos (by rfl)]
            simp only [List.getElem_toArray, List.getElem_cons_succ, List.getElem_cons_zero]
            refine wp_store_mid 33 (.tmp 54) (.tmp 53) (by rfl) g2 (x.1 * 64) (bv x.2).toArray (by rfl) (by rfl) (by rw [List.size_toArray, bv_length, HX.out.2.1]; exact HT.out) (by rw [List.size_toArray, bv_length, HX.out.2.1]; kernel_rfl) (all_oneCell_toArray (bv_one _)) ?_
            have hbs : But (fun b => b = g2) wr.drew (wr.drew.setCells g2 (x.1 * 64) (bv x.2)) := (But.refl (fun b => b = g2) _).setCells (g := g2) rfl _ _
            have hd := HL.out.1.below ((Below.refl wr.heap.size wr).drew)
            have hfin : IsRd (wr.drew.setCells g2 (x.1 * 64) (bv x.2)) w.heap.size eb g2 k2 (.slice none 0 0) (.slice none 0 0) (d.half2 pick k (j + 1) x) := hd.firm1 (by rw [half2_length]; exact HX.out.2.2) HX.out.2.1 (half2_hit d pick HZ.out)
            have hbf : Below w.heap.size w (wr.drew.setCells g2 (x.1 * 64) (bv x.2)) := (HL.out.2.drew).trans (hbs.below (Nat.le_trans HL.out.2.size (Nat.le_refl _)) (fun q hq => by rw [hq]; exact HLT.out.2.2.2))
            have hne0 := HL.out.1.fb_ne
            refine hK9.out _ _ ⟨(hbs.cell (cell_lt hHeld.1) (fun e => hne0 e.symm)).trans hHeld.1, (hbs.cell (cell_lt hHeld.2.1) (fun e => by have e : rb = g2 := e; have := HLT.out; omega)).trans hHeld.2.1, (hbs.cell (cell_lt hHeld.2.2.1) (fun e => by have e : rb = g2 := e; have := HLT.out; omega)).trans hHeld.2.2.1, (hbs.cell (cell_lt hHeld.2.2.2.1) (fun e => by have e : ga = g2 := e; have := HLT.out; omega)).trans hHeld.2.2.2.1, ?_⟩ (fun hHeld => ?_)
            · obtain ⟨gw', wc', e, _, hr⟩ := (HH.out.1.below hbf).whk (k := k) (x := x) HX.out.1
              injection e with e1 _ _
              injection e1 with e1
              injection e1 with e1
              subst e1
              exact hr
            clear hK9 K9 hHeld
            (try simp only [Act.put, List.getElem_toArray, List.getElem_cons_succ, List.getElem_cons_zero, List.setIfInBounds_toArray, List.set_cons_zero, List.set_cons_succ])
            refine wpAnyH_done (by kernel_rfl) ?_ _
            have HF := Lib.hid (And.intro hfin hbf)
            clear hfin hbf hbs hd
            go_wp2
            go_roundw
            case rel => exact ⟨j + 1, by omega, by go_num, HF.out⟩
            case measure => simp [intOf]; omega
          · have hzb : (z == (k : Int)) = false := by simp; exact hzk
            have HS := Lib.hid (half2_miss d pick (x := x) hz hzk)
            clear hz hzk
            go_wp2
            go_round
            case rel => exact ⟨j + 1, by omega, by go_num, by rw [HS.out]; exact HL.out.1, HL.out.2⟩
            case measure => simp [intOf]; omega
        · obtain rfl : j = pick.length := by omega
          have hfin := HL.out
          rw [half2_end d pick HX.out.1] at hfin
          have HF := Lib.hid hfin
          clear hfin
          go_wp2
          go_round
          case rel => exact ⟨k + 1, by omega, by go_num, HF.out⟩
          case measure => simp [intOf]; omega
    · obtain rfl : k = d.pend.length := by omega
      have hend : d.half pick d.pend.length = d.crash pick := by unfold DK.half DK.crash; rw [List.take_length]
      rw [hend] at HR
      clear hend
      go_wp2
      go_ret
      exact ⟨_, g2, k2, rfl, HR.out.1, HR.out.2⟩
end
end Go.Proofs.YtjmjfgbpjecgfaaDoor
