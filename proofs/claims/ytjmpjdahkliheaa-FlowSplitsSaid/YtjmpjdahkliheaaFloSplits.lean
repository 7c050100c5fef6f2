/-
  flow: the law FlowSplits.
-/
import Derived.Test.YtjmpjdahkliheaaFloStands
import Derived.Test.YtjmpjdahkliheaaRead2
import Derived.RegionTactic
import Derived.Deep.QuietTactic
import Derived.BigQuiet
import Derived.WalkLawsBesides
namespace Go.Proofs.Ytjmpjdahkliheaa
set_option linter.unusedVariables false
set_option linter.unusedSimpArgs false
open Go.RowKit

theorem tiles_last {n : Nat} : ∀ {l : List (Nat × Nat × Bool)} {p : Nat}, Tiles n p l → l ≠ [] → ∃ x, l[l.length - 1]? = some x ∧ x.2.2 = true
  | [], p, h, hne => absurd rfl hne
  | (y, k, f) :: t, p, h, hne => by
    obtain ⟨h1, h2, h3, h4, h5⟩ := h
    by_cases ht : t = []
    · subst ht
      exact ⟨(y, k, f), rfl, h4 rfl⟩
    · obtain ⟨x, hx, hf⟩ := tiles_last h5 ht
      refine ⟨x, ?_, hf⟩
      have : t.length ≠ 0 := fun h => ht (List.length_eq_zero_iff.1 h)
      rw [← hx]
      rw [show ((y, k, f) :: t).length - 1 = (t.length - 1) + 1 by simp; omega]
      simp

theorem parts_pos {n seg burst : Nat} (hn : 1 ≤ n) (hs : 1 ≤ seg) (hb : 1 ≤ burst) : parts n seg burst 0 burst ≠ [] := by
  rw [parts_step n seg burst 0 burst (by omega) hs hb hb _ rfl _ rfl _ rfl]
  simp

theorem parts_len (n : Nat) : ∀ (l : List (Nat × Nat × Bool)) (p : Nat), Tiles n p l → p + l.length ≤ n
  | [], p, h => by have : p = n := h; simp; omega
  | (y, k, f) :: t, p, h => by
    obtain ⟨h1, h2, h3, h4, h5⟩ := h
    have := parts_len n t (p + k) h5
    simp
    omega

/-- What the row holds, read in whatever later world. -/
def At (w : World) (b : Nat) (l : List (Nat × Nat × Bool)) : Prop :=
  ∀ i x, l[i]? = some x → w.cell? ⟨b, i * 3, none⟩ = some (.int .i64 (x.1 : Int)) ∧ w.cell? ⟨b, i * 3 + 1, none⟩ = some (.int .i64 (x.2.1 : Int)) ∧ w.cell? ⟨b, i * 3 + 2, none⟩ = some (.bool x.2.2)
theorem At.below {w w' : World} {b : Nat} {l : List (Nat × Nat × Bool)} {k : Nat} (h : At w b l) (hb : Below k w w') (hk : b < k) : At w' b l := by
  intro i x hi
  obtain ⟨h1, h2, h3⟩ := h i x hi
  exact ⟨(hb.cell (by exact hk)).trans h1, (hb.cell (by exact hk)).trans h2, (hb.cell (by exact hk)).trans h3⟩
theorem OwnP.at {e : TypeId} {w : World} {base : Nat} {v : Value} {l : List (Nat × Nat × Bool)} (h : OwnP e w base v l) (hne : l ≠ []) : ∃ b cap, v = .slice (some ⟨b, 0, none⟩) l.length cap ∧ l.length ≤ cap ∧ cap ≤ maxLen ∧ b < w.heap.size ∧ At w b l := by
  obtain ⟨a, cap, rfl, h1, h2, h3⟩ := h.form
  obtain ⟨b, rfl, hb1, hb2, hc⟩ := h3.resolve_left hne
  refine ⟨b, cap, rfl, h1, h2, hb2, fun i x hi => ?_⟩
  have := hc i x hi
  rwa [Nat.mul_comm 3 i] at this

set_option maxHeartbeats 2000000 in
set_option maxRecDepth 100000 in
theorem splits_walk (n0 seg burst : Int) (w : World) (hn : -9223372036854775808 ≤ n0 ∧ n0 < 9223372036854775808) (hs : -9223372036854775808 ≤ seg ∧ seg < 9223372036854775808) (hb : -9223372036854775808 ≤ burst ∧ burst < 9223372036854775808) :
    Calls Try.prog 3 #[.int .i64 n0, .int .i64 seg, .int .i64 burst] w fun e w' => e = .returned (.bool true) ∧ Below w.heap.size w w' := by
  obtain ⟨hs1, hs2⟩ := hs
  obtain ⟨hb1, hb2⟩ := hb
  obtain ⟨hn1, hn2⟩ := hn
  go_enter Try.func3, Try.ntmps3
  go_wp2_with fail
  refine (stands_any _).mono ?_
  rintro e w0 ⟨rfl, hb0⟩
  go_wp2_with fail
  · obtain ⟨n, hN⟩ : ∃ n : Int, n0 % 5000 = n := ⟨_, rfl⟩
    have hn5 : n ≤ 5000 := by omega
    rw [hN]
    clear hN
    by_cases hpos : n ≤ 0 ∨ seg < 1 ∨ burst < 1
    · refine (split_none n seg burst hpos _).mono ?_
      rintro e w1 ⟨rfl, rfl⟩
      go_wp2_with fail
      refine (splitR_none n seg burst hpos _).mono ?_
      rintro e w2 ⟨rfl, rfl⟩
      go_wp2
      go_loopw [9, 33] (fun a i wr => a = .int .i64 0 ∧ i = .int .i64 0 ∧ wr = w2) (fun _ _ _ => 0)
      case atStart => exact ⟨rfl, rfl, rfl⟩
      case round =>
        obtain ⟨rfl, rfl, rfl⟩ := hrel
        go_wp2
        all_goals first | (exfalso; omega) | (go_ret; exact ⟨rfl, hb0⟩)
    · obtain ⟨n', rfl⟩ := Int.eq_ofNat_of_zero_le (show 0 ≤ n by omega)
      obtain ⟨seg', rfl⟩ := Int.eq_ofNat_of_zero_le (show 0 ≤ seg by omega)
      obtain ⟨burst', rfl⟩ := Int.eq_ofNat_of_zero_le (show 0 ≤ burst by omega)
      refine (split_any n' seg' burst' (by omega) (by omega) (by omega) (by omega) (by omega) (by omega) _).mono ?_
      rintro e w1 ⟨v1, rfl, ho1, hbw1⟩
      go_wp2_with fail
      refine (splitR_any n' seg' burst' (by omega) (by omega) (by omega) (by omega) (by omega) (by omega) _).mono ?_
      rintro e w2 ⟨v2, rfl, ho2, hbw2⟩
      have hne : parts n' seg' burst' 0 burst' ≠ [] := parts_pos (by omega) (by omega) (by omega)
      have hti : Tiles n' 0 (parts n' seg' burst' 0 burst') := tiles_parts n' seg' burst' (by omega) (by omega) _ 0 burst' rfl (by omega) (by omega)
      generalize parts n' seg' burst' 0 burst' = L at *
      have hlen := parts_len n' L 0 hti
      obtain ⟨x, hx, hxf⟩ := tiles_last hti hne
      obtain ⟨b1, cap1, rfl, hc1, hm1, hbs1, hat1⟩ := ho1.at hne
      obtain ⟨b2, cap2, rfl, hc2, hm2, hbs2, hat2⟩ := ho2.at hne
      have hat1' := hat1.below hbw2 hbs1
      have hB : Below w.heap.size w w2 := hb0.trans ((hbw1.mono hb0.size).trans (hbw2.mono (Nat.le_trans hb0.size hbw1.size)))
      have hbs1' : b1 < w2.heap.size := Nat.lt_of_lt_of_le hbs1 hbw2.size
      have hl0 : 0 < L.length := List.length_pos_iff.2 hne
      clear ho1 ho2 hat1 hbw1 hbw2 hb0 hbs1 hne
      go_wp2
      go_loopw [9, 10, 11, 33] (fun a _ _ i wr => ∃ (j c : Nat), i = .int .i64 j ∧ a = .int .i64 c ∧ j ≤ L.length ∧ Tiles n' c (L.drop j) ∧ Below w2.heap.size w2 wr) (fun _ _ _ i _ => L.length - (intOf i).toNat)
      case atStart => exact ⟨0, 0, rfl, rfl, by omega, hti, Below.refl _ _⟩
      case round =>
        obtain ⟨j, c, rfl, rfl, hj, htj, hBr⟩ := hrel
        have hB' := hB.trans (hBr.mono hB.size)
        have hr1 := hat1'.below hBr hbs1'
        have hr2 := hat2.below hBr hbs2
        have hBr' := hBr
        have hbr2 : b2 < wr.heap.size := Nat.lt_of_lt_of_le hbs2 hBr.size
        clear hat1' hat2 hB hBr
        by_cases hjl : j < L.length
        · obtain ⟨p1, p2, p3, p4, p5⟩ := tiles_at (p := 0) j L[j] (List.getElem?_eq_getElem hjl) c htj
          obtain ⟨q1, q2, q3⟩ := hr1 j L[j] (List.getElem?_eq_getElem hjl)
          obtain ⟨r1, r2, r3⟩ := hr2 j L[j] (List.getElem?_eq_getElem hjl)
          generalize L[j] = y at *
          obtain ⟨ya, yk, yf⟩ := y
          dsimp only at p1 p2 p3 p4 p5 q1 q2 q3 r1 r2 r3
          subst p1
          clear hr1 hr2 htj hx hti
          have hjl' : (j : Int) < L.length := by omega
          have e0 : L.length < 9223372036854775808 := by omega
          go_wp2
          have hal : Below wr.heap.size wr (wr.alloc (.cells #[.int .i64 (ya : Int), .int .i64 (yk : Int), .bool yf] 28)) := (Below.refl _ wr).alloc (Nat.le_refl _) _
          have hB2 : Below w2.heap.size w2 (wr.alloc (.cells #[.int .i64 (ya : Int), .int .i64 (yk : Int), .bool yf] 28)) := hBr'.trans (hal.mono hBr'.size)
          have r1' := (hal.cell (by exact hbr2)).trans r1
          have r2' := (hal.cell (by exact hbr2)).trans r2
          have r3' := (hal.cell (by exact hbr2)).trans r3
          have n1 : (wr.alloc (.cells #[.int .i64 (ya : Int), .int .i64 (yk : Int), .bool yf] 28)).cell? ⟨wr.heap.size, 0, none⟩ = some (.int .i64 (ya : Int)) := by simp
          have n2 : (wr.alloc (.cells #[.int .i64 (ya : Int), .int .i64 (yk : Int), .bool yf] 28)).cell? ⟨wr.heap.size, 1, none⟩ = some (.int .i64 (yk : Int)) := by simp
          have n3 : (wr.alloc (.cells #[.int .i64 (ya : Int), .int .i64 (yk : Int), .bool yf] 28)).cell? ⟨wr.heap.size, 2, none⟩ = some (.bool yf) := by simp
          clear q1 q2 q3 r1 r2 r3 hal hB' hBr' hbr2
          generalize wr.heap.size = pb at *
          generalize wr.alloc (.cells #[.int .i64 (ya : Int), .int .i64 (yk : Int), .bool yf] 28) = W at *
          have hk1 : ¬ ((yk : Int) < 1) := by omega
          go_quiet (fail)
          go_wp2
          exact ⟨⟨j + 1, ya + yk, rfl, rfl, by omega, p5, below_drewN hB2 _⟩, by simp [intOf]; omega⟩
        · have hjj : j = L.length := by omega
          subst hjj
          obtain ⟨x1, x2, x3⟩ := hr1 _ _ hx
          have hcn : c = n' := by simpa [Tiles] using htj
          subst hcn
          rw [hxf] at x3
          clear hr1 hr2 x1 x2 htj hti hx hbs1' hbs2 hjl hj
          obtain ⟨z, hz⟩ : ∃ z, L.length = z + 1 := ⟨L.length - 1, by omega⟩
          have hz5 : z < 5000 := by omega
          rw [hz] at x3 hc1 hc2 hl0 ⊢
          clear hz hl0
          have e1 : z + 1 - 1 = z := by omega
          rw [e1] at x3
          clear e1 hlen
          have hpos1 : ¬ ((c : Int) < 1) := by omega
          have hpos2 : ¬ ((seg' : Int) < 1) := by omega
          have hpos3 : ¬ ((burst' : Int) < 1) := by omega
          clear hpos hc2 hm1 hm2
          clear hxf 
          go_wp2
          all_goals first | (exfalso; omega) | (go_ret; exact ⟨rfl, hB'⟩)
  · obtain ⟨n, hN⟩ : ∃ n : Int, n0 = n := ⟨_, rfl⟩
    have hn5 : n ≤ 5000 := by omega
    rw [hN]
    clear hN
    by_cases hpos : n ≤ 0 ∨ seg < 1 ∨ burst < 1
    · refine (split_none n seg burst hpos _).mono ?_
      rintro e w1 ⟨rfl, rfl⟩
      go_wp2_with fail
      refine (splitR_none n seg burst hpos _).mono ?_
      rintro e w2 ⟨rfl, rfl⟩
      go_wp2
      go_loopw [9, 33] (fun a i wr => a = .int .i64 0 ∧ i = .int .i64 0 ∧ wr = w2) (fun _ _ _ => 0)
      case atStart => exact ⟨rfl, rfl, rfl⟩
      case round =>
        obtain ⟨rfl, rfl, rfl⟩ := hrel
        go_wp2
        all_goals first | (exfalso; omega) | (go_ret; exact ⟨rfl, hb0⟩)
    · obtain ⟨n', rfl⟩ := Int.eq_ofNat_of_zero_le (show 0 ≤ n by omega)
      obtain ⟨seg', rfl⟩ := Int.eq_ofNat_of_zero_le (show 0 ≤ seg by omega)
      obtain ⟨burst', rfl⟩ := Int.eq_ofNat_of_zero_le (show 0 ≤ burst by omega)
      refine (split_any n' seg' burst' (by omega) (by omega) (by omega) (by omega) (by omega) (by omega) _).mono ?_
      rintro e w1 ⟨v1, rfl, ho1, hbw1⟩
      go_wp2_with fail
      refine (splitR_any n' seg' burst' (by omega) (by omega) (by omega) (by omega) (by omega) (by omega) _).mono ?_
      rintro e w2 ⟨v2, rfl, ho2, hbw2⟩
      have hne : parts n' seg' burst' 0 burst' ≠ [] := parts_pos (by omega) (by omega) (by omega)
      have hti : Tiles n' 0 (parts n' seg' burst' 0 burst') := tiles_parts n' seg' burst' (by omega) (by omega) _ 0 burst' rfl (by omega) (by omega)
      generalize parts n' seg' burst' 0 burst' = L at *
      have hlen := parts_len n' L 0 hti
      obtain ⟨x, hx, hxf⟩ := tiles_last hti hne
      obtain ⟨b1, cap1, rfl, hc1, hm1, hbs1, hat1⟩ := ho1.at hne
      obtain ⟨b2, cap2, rfl, hc2, hm2, hbs2, hat2⟩ := ho2.at hne
      have hat1' := hat1.below hbw2 hbs1
      have hB : Below w.heap.size w w2 := hb0.trans ((hbw1.mono hb0.size).trans (hbw2.mono (Nat.le_trans hb0.size hbw1.size)))
      have hbs1' : b1 < w2.heap.size := Nat.lt_of_lt_of_le hbs1 hbw2.size
      have hl0 : 0 < L.length := List.length_pos_iff.2 hne
      clear ho1 ho2 hat1 hbw1 hbw2 hb0 hbs1 hne
      go_wp2
      go_loopw [9, 10, 11, 33] (fun a _ _ i wr => ∃ (j c : Nat), i = .int .i64 j ∧ a = .int .i64 c ∧ j ≤ L.length ∧ Tiles n' c (L.drop j) ∧ Below w2.heap.size w2 wr) (fun _ _ _ i _ => L.length - (intOf i).toNat)
      case atStart => exact ⟨0, 0, rfl, rfl, by omega, hti, Below.refl _ _⟩
      case round =>
        obtain ⟨j, c, rfl, rfl, hj, htj, hBr⟩ := hrel
        have hB' := hB.trans (hBr.mono hB.size)
        have hr1 := hat1'.below hBr hbs1'
        have hr2 := hat2.below hBr hbs2
        have hBr' := hBr
        have hbr2 : b2 < wr.heap.size := Nat.lt_of_lt_of_le hbs2 hBr.size
        clear hat1' hat2 hB hBr
        by_cases hjl : j < L.length
        · obtain ⟨p1, p2, p3, p4, p5⟩ := tiles_at (p := 0) j L[j] (List.getElem?_eq_getElem hjl) c htj
          obtain ⟨q1, q2, q3⟩ := hr1 j L[j] (List.getElem?_eq_getElem hjl)
          obtain ⟨r1, r2, r3⟩ := hr2 j L[j] (List.getElem?_eq_getElem hjl)
          generalize L[j] = y at *
          obtain ⟨ya, yk, yf⟩ := y
          dsimp only at p1 p2 p3 p4 p5 q1 q2 q3 r1 r2 r3
          subst p1
          clear hr1 hr2 htj hx hti
          have hjl' : (j : Int) < L.length := by omega
          have e0 : L.length < 9223372036854775808 := by omega
          go_wp2
          have hal : Below wr.heap.size wr (wr.alloc (.cells #[.int .i64 (ya : Int), .int .i64 (yk : Int), .bool yf] 28)) := (Below.refl _ wr).alloc (Nat.le_refl _) _
          have hB2 : Below w2.heap.size w2 (wr.alloc (.cells #[.int .i64 (ya : Int), .int .i64 (yk : Int), .bool yf] 28)) := hBr'.trans (hal.mono hBr'.size)
          have r1' := (hal.cell (by exact hbr2)).trans r1
          have r2' := (hal.cell (by exact hbr2)).trans r2
          have r3' := (hal.cell (by exact hbr2)).trans r3
          have n1 : (wr.alloc (.cells #[.int .i64 (ya : Int), .int .i64 (yk : Int), .bool yf] 28)).cell? ⟨wr.heap.size, 0, none⟩ = some (.int .i64 (ya : Int)) := by simp
          have n2 : (wr.alloc (.cells #[.int .i64 (ya : Int), .int .i64 (yk : Int), .bool yf] 28)).cell? ⟨wr.heap.size, 1, none⟩ = some (.int .i64 (yk : Int)) := by simp
          have n3 : (wr.alloc (.cells #[.int .i64 (ya : Int), .int .i64 (yk : Int), .bool yf] 28)).cell? ⟨wr.heap.size, 2, none⟩ = some (.bool yf) := by simp
          clear q1 q2 q3 r1 r2 r3 hal hB' hBr' hbr2
          generalize wr.heap.size = pb at *
          generalize wr.alloc (.cells #[.int .i64 (ya : Int), .int .i64 (yk : Int), .bool yf] 28) = W at *
          have hk1 : ¬ ((yk : Int) < 1) := by omega
          go_quiet (fail)
          go_wp2
          exact ⟨⟨j + 1, ya + yk, rfl, rfl, by omega, p5, below_drewN hB2 _⟩, by simp [intOf]; omega⟩
        · have hjj : j = L.length := by omega
          subst hjj
          obtain ⟨x1, x2, x3⟩ := hr1 _ _ hx
          have hcn : c = n' := by simpa [Tiles] using htj
          subst hcn
          rw [hxf] at x3
          clear hr1 hr2 x1 x2 htj hti hx hbs1' hbs2 hjl hj
          obtain ⟨z, hz⟩ : ∃ z, L.length = z + 1 := ⟨L.length - 1, by omega⟩
          have hz5 : z < 5000 := by omega
          rw [hz] at x3 hc1 hc2 hl0 ⊢
          clear hz hl0
          have e1 : z + 1 - 1 = z := by omega
          rw [e1] at x3
          clear e1 hlen
          have hpos1 : ¬ ((c : Int) < 1) := by omega
          have hpos2 : ¬ ((seg' : Int) < 1) := by omega
          have hpos3 : ¬ ((burst' : Int) < 1) := by omega
          clear hpos hc2 hm1 hm2
          clear hxf 
          go_wp2
          all_goals first | (exfalso; omega) | (go_ret; exact ⟨rfl, hB'⟩)

open Go.ChangeShapes Go.WideShapes Go.ChangeAt
theorem splits_args (v0 v1 v2 : Value) (D0 D1 D2 : D) (W : World) (r0 : RdV Try.prog W 3 v0 D0) (r1 : RdV Try.prog W 3 v1 D1) (r2 : RdV Try.prog W 3 v2 D2) :
    Calls Try.prog 3 #[v0, v1, v2] W fun e w' => e = .returned (.bool true) ∧ Below W.heap.size W w' := by
  obtain ⟨n, rfl, _, hn⟩ := r0.int Try.underlying3
  obtain ⟨s, rfl, _, hs⟩ := r1.int Try.underlying3
  obtain ⟨b, rfl, _, hb⟩ := r2.int Try.underlying3
  have hn' : -9223372036854775808 ≤ n ∧ n < 9223372036854775808 := by simp [Lit.wf, IntKind.min, IntKind.max, IntKind.bits, IntKind.signed] at hn; omega
  have hs' : -9223372036854775808 ≤ s ∧ s < 9223372036854775808 := by simp [Lit.wf, IntKind.min, IntKind.max, IntKind.bits, IntKind.signed] at hs; omega
  have hb' : -9223372036854775808 ≤ b ∧ b < 9223372036854775808 := by simp [Lit.wf, IntKind.min, IntKind.max, IntKind.bits, IntKind.signed] at hb; omega
  exact splits_walk n s b W hn' hs' hb'
end Go.Proofs.Ytjmpjdahkliheaa
