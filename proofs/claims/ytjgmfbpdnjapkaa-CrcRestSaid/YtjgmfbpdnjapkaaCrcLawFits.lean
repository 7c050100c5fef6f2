/-
  CRC: the law CrcFits.
-/
import Derived.Test.YtjgmfbpdnjapkaaCrcApp
namespace Go.Proofs.Ytjgmfbpdnjapkaa
set_option linter.unusedVariables false
set_option linter.unusedSimpArgs false
set_option linter.unnecessarySimpa false
open Go.RowKit
attribute [local go_sem ↓] Go.wp_at_zero Go.wp_at_succ

def fitsB (L : List Nat) : Bool := four (sumPlain (L.take (L.length - 4))) == L.drop (L.length - 4)

theorem bytes_vars (x : Nat) (hx : x < 4294967296) (w : World) :
    Calls Try.prog 14 #[.int .u32 x] w fun e w' => ∃ c0 c1 c2 c3 : Nat, e = .returned (.agg #[.int .u8 c0, .int .u8 c1, .int .u8 c2, .int .u8 c3]) ∧ Hid (four x = [c0, c1, c2, c3]) ∧ Below w.heap.size w w' :=
  (bytes_below x hx w).mono fun _ _ ⟨he, hw⟩ => ⟨_, _, _, _, he, rfl, hw⟩

theorem last_four {w : World} {a : Option Addr} {L : List Nat} (h : IsBytes w a L) (hn : 4 ≤ L.length) : ∃ b off c0 c1 c2 c3, a = some ⟨b, off, none⟩ ∧ b < w.heap.size ∧ L.drop (L.length - 4) = [c0, c1, c2, c3] ∧
    w.cell? ⟨b, off + (L.length - 4), none⟩ = some (.int .u8 c0) ∧ w.cell? ⟨b, off + (L.length - 4) + 1, none⟩ = some (.int .u8 c1) ∧ w.cell? ⟨b, off + (L.length - 4) + 2, none⟩ = some (.int .u8 c2) ∧ w.cell? ⟨b, off + (L.length - 4) + 3, none⟩ = some (.int .u8 c3) := by
  obtain ⟨b, off, rfl, hc⟩ := h.2.resolve_left (by rintro rfl; simp at hn)
  refine ⟨b, off, L.getD (L.length - 4) 0, L.getD (L.length - 4 + 1) 0, L.getD (L.length - 4 + 2) 0, L.getD (L.length - 4 + 3) 0, rfl, ?_, ?_, ?_, ?_, ?_, ?_⟩
  · have := cell?_some_lt (hc 0 (by omega))
    simpa using this
  · apply List.ext_getElem?
    intro i
    rw [List.getElem?_drop]
    by_cases hi : i < 4
    · rcases (by omega : i = 0 ∨ i = 1 ∨ i = 2 ∨ i = 3) with rfl | rfl | rfl | rfl
      · simp [List.getD, show L.length - 4 < L.length by omega]
      · simp [List.getD, show L.length - 4 + 1 < L.length by omega]
      · simp [List.getD, show L.length - 4 + 2 < L.length by omega]
      · simp [List.getD, show L.length - 4 + 3 < L.length by omega]
    · rw [List.getElem?_eq_none (by omega), List.getElem?_eq_none (by simp; omega)]
  · exact hc _ (by omega)
  · rw [Nat.add_assoc]; exact hc _ (by omega)
  · rw [Nat.add_assoc]; exact hc _ (by omega)
  · rw [Nat.add_assoc]; exact hc _ (by omega)

/-- Fits, by the table that is made, of whatever bytes. -/
theorem fits_nil_any (a : Option Addr) (L : List Nat) (n cap : Nat) (w : World) (hl : IsBytes w a L) (hn : L.length = n) (hn4 : 4 ≤ n) (hc : n ≤ cap) (hm : cap ≤ maxLen) :
    Calls Try.prog 15 #[.pointer none, .slice a n cap] w fun e w' => e = .returned (.bool (fitsB L)) ∧ Below w.heap.size w w' := by
  obtain ⟨b, off, c0, c1, c2, c3, rfl, hb, hd, h0, h1, h2, h3⟩ := last_four hl (by omega)
  have h := fits_nil b off (L.take (L.length - 4)) (L.length - 4) cap w c0 c1 c2 c3 hb (by omega) hm (hl.take _) (by simp) h0 h1 h2 h3
  rw [show L.length - 4 + 4 = n by omega] at h
  rw [fitsB, hd]
  exact h
theorem fits_tab_any (bt : Nat) (a : Option Addr) (L : List Nat) (n cap : Nat) (w : World) (ht : IsTab w bt tab) (hbt : bt < w.heap.size) (hl : IsBytes w a L) (hn : L.length = n) (hn4 : 4 ≤ n) (hc : n ≤ cap) (hm : cap ≤ maxLen) :
    Calls Try.prog 15 #[.pointer (some ⟨bt, 0, none⟩), .slice a n cap] w fun e w' => e = .returned (.bool (fitsB L)) ∧ Below w.heap.size w w' := by
  obtain ⟨b, off, c0, c1, c2, c3, rfl, hb, hd, h0, h1, h2, h3⟩ := last_four hl (by omega)
  have h := fits_tab bt tab b off (L.take (L.length - 4)) (L.length - 4) cap w c0 c1 c2 c3 hb (by omega) hm ht hbt (hl.take _) (by simp) h0 h1 h2 h3
  rw [show L.length - 4 + 4 = n by omega, sum_same _ (hl.take _).1] at h
  rw [fitsB, hd]
  exact h

theorem fitsB_append (l t : List Nat) (ht : t.length = 4) : fitsB (l ++ t) = (four (sumPlain l) == t) := by
  unfold fitsB
  rw [List.length_append, ht, Nat.add_sub_cancel, List.take_left, List.drop_left]

/-- A block of four bytes. -/
theorem block_four {w : World} {b : Nat} {c0 c1 c2 c3 : Nat} {t : TypeId} (h : w.heap[b]? = some (.cells #[.int .u8 c0, .int .u8 c1, .int .u8 c2, .int .u8 c3] t)) (h0 : c0 < 256) (h1 : c1 < 256) (h2 : c2 < 256) (h3 : c3 < 256) : IsBytes w (some ⟨b, 0, none⟩) [c0, c1, c2, c3] := by
  refine ⟨?_, .inr ⟨b, 0, rfl, fun i hi => ?_⟩⟩
  · intro c hc
    simp at hc
    omega
  · simp only [List.length_cons, List.length_nil] at hi
    have hc : w.cell? ⟨b, 0 + i, none⟩ = (#[.int .u8 c0, .int .u8 c1, .int .u8 c2, .int .u8 c3] : Array Value)[0 + i]? := by unfold World.cell?; rw [h]; simp
    rw [hc]
    rcases (by omega : i = 0 ∨ i = 1 ∨ i = 2 ∨ i = 3) with rfl | rfl | rfl | rfl <;> rfl
theorem four_lt {x c0 c1 c2 c3 : Nat} (h : four x = [c0, c1, c2, c3]) : c0 < 256 ∧ c1 < 256 ∧ c2 < 256 ∧ c3 < 256 := by
  unfold four at h
  simp only [List.cons.injEq, and_true] at h
  omega

theorem run_eqTwo (t0 t1 t2 t3 c0 c1 c2 c3 : Nat) (w : World) : (Op.equalIn 10000 36 (.agg #[.int .u8 t0, .int .u8 t1, .int .u8 t2, .int .u8 t3]) (.agg #[.int .u8 c0, .int .u8 c1, .int .u8 c2, .int .u8 c3])).run Try.prog w = .ok ([t0, t1, t2, t3] == [c0, c1, c2, c3]) w := by
  have h := run_equalIn_array (P := Try.prog) (t := 36) (e := 5) (n := 4) (k := .u8) 9998 (by kernel_rfl) (by kernel_rfl) size5
    [(t0 : Int), (t1 : Int), (t2 : Int), (t3 : Int)] [(c0 : Int), (c1 : Int), (c2 : Int), (c3 : Int)] rfl rfl w
  rw [cast_beq4] at h
  exact h
theorem held_eight {w w' : World} {a b : Nat} {v0 v1 v2 v3 u0 u1 u2 u3 : Value} (h0 : w.cell? ⟨a, 0, none⟩ = some v0) (h1 : w.cell? ⟨a, 1, none⟩ = some v1) (h2 : w.cell? ⟨a, 2, none⟩ = some v2) (h3 : w.cell? ⟨a, 3, none⟩ = some v3)
    (k0 : w.cell? ⟨b, 0, none⟩ = some u0) (k1 : w.cell? ⟨b, 1, none⟩ = some u1) (k2 : w.cell? ⟨b, 2, none⟩ = some u2) (k3 : w.cell? ⟨b, 3, none⟩ = some u3) (ha : a < w.heap.size) (hb : b < w.heap.size) (hB : Below w.heap.size w w') :
    w'.cell? ⟨a, 0, none⟩ = some v0 ∧ w'.cell? ⟨a, 1, none⟩ = some v1 ∧ w'.cell? ⟨a, 2, none⟩ = some v2 ∧ w'.cell? ⟨a, 3, none⟩ = some v3 ∧ w'.cell? ⟨b, 0, none⟩ = some u0 ∧ w'.cell? ⟨b, 1, none⟩ = some u1 ∧ w'.cell? ⟨b, 2, none⟩ = some u2 ∧ w'.cell? ⟨b, 3, none⟩ = some u3 ∧ Below w.heap.size w w' :=
  ⟨(hB.cell (p := ⟨a, 0, none⟩) ha).trans h0, (hB.cell (p := ⟨a, 1, none⟩) ha).trans h1, (hB.cell (p := ⟨a, 2, none⟩) ha).trans h2, (hB.cell (p := ⟨a, 3, none⟩) ha).trans h3,
   (hB.cell (p := ⟨b, 0, none⟩) hb).trans k0, (hB.cell (p := ⟨b, 1, none⟩) hb).trans k1, (hB.cell (p := ⟨b, 2, none⟩) hb).trans k2, (hB.cell (p := ⟨b, 3, none⟩) hb).trans k3, hB⟩

set_option maxHeartbeats 4000000 in
set_option maxRecDepth 100000 in
theorem crcFits_walk (a : Option Addr) (l : List Nat) (cap : Nat) (t0 t1 t2 t3 : Nat) (w : World) (hl : IsBytes w a l) (hm : l.length ≤ 140737488351232) (hc0 : a = none → cap = 0) (hlc : l.length ≤ cap) (hcm : cap ≤ maxLen)
    (ht0 : t0 < 256) (ht1 : t1 < 256) (ht2 : t2 < 256) (ht3 : t3 < 256) :
    Calls Try.prog 6 #[.slice a l.length cap, .agg #[.int .u8 t0, .int .u8 t1, .int .u8 t2, .int .u8 t3]] w fun e w' => e = .returned (.bool true) ∧ Below w.heap.size w w' := by
  have hz4 : ∀ w, (zeroValue 36).run Try.prog w = .ok (.agg #[.int .u8 0, .int .u8 0, .int .u8 0, .int .u8 0]) w := fun _ => by kernel_rfl
  have hmx : l.length ≤ maxLen := by unfold maxLen; omega
  go_enter Try.func6, Try.ntmps6
  go_wp2_with fail
  have hbA : Below w.heap.size w (w.alloc (.cells #[.int .u8 t0, .int .u8 t1, .int .u8 t2, .int .u8 t3] 36)) := (Below.refl _ _).alloc (Nat.le_refl _) _
  have htA : (w.alloc (.cells #[.int .u8 t0, .int .u8 t1, .int .u8 t2, .int .u8 t3] 36)).heap[w.heap.size]? = some (.cells #[.int .u8 t0, .int .u8 t1, .int .u8 t2, .int .u8 t3] 36) := heap_alloc_new w _
  have hsA : w.heap.size < (w.alloc (.cells #[.int .u8 t0, .int .u8 t1, .int .u8 t2, .int .u8 t3] 36)).heap.size := by simp
  generalize w.alloc (.cells #[.int .u8 t0, .int .u8 t1, .int .u8 t2, .int .u8 t3] 36) = wA at *
  refine (stands_any _).mono ?_
  rintro e w1 ⟨rfl, hb1⟩
  go_wp2_with fail
  have hB1 := hbA.trans (hb1.mono (Nat.le_of_lt hsA))
  refine (plain_any _ _ _ _ (hl.of_below hB1) hmx).mono ?_
  rintro e w2 ⟨rfl, rfl⟩
  go_wp2_with fail
  refine (bytes_vars _ (sumPlain_lt l) _).mono ?_
  rintro e w3 ⟨c0, c1, c2, c3, rfl, hfour, hb3⟩
  go_wp2
  have hfl := four_lt hfour.out
  have hB3 := hB1.trans (hb3.mono hB1.size)
  have hsW : (w3.alloc (.cells #[.int .u8 c0, .int .u8 c1, .int .u8 c2, .int .u8 c3] 36)).heap[w3.heap.size]? = some (.cells #[.int .u8 c0, .int .u8 c1, .int .u8 c2, .int .u8 c3] 36) := heap_alloc_new w3 _
  have htW : (w3.alloc (.cells #[.int .u8 c0, .int .u8 c1, .int .u8 c2, .int .u8 c3] 36)).heap[w.heap.size]? = some (.cells #[.int .u8 t0, .int .u8 t1, .int .u8 t2, .int .u8 t3] 36) := by
    rw [Below.heap_alloc _ _ _ (by have := hb3.size; have := hb1.size; omega), hb3.block _ (by have := hb1.size; omega), hb1.block _ hsA]
    exact htA
  have hBW : Below w.heap.size w (w3.alloc (.cells #[.int .u8 c0, .int .u8 c1, .int .u8 c2, .int .u8 c3] 36)) := hB3.alloc hB3.size _
  have hszW : w3.heap.size < (w3.alloc (.cells #[.int .u8 c0, .int .u8 c1, .int .u8 c2, .int .u8 c3] 36)).heap.size := by simp
  have hszt : w.heap.size < w3.heap.size := by have := hb3.size; have := hb1.size; omega
  clear hb1 hb3 hbA htA hsA hB1 hB3
  generalize w3.alloc (.cells #[.int .u8 c0, .int .u8 c1, .int .u8 c2, .int .u8 c3] 36) = W at *
  generalize w3.heap.size = sb at *
  have hlW := hl.of_below hBW
  have hsb := block_four hsW hfl.1 hfl.2.1 hfl.2.2.1 hfl.2.2.2
  have htb := block_four htW ht0 ht1 ht2 ht3
  go_region_law (first
    | (refine step_app (by rfl) _ _ (by rfl) W.heap.size _ [] (by rfl) (Own.nil _ _) a cap l (by rfl) (by exact hlW) hc0 (by simp; omega) (by simp) ?_; intro v1 W1 hown1 hb1 _)
    | (refine step_app (by rfl) _ _ (by rfl) W.heap.size _ ([] ++ l) (by rfl) (by exact hown1) (some ⟨sb, 0, none⟩) 4 [c0, c1, c2, c3] (by rfl) (by exact hsb.of_below_drew hb1) (by simp) (by simp; omega) (by exact hb1.size) ?_; intro v2 W2 hown2 hb2 _))
  have hLs : (l ++ [c0, c1, c2, c3]).length = l.length + 4 := by simp
  have hLt : (l ++ [t0, t1, t2, t3]).length = l.length + 4 := by simp
  rw [List.nil_append] at hown2
  have hbW2 : Below W.heap.size W W2 := (Below.refl _ W).drew.trans (hb1.trans hb2)
  obtain ⟨a2, cap2, hv2, hl2, hlc2, hcm2, hblk2⟩ := hown2.form
  rw [hLs] at hv2 hlc2
  subst hv2
  have hlW2 := hlW.of_below hbW2
  have hsW2 := (hbW2.block _ hszW).trans hsW
  have htW2 := (hbW2.block _ (Nat.lt_trans hszt hszW)).trans htW
  have htb2 := htb.of_below hbW2
  have hBW2 := hBW.trans (hbW2.mono hBW.size)
  have hsz2 : sb < W2.heap.size := Nat.lt_of_lt_of_le hszW hbW2.size
  clear hb1 hb2 hown1 hown2 hlW hsW htW hsb htb hBW hszW hbW2
  go_wp2
  go_region_law (first
    | (refine step_app (by rfl) _ _ (by rfl) W2.heap.size _ [] (by rfl) (Own.nil _ _) a cap l (by rfl) (by exact hlW2) hc0 (by simp; omega) (by simp) ?_; intro v1 W3 hown1 hb1 _)
    | (refine step_app (by rfl) _ _ (by rfl) W2.heap.size _ ([] ++ l) (by rfl) (by exact hown1) (some ⟨w.heap.size, 0, none⟩) 4 [t0, t1, t2, t3] (by rfl) (by exact htb2.of_below_drew hb1) (by simp) (by simp; omega) (by exact hb1.size) ?_; intro v2 W4 hown2 hb2 _))
  rw [List.nil_append] at hown2
  have hbW4 : Below W2.heap.size W2 W4 := (Below.refl _ W2).drew.trans (hb1.trans hb2)
  obtain ⟨a4, cap4, hv4, hl4, hlc4, hcm4, hblk4⟩ := hown2.form
  rw [hLt] at hv4 hlc4
  subst hv4
  have hlW4 := hlW2.of_below hbW4
  have hl2W4 := hl2.of_below hbW4
  have hsW4 := (hbW4.block _ hsz2).trans hsW2
  have htW4 := (hbW4.block _ (Nat.lt_trans hszt hsz2)).trans htW2
  have hBW4 := hBW2.trans (hbW4.mono hBW2.size)
  have hsz4 : sb < W4.heap.size := Nat.lt_of_lt_of_le hsz2 hbW4.size
  clear hb1 hb2 hown1 hown2 hlW2 hsW2 htW2 htb2 hBW2 hsz2 hbW4 hl2 hblk2 hblk4
  have hfit : fitsB (l ++ [c0, c1, c2, c3]) = true := by rw [fitsB_append _ _ rfl, hfour.out]; simp
  have hfit2 : fitsB (l ++ [t0, t1, t2, t3]) = ([c0, c1, c2, c3] == [t0, t1, t2, t3]) := by rw [fitsB_append _ _ rfl, hfour.out]
  have hF1 : Hid (∀ W bt, Below W4.heap.size W4 W → IsTab W bt tab → bt < W.heap.size → Calls Try.prog 15 #[.pointer (some ⟨bt, 0, none⟩), .slice a2 (l.length + 4) cap2] W fun e w' => e = .returned (.bool true) ∧ Below W.heap.size W w') := fun W bt hW ht hbt => by
    have := fits_tab_any bt a2 _ (l.length + 4) cap2 W ht hbt (hl2W4.of_below hW) hLs (by omega) hlc2 hcm2
    rwa [hfit] at this
  have hF2 : Hid (∀ W, Below W4.heap.size W4 W → Calls Try.prog 15 #[.pointer none, .slice a2 (l.length + 4) cap2] W fun e w' => e = .returned (.bool true) ∧ Below W.heap.size W w') := fun W hW => by
    have := fits_nil_any a2 _ (l.length + 4) cap2 W (hl2W4.of_below hW) hLs (by omega) hlc2 hcm2
    rwa [hfit] at this
  have hF3 : Hid (∀ W, Below W4.heap.size W4 W → Calls Try.prog 15 #[.pointer none, .slice a4 (l.length + 4) cap4] W fun e w' => e = .returned (.bool ([c0, c1, c2, c3] == [t0, t1, t2, t3])) ∧ Below W.heap.size W w') := fun W hW => by
    have := fits_nil_any a4 _ (l.length + 4) cap4 W (hl4.of_below hW) hLt (by omega) hlc4 hcm4
    rwa [hfit2] at this
  have hcell : ∀ (b i : Nat) (x0 x1 x2 x3 : Nat), W4.heap[b]? = some (.cells #[.int .u8 x0, .int .u8 x1, .int .u8 x2, .int .u8 x3] 36) → W4.cell? ⟨b, i, none⟩ = (#[.int .u8 x0, .int .u8 x1, .int .u8 x2, .int .u8 x3] : Array Value)[i]? := by
    intro b i x0 x1 x2 x3 h
    unfold World.cell?
    rw [h]
    simp
  have s0 : W4.cell? ⟨sb, 0, none⟩ = some (.int .u8 c0) := hcell sb 0 _ _ _ _ hsW4
  have s1 : W4.cell? ⟨sb, 1, none⟩ = some (.int .u8 c1) := hcell sb 1 _ _ _ _ hsW4
  have s2 : W4.cell? ⟨sb, 2, none⟩ = some (.int .u8 c2) := hcell sb 2 _ _ _ _ hsW4
  have s3 : W4.cell? ⟨sb, 3, none⟩ = some (.int .u8 c3) := hcell sb 3 _ _ _ _ hsW4
  have q0 : W4.cell? ⟨w.heap.size, 0, none⟩ = some (.int .u8 t0) := hcell _ 0 _ _ _ _ htW4
  have q1 : W4.cell? ⟨w.heap.size, 1, none⟩ = some (.int .u8 t1) := hcell _ 1 _ _ _ _ htW4
  have q2 : W4.cell? ⟨w.heap.size, 2, none⟩ = some (.int .u8 t2) := hcell _ 2 _ _ _ _ htW4
  have q3 : W4.cell? ⟨w.heap.size, 3, none⟩ = some (.int .u8 t3) := hcell _ 3 _ _ _ _ htW4
  have hq4 : w.heap.size < W4.heap.size := Nat.lt_trans hszt hsz4
  have heqq := run_eqTwo t0 t1 t2 t3 c0 c1 c2 c3
  have hself : (([c0, c1, c2, c3] == [t0, t1, t2, t3]) == ([t0, t1, t2, t3] == [c0, c1, c2, c3])) = true := by
    rw [beq_iff_eq, Bool.eq_iff_iff]
    simp only [beq_iff_eq]
    exact eq_comm
  clear hcell hfit hfit2 hsW4 htW4 hlW4 hl2W4 hl4 hlc2 hlc4 hcm2 hcm4 hLs hLt hl
  generalize ([c0, c1, c2, c3] == [t0, t1, t2, t3]) = X at *
  generalize ([t0, t1, t2, t3] == [c0, c1, c2, c3]) = Y at *
  by_cases h4 : l.length < 4
  · have hd4 : decide ((l.length : Int) < 4) = true := by simp; omega
    go_wp2_with (go_at_call 15; refine (fits_short _ _ _ _ _ h4).mono ?_; rintro e W5 ⟨rfl, hb5⟩)
    go_region_held3 (fun w' => w'.cell? ⟨sb, 0, none⟩ = some (.int .u8 c0) ∧ w'.cell? ⟨sb, 1, none⟩ = some (.int .u8 c1) ∧ w'.cell? ⟨sb, 2, none⟩ = some (.int .u8 c2) ∧ w'.cell? ⟨sb, 3, none⟩ = some (.int .u8 c3) ∧ w'.cell? ⟨w.heap.size, 0, none⟩ = some (.int .u8 t0) ∧ w'.cell? ⟨w.heap.size, 1, none⟩ = some (.int .u8 t1) ∧ w'.cell? ⟨w.heap.size, 2, none⟩ = some (.int .u8 t2) ∧ w'.cell? ⟨w.heap.size, 3, none⟩ = some (.int .u8 t3) ∧ Below W4.heap.size W4 w')
      (first
        | ((try dsimp only); exact held_eight s0 s1 s2 s3 q0 q1 q2 q3 hsz4 hq4 hb5.drew)
        | (go_split_ands; exact held_eight s0 s1 s2 s3 q0 q1 q2 q3 hsz4 hq4 (Below.trans (by assumption) (hbel.mono (by have := (by assumption : Below W4.heap.size W4 _).size; first | exact this | (simp; exact this))))))
      (first
       | (go_at_call 9; refine (table_new _).mono ?_; rintro e w2 ⟨rfl, hbel, htab, hstab, _⟩)
       | (go_at_call 15; go_split_ands; (with_reducible refine (hF1.out _ _ ?_ ?_ ?_).mono ?_); · assumption
          · exact htab
          · exact hstab
          rintro e w2 ⟨rfl, hbel⟩)
       | (go_at_call 15; go_split_ands; (with_reducible refine (hF2.out _ (by assumption)).mono ?_); rintro e w2 ⟨rfl, hbel⟩)
       | (go_at_call 15; go_split_ands; (with_reducible refine (hF3.out _ (by assumption)).mono ?_); rintro e w2 ⟨rfl, hbel⟩))
    go_wp2
    go_ret
    go_split_ands
    exact ⟨rfl, hBW4.trans ((by assumption : Below W4.heap.size W4 _).mono hBW4.size)⟩
  · have hd4 : decide ((l.length : Int) < 4) = false := by simp; omega
    go_wp2_with fail
    have hb5 : Below W4.heap.size W4 W4 := Below.refl _ _
    go_region_held3 (fun w' => w'.cell? ⟨sb, 0, none⟩ = some (.int .u8 c0) ∧ w'.cell? ⟨sb, 1, none⟩ = some (.int .u8 c1) ∧ w'.cell? ⟨sb, 2, none⟩ = some (.int .u8 c2) ∧ w'.cell? ⟨sb, 3, none⟩ = some (.int .u8 c3) ∧ w'.cell? ⟨w.heap.size, 0, none⟩ = some (.int .u8 t0) ∧ w'.cell? ⟨w.heap.size, 1, none⟩ = some (.int .u8 t1) ∧ w'.cell? ⟨w.heap.size, 2, none⟩ = some (.int .u8 t2) ∧ w'.cell? ⟨w.heap.size, 3, none⟩ = some (.int .u8 t3) ∧ Below W4.heap.size W4 w')
      (first
        | ((try dsimp only); exact held_eight s0 s1 s2 s3 q0 q1 q2 q3 hsz4 hq4 hb5.drew)
        | (go_split_ands; exact held_eight s0 s1 s2 s3 q0 q1 q2 q3 hsz4 hq4 (Below.trans (by assumption) (hbel.mono (by have := (by assumption : Below W4.heap.size W4 _).size; first | exact this | (simp; exact this))))))
      (first
       | (go_at_call 9; refine (table_new _).mono ?_; rintro e w2 ⟨rfl, hbel, htab, hstab, _⟩)
       | (go_at_call 15; go_split_ands; (with_reducible refine (hF1.out _ _ ?_ ?_ ?_).mono ?_); · assumption
          · exact htab
          · exact hstab
          rintro e w2 ⟨rfl, hbel⟩)
       | (go_at_call 15; go_split_ands; (with_reducible refine (hF2.out _ (by assumption)).mono ?_); rintro e w2 ⟨rfl, hbel⟩)
       | (go_at_call 15; go_split_ands; (with_reducible refine (hF3.out _ (by assumption)).mono ?_); rintro e w2 ⟨rfl, hbel⟩))
    go_wp2
    go_ret
    go_split_ands
    exact ⟨rfl, hBW4.trans ((by assumption : Below W4.heap.size W4 _).mono hBW4.size)⟩

theorem four_of8 {zs : List Int} (h : zs.length = 4) (hw : ∀ z ∈ zs, (Lit.int .u8 z).wf = true) : ∃ x0 x1 x2 x3 : Nat, zs = [(x0 : Int), (x1 : Int), (x2 : Int), (x3 : Int)] ∧ x0 < 256 ∧ x1 < 256 ∧ x2 < 256 ∧ x3 < 256 := by
  match zs, h, hw with
  | [a, b, c, d], _, hw =>
    obtain ⟨x0, rfl, h0⟩ := nat_of_u8 (hw a (by simp))
    obtain ⟨x1, rfl, h1⟩ := nat_of_u8 (hw b (by simp))
    obtain ⟨x2, rfl, h2⟩ := nat_of_u8 (hw c (by simp))
    obtain ⟨x3, rfl, h3⟩ := nat_of_u8 (hw d (by simp))
    exact ⟨x0, x1, x2, x3, rfl, h0, h1, h2, h3⟩

theorem crcFits_law (v0 v1 : Value) (D0 D1 : D) (W : World) (r0 : RdV Try.prog W 29 v0 D0) (r1 : RdV Try.prog W 36 v1 D1) :
    Calls Try.prog 6 #[v0, v1] W fun e w' => e = .returned (.bool true) ∧ Below W.heap.size W w' := by
  obtain ⟨a, len, cap, zs, rfl, _, hzl, hlc, hcm, hrc, hn, hz⟩ := r0.ints Try.underlying29 Try.underlying5 (by kernel_rfl)
  obtain ⟨ys, rfl, _, hyl, hyw⟩ := r1.intArray Try.underlying36 Try.underlying5 (by kernel_rfl) (by kernel_rfl)
  obtain ⟨l, hll, hl, _⟩ := hz.bytes
  obtain ⟨x0, x1, x2, x3, rfl, h0, h1, h2, h3⟩ := four_of8 hyl hyw
  obtain rfl : len = l.length := by omega
  rw [show Try.prog.bytesOf 5 = 1 by kernel_rfl] at hrc
  simp only [reachBytes] at hrc
  exact crcFits_walk a l cap x0 x1 x2 x3 W hl (by omega) hn (by omega) hcm h0 h1 h2 h3

end Go.Proofs.Ytjgmfbpdnjapkaa
