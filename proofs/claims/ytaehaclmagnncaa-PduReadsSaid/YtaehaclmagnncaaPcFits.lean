/-
  CRC: Fits.
-/
import Derived.Test.YtaehaclmagnncaaPcBytes
import Derived.Test.YtaehaclmagnncaaCommon
import Derived.Deep.RegionWith
import Derived.Deep.RegionHeld3
import Derived.Deep.DrawnRows
import Derived.Deep.QuietTactic
import Derived.BigQuiet
namespace Go.Proofs.Ytaehaclmagnncaa
set_option linter.unusedVariables false
set_option linter.unusedSimpArgs false
set_option linter.unnecessarySimpa false
open Go.RowKit
attribute [local go_sem ↓] Go.wp_at_zero Go.wp_at_succ

theorem sum_nil_below (a : Option Addr) (l : List Nat) (cap : Nat) (w0 : World) (hl0 : IsBytes w0 a l) (hm : l.length ≤ maxLen) :
    Calls Try.prog 21 #[.pointer none, .slice a l.length cap] w0 fun e w' => e = .returned (.int .u32 (sumPlain l)) ∧ Below w0.heap.size w0 w' :=
  (sum_nil a l cap w0 hl0 hm).mono fun _ _ ⟨he, hw⟩ => ⟨he, hw ▸ (Below.refl _ _).alloc (Nat.le_refl _) _⟩

theorem sum_nil_below' {a : Option Addr} (l : List Nat) (n cap : Nat) (w0 : World) (hn : l.length = n) (hl0 : IsBytes w0 a l) (hm : n ≤ 2 ^ 63 - 1) :
    Calls Try.prog 21 #[.pointer none, .slice a n cap] w0 fun e w' => e = .returned (.int .u32 (sumPlain l)) ∧ Below w0.heap.size w0 w' := by
  subst hn
  exact sum_nil_below a l cap w0 hl0 hm
theorem sumPlain_lt (l : List Nat) : sumPlain l < 4294967296 := by unfold sumPlain; omega
theorem bytes_below (x : Nat) (hx : x < 4294967296) (w : World) :
    Calls Try.prog 20 #[.int .u32 x] w fun e w' => e = .returned (.agg (fourV x)) ∧ Below w.heap.size w w' :=
  (bytes_any x hx w).mono fun _ _ ⟨he, hw⟩ => ⟨he, hw ▸ (Below.refl _ _).alloc (Nat.le_refl _) _⟩

/-- Fits, where there are fewer than four. -/
theorem fits_short (v : Value) (a : Option Addr) (n cap : Nat) (w : World) (hn : n < 4) :
    Calls Try.prog 26 #[v, .slice a n cap] w fun e w' => e = .returned (.bool false) ∧ Below w.heap.size w w' := by
  have hd : decide ((0 : Int) ≤ (n : Int) - 4) = false := by simp; omega
  have hd2 : decide ((4 : Int) ≤ (n : Int)) = false := by simp; omega
  have hd3 : decide (4 ≤ n) = false := by simp; omega
  go_enter Try.func26, Try.ntmps26
  go_wp2
  go_quiet (fail)
  go_wp2
  go_ret
  exact ⟨rfl, below_drewN (Below.refl _ _) _⟩

theorem IsBytes.below {w w' : World} {B : Nat} {a : Option Addr} {l : List Nat} (h : IsBytes w a l) (hb : Below B w w') (ha : ∀ x, a = some x → x.block < B) : IsBytes w' a l := by
  refine ⟨h.1, h.2.imp id ?_⟩
  rintro ⟨b, off, rfl, hc⟩
  exact ⟨b, off, rfl, fun i hi => (hb.cell (p := ⟨b, off + i, none⟩) (ha ⟨b, off, none⟩ rfl)).trans (hc i hi)⟩
theorem IsBytes.take {w : World} {a : Option Addr} {l : List Nat} (h : IsBytes w a l) (n : Nat) : IsBytes w a (l.take n) := by
  refine ⟨fun c hc => h.1 c (List.mem_of_mem_take hc), ?_⟩
  rcases h.2 with rfl | ⟨b, off, rfl, hc⟩
  · exact .inl (by simp)
  · refine .inr ⟨b, off, rfl, fun i hi => ?_⟩
    simp only [List.length_take] at hi
    rw [hc i (by omega)]
    simp [List.getD, show i < n by omega]

theorem array_at (b o c : Nat) (w : World) : (Instr.arrayAt 53 (.slice (some ⟨b, o, none⟩) 4 c)).run Try.prog w = .ok (.pointer (some ⟨b, o, none⟩)) w := by kernel_rfl

theorem size5 (w : World) : (sizeOf 5).run Try.prog w = .ok 1 w := by kernel_rfl
theorem cast_beq4 (x0 x1 x2 x3 c0 c1 c2 c3 : Nat) : ([(x0 : Int), (x1 : Int), (x2 : Int), (x3 : Int)] == [(c0 : Int), (c1 : Int), (c2 : Int), (c3 : Int)]) = ([x0, x1, x2, x3] == [c0, c1, c2, c3]) := by
  rw [Bool.eq_iff_iff]
  simp only [beq_iff_eq, List.cons.injEq, and_true]
  omega
theorem run_eq4 (x c0 c1 c2 c3 : Nat) (w : World) : (Op.equalIn 10000 53 (.agg (fourV x)) (.agg #[.int .u8 c0, .int .u8 c1, .int .u8 c2, .int .u8 c3])).run Try.prog w = .ok (four x == [c0, c1, c2, c3]) w := by
  have h := run_equalIn_array (P := Try.prog) (t := 53) (e := 5) (n := 4) (k := .u8) 9998 (by kernel_rfl) (by kernel_rfl) size5
    [((x % 256 : Nat) : Int), ((x / 256 % 256 : Nat) : Int), ((x / 65536 % 256 : Nat) : Int), ((x / 16777216 % 256 : Nat) : Int)] [(c0 : Int), (c1 : Int), (c2 : Int), (c3 : Int)] rfl rfl w
  rw [cast_beq4] at h
  exact h

set_option maxHeartbeats 2000000 in
set_option maxRecDepth 100000 in
theorem fits_gen (v : Value) (X : Nat) (hX : X < 4294967296) (b off : Nat) (n cap : Nat) (w : World) (c0 c1 c2 c3 : Nat) (hb : b < w.heap.size) (hnc : n + 4 ≤ cap) (hm : cap ≤ maxLen)
    (hsum : Hid (∀ W, Below w.heap.size w W → Calls Try.prog 21 #[v, .slice (some ⟨b, off, none⟩) n cap] W fun e w' => e = .returned (.int .u32 X) ∧ Below W.heap.size W w'))
    (h0 : w.cell? ⟨b, off + n, none⟩ = some (.int .u8 c0)) (h1 : w.cell? ⟨b, off + n + 1, none⟩ = some (.int .u8 c1))
    (h2 : w.cell? ⟨b, off + n + 2, none⟩ = some (.int .u8 c2)) (h3 : w.cell? ⟨b, off + n + 3, none⟩ = some (.int .u8 c3)) :
    Calls Try.prog 26 #[v, .slice (some ⟨b, off, none⟩) (n + 4) cap] w fun e w' => e = .returned (.bool (four X == [c0, c1, c2, c3])) ∧ Below w.heap.size w w' := by
  unfold maxLen at hm
  have hd1 : (0 : Int) ≤ (n : Int) := by omega
  have hd2 : decide ((0 : Int) ≤ (n : Int)) = true := by simp
  have hd3 : (n : Int) ≤ (n : Int) + 4 := by omega
  have hd4 : (n : Int) + 4 ≤ (cap : Int) := by omega
  have hd5 : ¬ cap = n := by omega
  have hd6 : n ≤ cap := by omega
  have hat := array_at b (off + n) (cap - n)
  have heq := run_eq4 X c0 c1 c2 c3
  have hd7 : (n : Int) ≤ (cap : Int) := by omega
  go_enter Try.func26, Try.ntmps26
  go_wp2
  go_region_held3 (fun w' => w'.cell? ⟨b, off + n, none⟩ = some (.int .u8 c0) ∧ w'.cell? ⟨b, off + n + 1, none⟩ = some (.int .u8 c1) ∧ w'.cell? ⟨b, off + n + 2, none⟩ = some (.int .u8 c2) ∧ w'.cell? ⟨b, off + n + 3, none⟩ = some (.int .u8 c3) ∧ Below w.heap.size w w')
    (first
      | (go_keep; done)
      | ((try dsimp only); exact ⟨h0, h1, h2, h3, Below.drew (Below.refl _ _)⟩)
      | (go_split_ands
         have hB : Below w.heap.size w _ := Below.trans (by assumption) (hbel.mono (by have := (by assumption : Below w.heap.size w _).size; first | exact this | (simp; exact this)))
         refine ⟨?_, ?_, ?_, ?_, hB⟩
         · rw [hB.cell hb]; exact h0
         · rw [hB.cell hb]; exact h1
         · rw [hB.cell hb]; exact h2
         · rw [hB.cell hb]; exact h3))
    (first
     | (go_at_call 21; go_split_ands; refine (hsum.out _ (by assumption)).mono ?_; rintro e w2 ⟨rfl, hbel⟩)
     | (go_at_call 20; refine (bytes_below _ hX _).mono ?_; rintro e w2 ⟨rfl, hbel⟩))
  go_wp2
  all_goals go_ret
  all_goals (go_split_ands; exact ⟨rfl, by assumption⟩)

theorem IsTab.below {w w' : World} {b : Nat} {T : Nat → Nat} {B : Nat} (h : IsTab w b T) (hb : Below B w w') (hB : b < B) : IsTab w' b T :=
  fun i hi => ⟨(h i hi).1, (hb.cell (p := ⟨b, i, none⟩) hB).trans (h i hi).2⟩

theorem fits_nil (b off : Nat) (l : List Nat) (n cap : Nat) (w : World) (c0 c1 c2 c3 : Nat) (hb : b < w.heap.size) (hnc : n + 4 ≤ cap) (hm : cap ≤ maxLen)
    (hl : IsBytes w (some ⟨b, off, none⟩) l) (hln : l.length = n)
    (h0 : w.cell? ⟨b, off + n, none⟩ = some (.int .u8 c0)) (h1 : w.cell? ⟨b, off + n + 1, none⟩ = some (.int .u8 c1))
    (h2 : w.cell? ⟨b, off + n + 2, none⟩ = some (.int .u8 c2)) (h3 : w.cell? ⟨b, off + n + 3, none⟩ = some (.int .u8 c3)) :
    Calls Try.prog 26 #[.pointer none, .slice (some ⟨b, off, none⟩) (n + 4) cap] w fun e w' => e = .returned (.bool (four (sumPlain l) == [c0, c1, c2, c3])) ∧ Below w.heap.size w w' :=
  fits_gen _ _ (sumPlain_lt l) b off n cap w c0 c1 c2 c3 hb hnc hm
    (fun W hW => sum_nil_below' l n cap W hln (hl.below hW (by intro x hx; cases hx; exact hb)) (by unfold maxLen at hm; omega)) h0 h1 h2 h3

theorem fits_tab (bt : Nat) (T : Nat → Nat) (b off : Nat) (l : List Nat) (n cap : Nat) (w : World) (c0 c1 c2 c3 : Nat) (hb : b < w.heap.size) (hnc : n + 4 ≤ cap) (hm : cap ≤ maxLen)
    (ht : IsTab w bt T) (hbt : bt < w.heap.size) (hl : IsBytes w (some ⟨b, off, none⟩) l) (hln : l.length = n)
    (h0 : w.cell? ⟨b, off + n, none⟩ = some (.int .u8 c0)) (h1 : w.cell? ⟨b, off + n + 1, none⟩ = some (.int .u8 c1))
    (h2 : w.cell? ⟨b, off + n + 2, none⟩ = some (.int .u8 c2)) (h3 : w.cell? ⟨b, off + n + 3, none⟩ = some (.int .u8 c3)) :
    Calls Try.prog 26 #[.pointer (some ⟨bt, 0, none⟩), .slice (some ⟨b, off, none⟩) (n + 4) cap] w fun e w' => e = .returned (.bool (four (sumBy T l) == [c0, c1, c2, c3])) ∧ Below w.heap.size w w' :=
  fits_gen _ _ (sumBy_lt T l) b off n cap w c0 c1 c2 c3 hb hnc hm
    (fun W hW => by
      subst hln
      exact (sum_tab bt T _ l cap W (ht.below hW hbt) (hl.below hW (by intro x hx; cases hx; exact hb)) (by unfold maxLen at hm ⊢; omega)).mono fun _ _ ⟨he, hw⟩ => ⟨he, hw ▸ Below.refl _ _⟩) h0 h1 h2 h3

def fitsB (L : List Nat) : Bool := four (sumPlain (L.take (L.length - 4))) == L.drop (L.length - 4)

theorem bytes_vars (x : Nat) (hx : x < 4294967296) (w : World) :
    Calls Try.prog 20 #[.int .u32 x] w fun e w' => ∃ c0 c1 c2 c3 : Nat, e = .returned (.agg #[.int .u8 c0, .int .u8 c1, .int .u8 c2, .int .u8 c3]) ∧ Hid (four x = [c0, c1, c2, c3]) ∧ Below w.heap.size w w' :=
  (bytes_below x hx w).mono fun _ _ ⟨he, hw⟩ => ⟨_, _, _, _, he, rfl, hw⟩

theorem last_four {w : World} {a : Option Addr} {L : List Nat} (h : IsBytes w a L) (hn : 4 ≤ L.length) : ∃ b off c0 c1 c2 c3, a = some ⟨b, off, none⟩ ∧ b < w.heap.size ∧ L.drop (L.length - 4) = [c0, c1, c2, c3] ∧
    w.cell? ⟨b, off + (L.length - 4), none⟩ = some (.int .u8 c0) ∧ w.cell? ⟨b, off + (L.length - 4) + 1, none⟩ = some (.int .u8 c1) ∧ w.cell? ⟨b, off + (L.length - 4) + 2, none⟩ = some (.int .u8 c2) ∧ w.cell? ⟨b, off + (L.length - 4) + 3, none⟩ = some (.int .u8 c3) := by
  obtain ⟨b, off, rfl, hc⟩ := h.2.resolve_left (by rintro rfl; simp at hn)
  refine ⟨b, off, L.getD (L.length - 4) 0, L.getD (L.length - 4 + 1) 0, L.getD (L.length - 4 + 2) 0, L.getD (L.length - 4 + 3) 0, rfl, ?_, ?_, ?_, ?_, ?_, ?_⟩
  · have := cell?_some_lt (hc 0 (by omega))
    simpa using this
  · apply List.ext_getElem?
    intro i
    rw [List.getElem?_drop]
    by_cases hi : i < 4
    · rcases (by omega : i = 0 ∨ i = 1 ∨ i = 2 ∨ i = 3) with rfl | rfl | rfl | rfl
      · simp [List.getD, show L.length - 4 < L.length by omega]
      · simp [List.getD, show L.length - 4 + 1 < L.length by omega]
      · simp [List.getD, show L.length - 4 + 2 < L.length by omega]
      · simp [List.getD, show L.length - 4 + 3 < L.length by omega]
    · rw [List.getElem?_eq_none (by omega), List.getElem?_eq_none (by simp; omega)]
  · exact hc _ (by omega)
  · rw [Nat.add_assoc]; exact hc _ (by omega)
  · rw [Nat.add_assoc]; exact hc _ (by omega)
  · rw [Nat.add_assoc]; exact hc _ (by omega)

/-- Fits, by the table that is made, of whatever bytes. -/
theorem fits_nil_any (a : Option Addr) (L : List Nat) (n cap : Nat) (w : World) (hl : IsBytes w a L) (hn : L.length = n) (hn4 : 4 ≤ n) (hc : n ≤ cap) (hm : cap ≤ maxLen) :
    Calls Try.prog 26 #[.pointer none, .slice a n cap] w fun e w' => e = .returned (.bool (fitsB L)) ∧ Below w.heap.size w w' := by
  obtain ⟨b, off, c0, c1, c2, c3, rfl, hb, hd, h0, h1, h2, h3⟩ := last_four hl (by omega)
  have h := fits_nil b off (L.take (L.length - 4)) (L.length - 4) cap w c0 c1 c2 c3 hb (by omega) hm (hl.take _) (by simp) h0 h1 h2 h3
  rw [show L.length - 4 + 4 = n by omega] at h
  rw [fitsB, hd]
  exact h
theorem fits_tab_any (bt : Nat) (a : Option Addr) (L : List Nat) (n cap : Nat) (w : World) (ht : IsTab w bt tab) (hbt : bt < w.heap.size) (hl : IsBytes w a L) (hn : L.length = n) (hn4 : 4 ≤ n) (hc : n ≤ cap) (hm : cap ≤ maxLen) :
    Calls Try.prog 26 #[.pointer (some ⟨bt, 0, none⟩), .slice a n cap] w fun e w' => e = .returned (.bool (fitsB L)) ∧ Below w.heap.size w w' := by
  obtain ⟨b, off, c0, c1, c2, c3, rfl, hb, hd, h0, h1, h2, h3⟩ := last_four hl (by omega)
  have h := fits_tab bt tab b off (L.take (L.length - 4)) (L.length - 4) cap w c0 c1 c2 c3 hb (by omega) hm ht hbt (hl.take _) (by simp) h0 h1 h2 h3
  rw [show L.length - 4 + 4 = n by omega, sum_same _ (hl.take _).1] at h
  rw [fitsB, hd]
  exact h

theorem fitsB_append (l t : List Nat) (ht : t.length = 4) : fitsB (l ++ t) = (four (sumPlain l) == t) := by
  unfold fitsB
  rw [List.length_append, ht, Nat.add_sub_cancel, List.take_left, List.drop_left]

end Go.Proofs.Ytaehaclmagnncaa
