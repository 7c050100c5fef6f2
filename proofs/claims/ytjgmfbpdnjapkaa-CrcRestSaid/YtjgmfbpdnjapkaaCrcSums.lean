/-
  CRC: the law CrcSums.
-/
import Derived.Test.YtjgmfbpdnjapkaaCrcTable
namespace Go.Proofs.Ytjgmfbpdnjapkaa
set_option linter.unusedVariables false
set_option linter.unusedSimpArgs false
set_option linter.unnecessarySimpa false
open Go.RowKit

theorem nat_of_u32 {x : Int} (h : (Lit.int .u32 x).wf = true) : ∃ n : Nat, x = (n : Int) ∧ n < 4294967296 := by
  simp only [Lit.wf, IntKind.min, IntKind.max, IntKind.signed, IntKind.bits, Bool.and_eq_true] at h
  exact ⟨x.toNat, by simp at h; omega, by simp at h; omega⟩
theorem nat_of_u8 {x : Int} (h : (Lit.int .u8 x).wf = true) : ∃ n : Nat, x = (n : Int) ∧ n < 256 := by
  simp only [Lit.wf, IntKind.min, IntKind.max, IntKind.signed, IntKind.bits, Bool.and_eq_true] at h
  exact ⟨x.toNat, by simp at h; omega, by simp at h; omega⟩

/-- A row of bytes as it came in, told in natural numbers. -/
theorem IsInts.bytes {w : World} {a : Option Addr} {zs : List Int} (h : IsInts .u8 w a zs) : ∃ l : List Nat, l.length = zs.length ∧ IsBytes w a l ∧ ∀ x, a = some x → l ≠ [] → x.block < w.heap.size := by
  refine ⟨zs.map Int.toNat, by simp, ⟨?_, ?_⟩, ?_⟩
  · intro c hc
    obtain ⟨z, hz, rfl⟩ := List.mem_map.1 hc
    obtain ⟨n, rfl, hn⟩ := nat_of_u8 (h.1 z hz)
    simpa using hn
  · rcases h.2 with rfl | ⟨b, off, rfl, _, hc⟩
    · exact .inl rfl
    · refine .inr ⟨b, off, rfl, fun i hi => ?_⟩
      simp only [List.length_map] at hi
      rw [hc i hi]
      have hz : zs[i] ∈ zs := List.getElem_mem hi
      obtain ⟨n, hn, _⟩ := nat_of_u8 (h.1 _ hz)
      simp [List.getD, hi, hn]
  · rintro x rfl hne
    rcases h.2 with rfl | ⟨b, off, he, hb, _⟩
    · exact absurd rfl hne
    · cases he; exact hb

theorem index_four (x0 x1 x2 x3 : Nat) (k : Nat) (hk : k < 4) (w : World) :
    (Instr.index 30 (.agg #[.int .u32 x0, .int .u32 x1, .int .u32 x2, .int .u32 x3]) (.int .i64 k)).run Try.prog w = .ok (.int .u32 ((([x0, x1, x2, x3].getD k 0) : Nat) : Int)) w := by
  rcases (by omega : k = 0 ∨ k = 1 ∨ k = 2 ∨ k = 3) with rfl | rfl | rfl | rfl <;> kernel_rfl

theorem IsBytes.of_below {w w' : World} {a : Option Addr} {l : List Nat} (h : IsBytes w a l) (hb : Below w.heap.size w w') : IsBytes w' a l := by
  refine ⟨h.1, h.2.imp id ?_⟩
  rintro ⟨b, off, rfl, hc⟩
  exact ⟨b, off, rfl, fun i hi => (hb.cell (p := ⟨b, off + i, none⟩) (cell?_some_lt (hc i hi))).trans (hc i hi)⟩

def putT (T : Nat → Nat) (j v : Nat) : Nat → Nat := fun i => if i = j then v else T i
theorem isTab_put {w : World} {t : Nat} {T : Nat → Nat} (h : IsTab w t T) (j v : Nat) (hv : v < 4294967296) : IsTab (w.setCell ⟨t, j, none⟩ (.int .u32 (v : Int))) t (putT T j v) := by
  intro i hi
  unfold putT
  by_cases hij : i = j
  · subst hij
    rw [if_pos rfl]
    exact ⟨hv, World.cell?_setCell_same w _ _ (h i hi).2⟩
  · rw [if_neg hij]
    exact ⟨(h i hi).1, by rw [World.cell?_setCell_other _ _ _ _ (by intro he; injection he with _ he; exact hij he.symm)]; exact (h i hi).2⟩

set_option maxHeartbeats 4000000 in
set_option maxRecDepth 100000 in
theorem crcSums_walk (a : Option Addr) (l : List Nat) (cap : Nat) (x0 x1 x2 x3 : Nat) (w : World) (hl : IsBytes w a l) (hm : l.length ≤ maxLen)
    (h0 : x0 < 4294967296) (h1 : x1 < 4294967296) (h2 : x2 < 4294967296) (h3 : x3 < 4294967296) :
    Calls Try.prog 4 #[.slice a l.length cap, .agg #[.int .u32 x0, .int .u32 x1, .int .u32 x2, .int .u32 x3]] w fun e w' => e = .returned (.bool true) ∧ Below w.heap.size w w' := by
  have hsame := sum_same l hl.1
  go_enter Try.func4, Try.ntmps4
  go_wp2_with fail
  have hlA : IsBytes (w.alloc (.cells #[.int .u32 x0, .int .u32 x1, .int .u32 x2, .int .u32 x3] 30)) a l := hl.alloc _
  have hBA : Below w.heap.size w (w.alloc (.cells #[.int .u32 x0, .int .u32 x1, .int .u32 x2, .int .u32 x3] 30)) := (Below.refl _ _).alloc (Nat.le_refl _) _
  have hc0 : (w.alloc (.cells #[.int .u32 x0, .int .u32 x1, .int .u32 x2, .int .u32 x3] 30)).cell? ⟨w.heap.size, 0, none⟩ = some (.int .u32 x0) := by simp
  have hc1 : (w.alloc (.cells #[.int .u32 x0, .int .u32 x1, .int .u32 x2, .int .u32 x3] 30)).cell? ⟨w.heap.size, 1, none⟩ = some (.int .u32 x1) := by simp
  have hc2 : (w.alloc (.cells #[.int .u32 x0, .int .u32 x1, .int .u32 x2, .int .u32 x3] 30)).cell? ⟨w.heap.size, 2, none⟩ = some (.int .u32 x2) := by simp
  have hc3 : (w.alloc (.cells #[.int .u32 x0, .int .u32 x1, .int .u32 x2, .int .u32 x3] 30)).cell? ⟨w.heap.size, 3, none⟩ = some (.int .u32 x3) := by simp
  have hsA : w.heap.size < (w.alloc (.cells #[.int .u32 x0, .int .u32 x1, .int .u32 x2, .int .u32 x3] 30)).heap.size := by simp
  generalize w.alloc (.cells #[.int .u32 x0, .int .u32 x1, .int .u32 x2, .int .u32 x3] 30) = wA at *
  refine (stands_any _).mono ?_
  rintro e w1 ⟨rfl, hb1⟩
  go_wp2_with fail
  refine (table_new _).mono ?_
  rintro e w2 ⟨rfl, hb2, ht2, hs2, hf2⟩
  go_wp2_with fail
  have hAB := hb1.trans (hb2.mono hb1.size)
  refine (sum_tab _ _ _ _ _ _ ht2 (hlA.of_below hAB) hm).mono ?_
  rintro e w2 ⟨rfl, rfl⟩
  go_wp2_with fail
  refine (plain_any _ _ _ _ (hlA.of_below hAB) hm).mono ?_
  rintro e w2 ⟨rfl, rfl⟩
  have hne : (((sumBy tab l : Nat) : Int) != ((sumPlain l : Nat) : Int)) = false := by rw [hsame]; simp
  have hne2 : (((sumPlain l : Nat) : Int) != ((sumPlain l : Nat) : Int)) = false := by simp
  clear hsame
  go_wp2_with fail
  refine (sum_nil_below _ _ _ _ (hlA.of_below hAB) hm).mono ?_
  rintro e w3 ⟨rfl, hb3⟩
  have ht3 := ht2.below hb3 hs2
  have hf3 : ∀ i, w3.frozen? ⟨w1.heap.size, i, none⟩ = false := fun i => (hb3.frozen (p := ⟨w1.heap.size, i, none⟩) hs2).trans (hf2 i)
  have hAC := hAB.trans (hb3.mono hAB.size)
  have ht1 : w.heap.size < w1.heap.size := Nat.lt_of_lt_of_le hsA hb1.size
  have hs3 : w1.heap.size < w3.heap.size := Nat.lt_of_lt_of_le hs2 hb3.size
  clear ht2 hf2 hb1 hb2 hb3 hAB hs2
  go_wp2_with fail
  refine (plain_any _ _ _ _ (hlA.of_below hAC) hm).mono ?_
  rintro e w3 ⟨rfl, rfl⟩
  have hl3 := hlA.of_below hAC
  have hB3 := hBA.trans (hAC.mono (Nat.le_of_lt hsA))
  have hk0 := (hAC.cell (p := ⟨w.heap.size, 0, none⟩) hsA).trans hc0
  have hk1 := (hAC.cell (p := ⟨w.heap.size, 1, none⟩) hsA).trans hc1
  have hk2 := (hAC.cell (p := ⟨w.heap.size, 2, none⟩) hsA).trans hc2
  have hk3 := (hAC.cell (p := ⟨w.heap.size, 3, none⟩) hsA).trans hc3
  clear hc0 hc1 hc2 hc3 hlA hBA hAC hsA
  generalize w1.heap.size = t at *
  have hX : ∀ k, k < 4 → [x0, x1, x2, x3].getD k 0 < 4294967296 := by
    intro k hk
    rcases (by omega : k = 0 ∨ k = 1 ∨ k = 2 ∨ k = 3) with rfl | rfl | rfl | rfl <;> simpa
  have HX := Lib.hid hX
  clear hX
  go_wp2
  go_loopw [29] (fun i wr => ∃ (k : Nat) (T : Nat → Nat), k ≤ 4 ∧ i = .int .i64 k ∧ IsTab wr t T ∧ (∀ i, wr.frozen? ⟨t, i, none⟩ = false) ∧ Below w.heap.size w wr) (fun i _ => 4 - (intOf i).toNat)
  case atStart => exact ⟨0, tab, by omega, rfl, ht3, hf3, hB3⟩
  case round =>
    clear ht3 hf3 hB3 hl3 hk0 hk1 hk2 hk3 hs3
    obtain ⟨k, T, hk, rfl, htr, hfr, hBr⟩ := hrel
    by_cases hlt : k < 4
    · have hx := HX.out k hlt
      have hidx := index_four x0 x1 x2 x3 k hlt
      generalize [x0, x1, x2, x3].getD k 0 = x at *
      have hj : (x + k) % 256 < 256 := Nat.mod_lt _ (by decide)
      have htc := (htr _ hj).2
      have htl := (htr _ hj).1
      have hff := hfr ((x + k) % 256)
      have hxor := u32_xor_nat _ _ htl hx
      have hlt2 : T ((x + k) % 256) ^^^ x < 4294967296 := Nat.xor_lt_two_pow (n := 32) htl hx
      have hnew := isTab_put htr ((x + k) % 256) _ hlt2
      have hB' : Below w.heap.size w (wr.setCell ⟨t, (x + k) % 256, none⟩ (.int .u32 ((T ((x + k) % 256) ^^^ x : Nat) : Int))) := hBr.setCell (by simp; omega) _
      have hfr' : ∀ i, (wr.setCell ⟨t, (x + k) % 256, none⟩ (.int .u32 ((T ((x + k) % 256) ^^^ x : Nat) : Int))).frozen? ⟨t, i, none⟩ = false := fun i => by rw [World.frozen?_setCell]; exact hfr i
      have hi1 : (0 : Int) ≤ ((x : Int) + (k : Int)) % 256 := by omega
      have hi2 : ((x : Int) + (k : Int)) % 256 < 256 := by omega
      have hi3 : IntKind.i64.wrap ((x : Int) + (k : Int)) = (x : Int) + (k : Int) := IntWalk.i64_in _ (by omega)
      have HN := Lib.hid hnew
      have HF := Lib.hid hfr'
      have HB := Lib.hid hB'
      clear hnew hfr' hB' htr hfr hBr
      go_wp2
      go_region
      all_goals go_wp2
      go_roundw
      case rel => exact ⟨k + 1, _, by omega, by go_num, HN.out, HF.out, HB.out.drew⟩
      case measure => simp [intOf]; omega
    · obtain rfl : k = 4 := by omega
      have hlr := hl.of_below hBr
      have hself : (((sumBy T l : Nat) : Int) == ((sumBy T l : Nat) : Int)) = true := by simp
      go_wp2
      go_quiet (first | (go_at_call 11; refine Calls.quiet_of_same ((sum_tab _ T _ _ _ _ (by exact htr) (by exact hlr) hm).mono fun e w' h => ⟨h.1, h.2.symm⟩)) | (go_at_call 13; refine Calls.quiet_of_same ((refsum_any _ T _ _ _ _ (by exact htr) (by exact hlr) hm).mono fun e w' h => ⟨h.1, h.2.symm⟩)))
      go_wp2
      go_ret
      exact ⟨rfl, below_drewN hBr _⟩

theorem four_of {zs : List Int} (h : zs.length = 4) (hw : ∀ z ∈ zs, (Lit.int .u32 z).wf = true) : ∃ x0 x1 x2 x3 : Nat, zs = [(x0 : Int), (x1 : Int), (x2 : Int), (x3 : Int)] ∧ x0 < 4294967296 ∧ x1 < 4294967296 ∧ x2 < 4294967296 ∧ x3 < 4294967296 := by
  match zs, h, hw with
  | [a, b, c, d], _, hw =>
    obtain ⟨x0, rfl, h0⟩ := nat_of_u32 (hw a (by simp))
    obtain ⟨x1, rfl, h1⟩ := nat_of_u32 (hw b (by simp))
    obtain ⟨x2, rfl, h2⟩ := nat_of_u32 (hw c (by simp))
    obtain ⟨x3, rfl, h3⟩ := nat_of_u32 (hw d (by simp))
    exact ⟨x0, x1, x2, x3, rfl, h0, h1, h2, h3⟩

theorem crcSums_law (v0 v1 : Value) (D0 D1 : D) (W : World) (r0 : RdV Try.prog W 29 v0 D0) (r1 : RdV Try.prog W 30 v1 D1) :
    Calls Try.prog 4 #[v0, v1] W fun e w' => e = .returned (.bool true) ∧ Below W.heap.size W w' := by
  obtain ⟨a, len, cap, zs, rfl, _, hzl, hlc, hcm, _, _, hz⟩ := r0.ints Try.underlying29 Try.underlying5 (by kernel_rfl)
  obtain ⟨ys, rfl, _, hyl, hyw⟩ := r1.intArray Try.underlying30 Try.underlying22 (by kernel_rfl) (by kernel_rfl)
  obtain ⟨l, hll, hl, _⟩ := hz.bytes
  obtain ⟨x0, x1, x2, x3, rfl, h0, h1, h2, h3⟩ := four_of hyl hyw
  obtain rfl : len = l.length := by omega
  exact crcSums_walk a l cap x0 x1 x2 x3 W hl (by omega) h0 h1 h2 h3

end Go.Proofs.Ytjgmfbpdnjapkaa
