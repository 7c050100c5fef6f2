/-
  CRC: the law CrcRest.
-/
import Derived.Test.YtjgmfbpdnjapkaaCrcLawFits
import Derived.Test.YtjgmfbpdnjapkaaCrcBurstPlain
namespace Go.Proofs.Ytjgmfbpdnjapkaa
set_option linter.unusedVariables false
set_option linter.unusedSimpArgs false
open Go.RowKit
attribute [local go_sem ↓] Go.wp_at_zero Go.wp_at_succ

theorem rest_law (l : List Nat) (hl : ∀ c ∈ l, c < 256) : sumPlain (l ++ four (sumPlain l)) = sumPlain [0, 0, 0, 0] := by
  have hs : sumPlain l < 4294967296 := sumPlain_lt l
  have h1 := (fits_iff l (four (sumPlain l)) hl (by intro c hc; unfold four at hc; simp at hc; omega) rfl).1 rfl
  have h2 : runPlain [0, 0, 0, 0] = halves 4294967295 32 := by
    unfold runPlain
    rw [run_num _ (by simp)]
    rfl
  unfold sumPlain
  unfold sumPlain at h1
  rw [h1, h2]

theorem zeros_new (Y : World) : IsBytes (Y.alloc (.cells #[.int .u8 0, .int .u8 0, .int .u8 0, .int .u8 0] 5)) (some ⟨Y.heap.size, 0, none⟩) [0, 0, 0, 0] :=
  block_four (c0 := 0) (c1 := 0) (c2 := 0) (c3 := 0) (heap_alloc_new Y _) (by decide) (by decide) (by decide) (by decide)
theorem IsBytes.grown {w w' : World} {a : Option Addr} {l : List Nat} {row : Option Nat} (h : IsBytes w a l) (hg : w.grownBy w' row) (hr : ∀ x, a = some x → some x.block ≠ row) : IsBytes w' a l := by
  refine ⟨h.1, h.2.imp id ?_⟩
  rintro ⟨b, off, rfl, hc⟩
  refine ⟨b, off, rfl, fun i hi => ?_⟩
  rw [← hc i hi]
  exact World.cell?_of_block (w := w) (hg.block b (cell?_some_lt (hc i hi)) (hr _ rfl))
theorem Own.block_lt {w : World} {base : Nat} {v : Value} {l : List Nat} (h : Own w base v l) : ∀ k, v.ownBlock = some k → k < w.heap.size := by
  intro k hk
  rcases h.1.2 with ⟨rfl, _⟩ | ⟨g, cap, cur, rfl, hg, hh, _⟩
  · simp [Value.ownBlock] at hk
  · simp [Value.ownBlock] at hk
    subst hk
    by_cases hb : g < w.heap.size
    · exact hb
    · rw [Array.getElem?_eq_none (by omega)] at hh; cases hh

abbrev zob : Obj := .cells #[.int .u8 0, .int .u8 0, .int .u8 0, .int .u8 0] 5

theorem sum_nil_zero {a : Option Addr} (L : List Nat) (n cap : Nat) (w0 : World) (hn : L.length = n) (hl0 : IsBytes w0 a L) (hm : n ≤ 2 ^ 63 - 1) (R : Nat) (hz : sumPlain L = R) :
    Calls Try.prog 11 #[.pointer none, .slice a n cap] w0 fun e w' => e = .returned (.int .u32 R) ∧ Below w0.heap.size w0 w' := by
  have := sum_nil_below' L n cap w0 hn hl0 hm
  rwa [hz] at this

set_option maxHeartbeats 8000000 in
set_option maxRecDepth 100000 in
theorem crcRest_walk (a : Option Addr) (l : List Nat) (cap : Nat) (w : World) (hl : IsBytes w a l) (hm : l.length ≤ 140737488351232) (hc0 : a = none → cap = 0) :
    Calls Try.prog 5 #[.slice a l.length cap] w fun e w' => e = .returned (.bool true) ∧ Below w.heap.size w w' := by
  have hmk : ∀ w, (Instr.makeSlice 29 (.int .i64 4) (.int .i64 4)).run Try.prog w = .ok (.slice (some ⟨w.heap.size, 0, none⟩) 4 4) (w.alloc zob) := fun _ => by kernel_rfl
  have hz4 : ∀ w, (zeroValue 36).run Try.prog w = .ok (.agg #[.int .u8 0, .int .u8 0, .int .u8 0, .int .u8 0]) w := fun _ => by kernel_rfl
  have hmx : l.length ≤ maxLen := by unfold maxLen; omega
  go_enter Try.func5, Try.ntmps5
  go_wp2_with fail
  refine (stands_any _).mono ?_
  rintro e w1 ⟨rfl, hb1⟩
  go_wp2_with fail
  refine (sum_nil_below _ _ _ _ (hl.of_below hb1) hmx).mono ?_
  rintro e w2 ⟨rfl, hb2⟩
  go_wp2_with fail
  refine (bytes_vars _ (sumPlain_lt l) _).mono ?_
  rintro e w3 ⟨c0, c1, c2, c3, rfl, hfour, hb3⟩
  go_wp2
  have hfl := four_lt hfour.out
  have hB3 := hb1.trans ((hb2.mono hb1.size).trans (hb3.mono (Nat.le_trans hb1.size hb2.size)))
  have hsW : (w3.alloc (.cells #[.int .u8 c0, .int .u8 c1, .int .u8 c2, .int .u8 c3] 36)).heap[w3.heap.size]? = some (.cells #[.int .u8 c0, .int .u8 c1, .int .u8 c2, .int .u8 c3] 36) := heap_alloc_new w3 _
  have hBW : Below w.heap.size w (w3.alloc (.cells #[.int .u8 c0, .int .u8 c1, .int .u8 c2, .int .u8 c3] 36)) := hB3.alloc hB3.size _
  clear hb1 hb2 hb3 hB3
  generalize w3.alloc (.cells #[.int .u8 c0, .int .u8 c1, .int .u8 c2, .int .u8 c3] 36) = W at *
  generalize w3.heap.size = sb at *
  have hlW := hl.of_below hBW
  have hsb := block_four hsW hfl.1 hfl.2.1 hfl.2.2.1 hfl.2.2.2
  have hrest : sumPlain (l ++ [c0, c1, c2, c3]) = sumPlain [0, 0, 0, 0] := by rw [← hfour.out]; exact rest_law l hl.1
  have HREST := Lib.hid hrest
  clear hrest hsW
  have hLs : (l ++ [c0, c1, c2, c3]).length = l.length + 4 := by simp
  obtain ⟨R, HZ⟩ : ∃ R, Hid (sumPlain [0, 0, 0, 0] = R) := ⟨_, rfl⟩
  rw [HZ.out] at HREST
  have hself : ((R : Int) == (R : Int)) = true := by simp
  have hl4 : l.length + 4 ≤ 2 ^ 63 - 1 := by omega
  go_region_law (first
    | (refine step_app (by rfl) _ _ (by rfl) W.heap.size _ [] (by rfl) (Own.nil _ _) a cap l (by rfl) (by exact hlW) hc0 (by simp; omega) (by simp) ?_
       intro v1 W1 hown1 hb1 hg1
       have hbW1 : Below W.heap.size W W1 := Below.trans (Below.drew (Below.refl _ W)) hb1
       have hbase1 : W.heap.size ≤ W1.heap.size := hbW1.size)
    | (refine step_app (by rfl) _ _ (by rfl) (W.heap.size + 1) _ [] (by rfl) (Own.nil _ _) a cap l (by rfl) (by exact hlW.alloc zob) hc0 (by simp; omega) (by simp) ?_
       intro v1 W1 hown1 hb1 hg1
       have hbW1 : Below W.heap.size W W1 := Below.trans (Below.drew (Below.alloc (Below.refl _ W) (Nat.le_refl _) zob)) (hb1.mono (Nat.le_succ _))
       have hbase1 : W.heap.size + 1 ≤ W1.heap.size := by have := hb1.size; simpa using this
       have hz1 : IsBytes W1 (some ⟨W.heap.size, 0, none⟩) [0, 0, 0, 0] := IsBytes.below (w := (W.alloc zob).drew) (by exact zeros_new W) hb1 (by intro x hx; cases hx; simp))
    | (refine step_app (by rfl) _ _ (by rfl) _ _ ([] ++ l) (by rfl) (by exact hown1) (some ⟨sb, 0, none⟩) 4 [c0, c1, c2, c3] (by rfl) (by exact hsb.of_below hbW1) (by simp) (by simp; omega) (by exact hbase1) ?_
       intro v2 W2 hown2 hb2 hg2
       rw [List.nil_append] at hown2
       obtain ⟨a5, cap5, hv5, hl5, _, _, _⟩ := hown2.form
       rw [hLs] at hv5
       have hbW2 : Below W.heap.size W W2 := hbW1.trans (hb2.mono (by omega))
       first
         | (have hz2 : IsBytes W2 (some ⟨W.heap.size, 0, none⟩) [0, 0, 0, 0] := hz1.below hb2 (by intro x hx; cases hx; simp))
         | skip
       subst hv5)
    | (refine step_app (by rfl) _ _ (by rfl) _ _ ([] ++ l) (by rfl) (by exact hown1.alloc zob) (some ⟨sb, 0, none⟩) 4 [c0, c1, c2, c3] (by rfl) (by exact (hsb.of_below hbW1).alloc zob) (by simp) (by simp; omega) (by simp; omega) ?_
       intro v2 W2 hown2 hb2 hg2
       rw [List.nil_append] at hown2
       obtain ⟨a5, cap5, hv5, hl5, _, _, _⟩ := hown2.form
       rw [hLs] at hv5
       have hbW2 : Below W.heap.size W W2 := (hbW1.alloc hbW1.size zob).trans (hb2.mono (by omega))
       have hz2 : IsBytes W2 (some ⟨W1.heap.size, 0, none⟩) [0, 0, 0, 0] := (zeros_new W1).grown hg2 (by intro x hx; cases hx; intro h; have := hown1.block_lt _ h.symm; simp at this)
       subst hv5)
    | (go_simp
       go_at_call 11
       (with_reducible refine (sum_nil_zero (l ++ [c0, c1, c2, c3]) (l.length + 4) cap5 _ hLs ?_ hl4 R HREST.out).mono ?_)
       · exact hl5
       rintro e W3 ⟨rfl, hb3⟩
       have hbW3 : Below W.heap.size W W3 := hbW2.trans (hb3.mono hbW2.size)
       first
         | (have hz3 := hz2.of_below hb3)
         | skip)
    | (go_simp
       go_at_call 11
       (with_reducible refine (sum_nil_zero (l ++ [c0, c1, c2, c3]) (l.length + 4) cap5 _ hLs ?_ hl4 R HREST.out).mono ?_)
       · exact hl5.alloc zob
       rintro e W3 ⟨rfl, hb3⟩
       have hbW3 : Below W.heap.size W W3 := (hbW2.alloc hbW2.size zob).trans (hb3.mono (by have := hbW2.size; simp; omega))
       have hz3 : IsBytes W3 (some ⟨W2.heap.size, 0, none⟩) [0, 0, 0, 0] := (zeros_new W2).of_below hb3)
    | (go_simp
       go_at_call 11
       (with_reducible refine (sum_nil_zero [0, 0, 0, 0] 4 4 _ rfl ?_ (by omega) R HZ.out).mono ?_)
       · exact hz3
       rintro e W4 ⟨rfl, hb4⟩
       have hbW4 : Below W.heap.size W W4 := hbW3.trans (hb4.mono hbW3.size))
    | (go_simp
       go_at_call 11
       (with_reducible refine (sum_nil_zero [0, 0, 0, 0] 4 4 _ rfl ?_ (by omega) R HZ.out).mono ?_)
       · exact zeros_new W3
       rintro e W4 ⟨rfl, hb4⟩
       have hbW4 : Below W.heap.size W W4 := (hbW3.alloc hbW3.size zob).trans (hb4.mono (by have := hbW3.size; simp; omega))))
  all_goals go_wp2
  all_goals go_ret
  all_goals exact ⟨rfl, hBW.trans (hbW4.mono hBW.size)⟩

theorem crcRest_law (v0 : Value) (D0 : D) (W : World) (r0 : RdV Try.prog W 29 v0 D0) :
    Calls Try.prog 5 #[v0] W fun e w' => e = .returned (.bool true) ∧ Below W.heap.size W w' := by
  obtain ⟨a, len, cap, zs, rfl, _, hzl, hlc, hcm, hrc, hn, hz⟩ := r0.ints Try.underlying29 Try.underlying5 (by kernel_rfl)
  obtain ⟨l, hll, hl, _⟩ := hz.bytes
  obtain rfl : len = l.length := by omega
  rw [show Try.prog.bytesOf 5 = 1 by kernel_rfl] at hrc
  simp only [reachBytes] at hrc
  exact crcRest_walk a l cap W hl (by omega) hn

end Go.Proofs.Ytjgmfbpdnjapkaa
