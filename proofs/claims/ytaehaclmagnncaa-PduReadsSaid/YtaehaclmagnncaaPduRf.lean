-- slots 17
/-
  pdu: the reference's fits, broken.
-/
import Derived.Test.YtaehaclmagnncaaPduRn
namespace Go.Proofs.Ytaehaclmagnncaa
set_option linter.unusedVariables false
set_option linter.unusedSimpArgs false
open Go.RowKit
attribute [local go_sem ↓] Go.wp_at_zero Go.wp_at_succ

set_option maxRecDepth 100000 in
set_option maxHeartbeats 2000000 in
theorem fitsR_any (a : Option Addr) (l : List Nat) (n cap : Nat) (w : World) (hl : IsBytes w a l) (hn : l.length = n) (hn4 : 4 ≤ n) (hc : n ≤ cap) (hm : n ≤ 140737488355328) :
    Calls Try.prog 29 #[.slice a n cap] w fun e w' => e = .returned (.bool (fitsB l)) ∧ Below w.heap.size w w' := by
  obtain ⟨b, off, rfl, hcell⟩ := hl.2.resolve_left (by rintro rfl; simp at hn; omega)
  obtain ⟨k, hk⟩ : ∃ k, n = k + 4 := ⟨n - 4, by omega⟩
  have hkc : ¬ cap = k := by omega
  have h1 : (l.take k).length = k := by rw [List.length_take]; omega
  have h2 : (l.drop k).length = 4 := by rw [List.length_drop]; omega
  have hby1 : IsBytes w (some ⟨b, off, none⟩) (l.take k) := hl.take k
  have hby2 : IsBytes w (some ⟨b, off + k, none⟩) (l.drop k) := by
    have := isBytes_cut hl cap k n (by omega) (by omega) (by omega)
    unfold cutA at this
    rw [if_neg hkc, List.take_of_length_le (by omega)] at this
    simpa [Go.WideShapes.add_plain] using this
  have ft : fitsB l = decide (sumd (l.take k) = l.drop k) := by
    unfold fitsB
    rw [show l.length - 4 = k by omega]
    by_cases h : sumd (l.take k) = l.drop k
    · rw [decide_eq_true h]; unfold sumd at h; simp [h]
    · rw [decide_eq_false h]; unfold sumd at h; simpa using h
  have hbq := strB_beq (sumd (l.take k)) (l.drop k) (sumd_lt _) (fun c hc => hl.1 c (List.mem_of_mem_drop hc))
  rw [← ft] at hbq
  have kB : ∀ w', Below w.heap.size w w' → (convert 23 9 (.slice (some ⟨b, off + k, none⟩) 4 (cap - k))).run Try.prog w' = .ok (.string (strB (l.drop k))) w' := fun w' hw => conv_bytes (hby2.of_below hw) h2.symm
  have HSm := Lib.hid (fun w' (hw : Below w.heap.size w w') => sumR_any (a := some ⟨b, off, none⟩) (l.take k) k cap w' h1 (hby1.of_below hw) (by omega))
  subst hk
  obtain ⟨bf, hbf⟩ : ∃ bf, bf = fitsB l := ⟨_, rfl⟩
  rw [← hbf] at hbq
  have HBF := Lib.hid hbf
  clear hl hn hcell h1 h2 hby1 hby2 ft hbf
  have w0 : IntKind.i64.wrap (((k + 4 : Nat) : Int) - 4) = (k : Int) := by rw [IntWalk.i64_in _ (by omega)]; omega
  have w1 : ((k : Int) + 4 - 4) = (k : Int) := by omega
  have z1 : (0 : Int) ≤ (k : Int) := by omega
  have z2 : (k : Int) ≤ (cap : Int) := by omega
  have z3 : (k : Int) ≤ (k : Int) + 4 := by omega
  have z4 : k + 4 - k = 4 := by omega
  have z5 : k ≤ cap := by omega
  go_enter Try.func29, Try.ntmps29
  go_upto_region 2 with fail

  refine wp_region_held_drew (S := fun w' => Below w.heap.size w w') (by kernel_rfl) (by exact (Below.refl _ _).drew) (fun hHeld => ?_)
  refine wpAnyH_take (i := 0) (v := ?_) rfl (by kernel_rfl) (by kernel_rfl) (by kernel_rfl) (fun _ _ _ h => h) (Or.inl ⟨by rfl, ?_⟩) (by with_reducible assumption) ?_
  rotate_left
  · intro w hSw; (try dsimp only at hSw); (try go_split_ands); go_simp; (try with_reducible rfl)
  (try simp only [Act.put, List.getElem_toArray, List.getElem_cons_succ, List.getElem_cons_zero, List.setIfInBounds_toArray, List.set_cons_zero, List.set_cons_succ])
  refine wpAnyH_take (i := 1) (v := ?_) rfl (by kernel_rfl) (by kernel_rfl) (by kernel_rfl) (fun _ _ _ h => h) (Or.inl ⟨by rfl, ?_⟩) (by with_reducible assumption) ?_
  rotate_left
  · intro w hSw; (try dsimp only at hSw); (try go_split_ands); go_simp; (try with_reducible rfl)
  (try simp only [Act.put, List.getElem_toArray, List.getElem_cons_succ, List.getElem_cons_zero, List.setIfInBounds_toArray, List.set_cons_zero, List.set_cons_succ])
  refine wpAnyH_take (i := 2) (v := ?_) rfl (by kernel_rfl) (by kernel_rfl) (by kernel_rfl) (fun _ _ _ h => h) (Or.inl ⟨by rfl, ?_⟩) (by with_reducible assumption) ?_
  rotate_left
  · intro w hSw; (try dsimp only at hSw); (try go_split_ands); go_simp; (try with_reducible rfl)
  (try simp only [Act.put, List.getElem_toArray, List.getElem_cons_succ, List.getElem_cons_zero, List.setIfInBounds_toArray, List.set_cons_zero, List.set_cons_succ])
  refine wpAnyH_take (i := 5) (v := ?_) rfl (by kernel_rfl) (by kernel_rfl) (by kernel_rfl) (fun _ _ _ h => h) (Or.inl ⟨by rfl, ?_⟩) (by with_reducible assumption) ?_
  rotate_left
  · intro w hSw; (try dsimp only at hSw); (try go_split_ands); go_simp; (try with_reducible rfl)
  (try simp only [Act.put, List.getElem_toArray, List.getElem_cons_succ, List.getElem_cons_zero, List.setIfInBounds_toArray, List.set_cons_zero, List.set_cons_succ])
  refine wpAnyH_take (i := 6) (v := ?_) rfl (by kernel_rfl) (by kernel_rfl) (by kernel_rfl) (fun _ _ _ h => h) (Or.inl ⟨by rfl, ?_⟩) (by with_reducible assumption) ?_
  rotate_left
  · intro w hSw; (try dsimp only at hSw); (try go_split_ands); go_simp; (try with_reducible rfl)
  (try simp only [Act.put, List.getElem_toArray, List.getElem_cons_succ, List.getElem_cons_zero, List.setIfInBounds_toArray, List.set_cons_zero, List.set_cons_succ])
  refine wpAnyH_take (i := 7) (v := ?_) rfl (by kernel_rfl) (by kernel_rfl) (by kernel_rfl) (fun _ _ _ h => h) (Or.inl ⟨by rfl, ?_⟩) (by with_reducible assumption) ?_
  rotate_left
  · intro w hSw; (try dsimp only at hSw); (try go_split_ands); go_simp; (try with_reducible rfl)
  (try simp only [Act.put, List.getElem_toArray, List.getElem_cons_succ, List.getElem_cons_zero, List.setIfInBounds_toArray, List.set_cons_zero, List.set_cons_succ])
  refine wpAnyH_take (i := 8) (v := ?_) rfl (by kernel_rfl) (by kernel_rfl) (by kernel_rfl) (fun _ _ _ h => h) (Or.inl ⟨by rfl, ?_⟩) (by with_reducible assumption) ?_
  rotate_left
  · intro w hSw; (try dsimp only at hSw); (try go_split_ands); go_simp; (try with_reducible rfl)
  (try simp only [Act.put, List.getElem_toArray, List.getElem_cons_succ, List.getElem_cons_zero, List.setIfInBounds_toArray, List.set_cons_zero, List.set_cons_succ])
  refine wpAnyH_ready (rs := [3]) (by kernel_rfl) (by simp) ?_
  refine AllReadyH.cons rfl (fun K2 hK2 => ?_) AllReadyH.nil
  go_simp
  have HB := Lib.hid hHeld
  go_at_call 23
  refine (HSm.out _ HB.out).mono ?_
  rintro e1 W2 ⟨rfl, hy2, hb2, hlt2⟩
  have HB2 := Lib.hid (HB.out.trans (hb2.mono HB.out.size))
  obtain ⟨g2, hg2⟩ : ∃ g, w.drew.heap.size = g := ⟨_, rfl⟩
  have kA : (convert 23 9 (.slice (some ⟨w.heap.size, 0, none⟩) 4 4)).run Try.prog W2 = .ok (.string (strB (sumd (l.take k)))) W2 := conv_bytes hy2 rfl
  refine hK2.out _ _ HB2.out (fun hHeld => ?_)
  clear hK2 K2 hy2 hb2 hlt2 HB hg2
  (try simp only [Act.put, List.getElem_toArray, List.getElem_cons_succ, List.getElem_cons_zero, List.setIfInBounds_toArray, List.set_cons_zero, List.set_cons_succ])
  refine wpAnyH_ready (rs := [4]) (by kernel_rfl) (by simp) ?_
  refine AllReadyH.cons rfl (fun K2 hK2 => ?_) AllReadyH.nil
  go_simp
  refine hK2.out _ _ HB2.out (fun hHeld => ?_)
  clear hK2 K2 kA
  (try simp only [Act.put, List.getElem_toArray, List.getElem_cons_succ, List.getElem_cons_zero, List.setIfInBounds_toArray, List.set_cons_zero, List.set_cons_succ])
  refine wpAnyH_take (i := 9) (v := ?_) rfl (by kernel_rfl) (by kernel_rfl) (by kernel_rfl) (fun _ _ _ h => h) (Or.inl ⟨by rfl, ?_⟩) (by with_reducible assumption) ?_
  rotate_left
  · intro w hSw; (try dsimp only at hSw); (try go_split_ands); go_simp; (try with_reducible rfl)
  (try simp only [Act.put, List.getElem_toArray, List.getElem_cons_succ, List.getElem_cons_zero, List.setIfInBounds_toArray, List.set_cons_zero, List.set_cons_succ])
  refine wpAnyH_take (i := 10) (v := ?_) rfl (by kernel_rfl) (by kernel_rfl) (by kernel_rfl) (fun _ _ _ h => h) (Or.inl ⟨by rfl, ?_⟩) (by with_reducible assumption) ?_
  rotate_left
  · intro w hSw; (try dsimp only at hSw); (try go_split_ands); go_simp; (try with_reducible rfl)
  (try simp only [Act.put, List.getElem_toArray, List.getElem_cons_succ, List.getElem_cons_zero, List.setIfInBounds_toArray, List.set_cons_zero, List.set_cons_succ])
  refine wpAnyH_done (by kernel_rfl) ?_ _
  clear hHeld kB
  go_wp2_with fail
  go_ret
  exact ⟨by rw [HBF.out]; rfl, HB2.out⟩
theorem brokenR_any {w : World} {B rb : Nat} {v : Value} {l : List Nat} {br : Bool} (h : IsRr w B rb v l br) :
    Calls Try.prog 28 #[.pointer (some ⟨rb, 0, none⟩)] w fun e w' => e = .returned (.tuple #[.agg pdZ, .int .i64 3]) ∧ IsRr w' B rb (.slice none 0 0) [] true ∧ But (fun k => k = rb) w w' := by
  have c0 := h.blk.cell 0 (v := v) rfl
  have c1 := h.blk.cell 1 (v := .bool br) rfl
  have fz := h.blk.fz
  have hlt := h.blk.lt
  have H := Lib.hid h
  clear h
  go_enter Try.func28, Try.ntmps28
  go_wp2_with fail
  have hb2 : But (fun k => k = rb) w (((w.setCell ⟨rb, 0, none⟩ (.slice none 0 0)).setCell ⟨rb, 1, none⟩ (.bool true)).alloc (.cells pdZ 28)) :=
    (((But.refl (fun k => k = rb) w).setCell (p := ⟨rb, 0, none⟩) rfl _).setCell (p := ⟨rb, 1, none⟩) rfl _).alloc _
  have hk : IsBlk (((w.setCell ⟨rb, 0, none⟩ (.slice none 0 0)).setCell ⟨rb, 1, none⟩ (.bool true)).alloc (.cells pdZ 28)) w.heap.size pdZ 28 := by
    have := IsBlk.new ((w.setCell ⟨rb, 0, none⟩ (.slice none 0 0)).setCell ⟨rb, 1, none⟩ (.bool true)) pdZ 28
    simpa [World.setCell] using this
  refine bodyPost_ret (v := .tuple #[.agg pdZ, .int .i64 3]) (results_cell_tmp Try.results28 _ _ w.heap.size 28 pdZ _ (by rfl) hk _ (by rfl) Try.underlying28 rfl (by kernel_rfl)) rfl ⟨rfl, ⟨?_, Own.nil _ _, H.out.hB⟩, hb2⟩
  exact (((H.out.blk.set 0 (.slice none 0 0)).set 1 (.bool true)).alloc _)
end Go.Proofs.Ytaehaclmagnncaa
