/-
  ring: same, mark.
-/
import Derived.Test.YtkabkehfckbhcaaDoorZRgHelp
import Derived.Test.YtkabkehfckbhcaaDoorZRgOpen2
import Derived.Deep.CutBlock
namespace Go.Proofs.YtkabkehfckbhcaaDoor
set_option linter.unusedVariables false
set_option linter.unusedSimpArgs false
open Go.RowKit

theorem RecsT.at_ {te ti : TypeId} {w : World} {base : Nat} {v : Value} {vs : List Value} {L : List (List CH)} (h : RecsT te ti w base v vs L) {i : Nat} {l : List CH} (hl : L[i]? = some l) : ∃ g cap ya yc, v = .slice (some ⟨g, 0, none⟩) vs.length cap ∧ w.cell? ⟨g, i, none⟩ = some (.slice ya l.length yc) ∧ RowF w base ti 65 chF (.slice ya l.length yc) l := by
  have hil : i < L.length := (List.getElem?_eq_some_iff.1 hl).1
  obtain ⟨x, hx⟩ : ∃ x, vs[i]? = some x := ⟨_, List.getElem?_eq_getElem (by rw [h.len]; exact hil)⟩
  obtain ⟨g, cap, e, hr, _⟩ := h.out.range (by decide) hx
  have hi := h.ins i x l hx hl
  obtain ⟨ya, yc, e2⟩ := hi.slice
  subst e2
  have hc := hr 0 _ (show (oneF (.slice ya l.length yc))[0]? = some (.slice ya l.length yc) from rfl)
  rw [Nat.mul_one, Nat.add_zero] at hc
  exact ⟨g, cap, ya, yc, e, hc, hi⟩
theorem slice_inj {a b : Option Addr} {n m c d : Nat} (h : Value.slice a n c = .slice b m d) : a = b ∧ n = m ∧ c = d := by
  injection h with h1 h2 h3
  exact ⟨h1, h2, h3⟩
set_option maxRecDepth 100000 in
set_option maxHeartbeats 8000000 in
theorem same_any (W : World) {ba bb : Nat} {va vb : Value} {vs us : List Value} {L : List (List CH)} (ha : Recs W ba va vs L) (hb : RRecs W bb vb us L) (hok : ∀ l ∈ L, (∀ c ∈ l, CHok c) ∧ l.length ≤ 1000) (hL : L.length ≤ 10000) : Calls Tryd.prog 21 #[va, vb] W fun e w' => e = .returned (.bool true) ∧ Below W.heap.size W w' := by
  obtain ⟨pa, pc, rfl⟩ := ha.out.slice
  obtain ⟨qa, qc, rfl⟩ := hb.out.slice
  obtain ⟨n, hn⟩ : ∃ n, n = L.length := ⟨_, rfl⟩
  have hvn : vs.length = n := by rw [ha.len, hn]
  have hun : us.length = n := by rw [hb.len, hn]
  rw [hvn] at *
  rw [hun] at *
  have hn2 : n ≤ 10000 := by omega
  have HH := Lib.hid (And.intro ha (And.intro hb (And.intro hok (And.intro hn (And.intro hvn hun)))))
  clear ha hb hok hL hn hvn hun
  go_enter Tryd.func21, Tryd.ntmps21
  go_upto_region 3 with fail
  go_wp2_with fail
  go_loopw [15] (fun i wr => ∃ j : Nat, j ≤ n ∧ i = .int .i64 j ∧ Hid (Below W.heap.size W wr)) (fun i _ => n - (intOf i).toNat)
  case atStart => exact ⟨0, by omega, rfl, Below.refl _ _⟩
  case round =>
    obtain ⟨j, hj, rfl, HR⟩ := hrel
    by_cases hjl : j < n
    · obtain ⟨l, hl⟩ : ∃ l, L[j]? = some l := ⟨_, List.getElem?_eq_getElem (by rw [← HH.out.2.2.2.1]; exact hjl)⟩
      obtain ⟨g, cap, ya, yc, e1, c1, r1⟩ := (HH.out.1.below HR.out).at_ hl
      obtain ⟨rfl, _, rfl⟩ := slice_inj e1
      obtain ⟨g2, cap2, za, zc, e2, c2, r2⟩ := (HH.out.2.1.below HR.out).at_ hl
      obtain ⟨rfl, _, rfl⟩ := slice_inj e2
      have hlok := HH.out.2.2.1 l (List.mem_of_getElem? hl)
      obtain ⟨m, hm⟩ : ∃ m, m = l.length := ⟨_, rfl⟩
      rw [← hm] at c1 c2 r1 r2
      have hm2 : m ≤ 1000 := by rw [hm]; exact hlok.2
      have htold := told_any wr ya yc m l (IsChs.of_row r1 hlok.1) hm hlok.2
      have j1 : (j : Int) < (n : Int) := by omega
      have HM := Lib.hid (And.intro hm (And.intro r2 hlok.1))
      have HC2 := Lib.hid c2
      clear e1 e2 r1 r2 hlok hm hl c2
      go_upto_region 7 with (go_at_call 13; (with_reducible refine htold.mono ?_); rintro e w5 ⟨v5, rfl, hr5, hb5⟩; obtain ⟨xa, xc, rfl⟩ := hr5.slice; have H5 := Lib.hid (And.intro hr5 hb5); clear hr5 hb5)
      rw [← HM.out.1] at H5
      rw [← HM.out.1]
      have c2 : w5.cell? ⟨g2, j, none⟩ = some (.slice za m zc) := (H5.out.2.cell (cell_lt HC2.out)).trans HC2.out
      clear htold c1
      go_upto_region 9 with fail
      go_wp2_with fail
      go_loopw [33] (fun i wr2 => ∃ k : Nat, k ≤ m ∧ i = .int .i64 k ∧ Hid (Below w5.heap.size w5 wr2)) (fun i _ => m - (intOf i).toNat)
      case atStart => exact ⟨0, by omega, rfl, Below.refl _ _⟩
      case round =>
        obtain ⟨k, hk, rfl, HK⟩ := hrel
        by_cases hkl : k < m
        · obtain ⟨c, hc⟩ : ∃ c, l[k]? = some c := ⟨_, List.getElem?_eq_getElem (by rw [← HM.out.1]; exact hkl)⟩
          obtain ⟨gx, cx, ex, rx, _⟩ := (H5.out.1.below HK.out).range (by decide) hc
          obtain ⟨rfl, _, rfl⟩ := slice_inj ex
          obtain ⟨gy, cy, ey, ry, _⟩ := ((HM.out.2.1.below H5.out.2).below HK.out).range (by decide) hc
          obtain ⟨rfl, _, rfl⟩ := slice_inj ey
          have cc := (HK.out.cell (cell_lt c2)).trans c2
          have hcl := (HM.out.2.2 c (List.mem_of_getElem? hc)).len
          have HC := Lib.hid (And.intro rx (And.intro cc (And.intro ry hcl)))
          have k1 : (k : Int) < (m : Int) := by omega
          clear ex ey rx ry hc hcl cc
          go_upto_region 12 with fail
          refine wp_region_held_drew (S := fun w' => w'.rangeAt gx (k * 65) (chF c) ∧ w'.cell? ⟨g2, j, none⟩ = some (.slice (some ⟨gy, 0, none⟩) m zc) ∧ w'.rangeAt gy (k * 65) (chF c)) (by kernel_rfl) ⟨HC.out.1, HC.out.2.1, HC.out.2.2.1⟩ (fun hHeld => ?_)
          refine wpAnyH_take (i := 0) (v := ?_) rfl (by kernel_rfl) (by kernel_rfl) (by kernel_rfl) (fun _ _ _ h => h) (Or.inl ⟨by rfl, ?_⟩) (by with_reducible assumption) ?_
          rotate_left
          · intro w hSw; (try dsimp only at hSw); (try go_split_ands); go_simp; (try with_reducible rfl)
          (try simp only [Act.put, List.getElem_toArray, List.getElem_cons_succ, List.getElem_cons_zero, List.setIfInBounds_toArray, List.set_cons_zero, List.set_cons_succ])
          refine wpAnyH_take (i := 1) (v := ?_) rfl (by kernel_rfl) (by kernel_rfl) (by kernel_rfl) (fun _ _ _ h => h) (Or.inl ⟨by rfl, ?_⟩) (by with_reducible assumption) ?_
          rotate_left
          · intro w hSw; (try dsimp only at hSw); (try go_split_ands); go_simp; (try with_reducible rfl)
          (try simp only [Act.put, List.getElem_toArray, List.getElem_cons_succ, List.getElem_cons_zero, List.setIfInBounds_toArray, List.set_cons_zero, List.set_cons_succ])
          refine wpAnyH_take (i := 2) (v := ?_) rfl (by kernel_rfl) (by kernel_rfl) (by kernel_rfl) (fun _ _ _ h => h) (Or.inl ⟨by rfl, ?_⟩) (by with_reducible assumption) ?_
          rotate_left
          · intro w hSw; (try dsimp only at hSw); (try go_split_ands); go_simp; (try with_reducible rfl)
          (try simp only [Act.put, List.getElem_toArray, List.getElem_cons_succ, List.getElem_cons_zero, List.setIfInBounds_toArray, List.set_cons_zero, List.set_cons_succ])
          refine wpAnyH_take (i := 3) (v := .agg (chF c).toArray) rfl (by kernel_rfl) (by kernel_rfl) (by kernel_rfl) (fun _ _ _ h => h) (yieldsIf_load_mid (by rfl) 93 (.tmp 38) (by rfl) gx (k * 65) (by rfl) (chF c) _ (fun w hS => hS.1) Tryd.underlying93 rfl (by rw [chF_length c HC.out.2.2.2]; kernel_rfl)) (by with_reducible assumption) ?_
          (try simp only [Act.put, List.getElem_toArray, List.getElem_cons_succ, List.getElem_cons_zero, List.setIfInBounds_toArray, List.set_cons_zero, List.set_cons_succ])
          refine wpAnyH_take (i := 4) (v := ?_) rfl (by kernel_rfl) (by kernel_rfl) (by kernel_rfl) (fun _ _ _ h => h) (Or.inl ⟨by rfl, ?_⟩) (by with_reducible assumption) ?_
          rotate_left
          · intro w hSw; (try dsimp only at hSw); (try go_split_ands); go_simp; (try with_reducible rfl)
          (try simp only [Act.put, List.getElem_toArray, List.getElem_cons_succ, List.getElem_cons_zero, List.setIfInBounds_toArray, List.set_cons_zero, List.set_cons_succ])
          refine wpAnyH_take (i := 5) (v := ?_) rfl (by kernel_rfl) (by kernel_rfl) (by kernel_rfl) (fun _ _ _ h => h) (Or.inl ⟨by rfl, ?_⟩) (by with_reducible assumption) ?_
          rotate_left
          · intro w hSw; (try dsimp only at hSw); (try go_split_ands); go_simp; (try with_reducible rfl)
          (try simp only [Act.put, List.getElem_toArray, List.getElem_cons_succ, List.getElem_cons_zero, List.setIfInBounds_toArray, List.set_cons_zero, List.set_cons_succ])
          refine wpAnyH_take (i := 6) (v := ?_) rfl (by kernel_rfl) (by kernel_rfl) (by kernel_rfl) (fun _ _ _ h => h) (Or.inl ⟨by rfl, ?_⟩) (by with_reducible assumption) ?_
          rotate_left
          · intro w hSw; (try dsimp only at hSw); (try go_split_ands); go_simp; (try with_reducible rfl)
          (try simp only [Act.put, List.getElem_toArray, List.getElem_cons_succ, List.getElem_cons_zero, List.setIfInBounds_toArray, List.set_cons_zero, List.set_cons_succ])
          refine wpAnyH_take (i := 7) (v := ?_) rfl (by kernel_rfl) (by kernel_rfl) (by kernel_rfl) (fun _ _ _ h => h) (Or.inl ⟨by rfl, ?_⟩) (by with_reducible assumption) ?_
          rotate_left
          · intro w hSw; (try dsimp only at hSw); (try go_split_ands); go_simp; (try with_reducible rfl)
          (try simp only [Act.put, List.getElem_toArray, List.getElem_cons_succ, List.getElem_cons_zero, List.setIfInBounds_toArray, List.set_cons_zero, List.set_cons_succ])
          refine wpAnyH_take (i := 8) (v := ?_) rfl (by kernel_rfl) (by kernel_rfl) (by kernel_rfl) (fun _ _ _ h => h) (Or.inl ⟨by rfl, ?_⟩) (by with_reducible assumption) ?_
          rotate_left
          · intro w hSw; (try dsimp only at hSw); (try go_split_ands); go_simp; (try with_reducible rfl)
          (try simp only [Act.put, List.getElem_toArray, List.getElem_cons_succ, List.getElem_cons_zero, List.setIfInBounds_toArray, List.set_cons_zero, List.set_cons_succ])
          refine wpAnyH_take (i := 9) (v := ?_) rfl (by kernel_rfl) (by kernel_rfl) (by kernel_rfl) (fun _ _ _ h => h) (Or.inl ⟨by rfl, ?_⟩) (by with_reducible assumption) ?_
          rotate_left
          · intro w hSw; (try dsimp only at hSw); (try go_split_ands); go_simp; (try with_reducible rfl)
          (try simp only [Act.put, List.getElem_toArray, List.getElem_cons_succ, List.getElem_cons_zero, List.setIfInBounds_toArray, List.set_cons_zero, List.set_cons_succ])
          refine wpAnyH_take (i := 10) (v := .agg (chF c).toArray) rfl (by kernel_rfl) (by kernel_rfl) (by kernel_rfl) (fun _ _ _ h => h) (yieldsIf_load_mid (by rfl) 93 (.tmp 45) (by rfl) gy (k * 65) (by rfl) (chF c) _ (fun w hS => hS.2.2) Tryd.underlying93 rfl (by rw [chF_length c HC.out.2.2.2]; kernel_rfl)) (by with_reducible assumption) ?_
          (try simp only [Act.put, List.getElem_toArray, List.getElem_cons_succ, List.getElem_cons_zero, List.setIfInBounds_toArray, List.set_cons_zero, List.set_cons_succ])
          refine wpAnyH_ready (rs := [11]) (by kernel_rfl) (by simp) ?_
          refine AllReadyH.cons rfl (fun K9 hK9 => ?_) AllReadyH.nil
          rw [if_pos (by rfl)]
          simp only [List.getElem_toArray, List.getElem_cons_succ, List.getElem_cons_zero]
          refine wp_ne_self 93 (.tmp 39) (.tmp 46) (by rfl) (chF c).toArray (by kernel_rfl) (by rfl) (by rfl) (rch_self c HC.out.2.2.2 _) ?_
          refine hK9.out _ _ hHeld (fun hHeld => ?_)
          clear hK9 K9 hHeld
          (try simp only [Act.put, List.getElem_toArray, List.getElem_cons_succ, List.getElem_cons_zero, List.setIfInBounds_toArray, List.set_cons_zero, List.set_cons_succ])
          refine wpAnyH_done (by kernel_rfl) ?_ _
          go_wp2_with fail
          go_round
          case rel => exact ⟨k + 1, by omega, by go_num, HK.out.drew⟩
          case measure => simp [intOf]; omega
        · obtain rfl : k = m := by omega
          go_wp2_with fail
          go_round
          case rel => exact ⟨j + 1, by omega, by go_num, HR.out.trans ((H5.out.2.trans (HK.out.mono H5.out.2.size)).mono HR.out.size)⟩
          case measure => simp [intOf]; omega
    · obtain rfl : j = n := by omega
      go_wp2_with fail
      go_ret
      exact ⟨rfl, HR.out⟩
theorem markV_one (place num : Int) (last : List Nat) : (.int .i64 place :: .int .u64 num :: bv last).toArray.all (·.oneCell') = true := all_oneCell_toArray (by
  intro v hv
  simp only [List.mem_cons] at hv
  rcases hv with rfl | rfl | hv
  · rfl
  · rfl
  · exact bv_one _ v hv)
set_option maxRecDepth 100000 in
set_option maxHeartbeats 4000000 in
theorem mark_any (W : World) (place num : Int) (last : List Nat) (hl : last.length = 32) : Calls Tryd.prog 11 #[markV place num last] W fun e w' => e = .returned (markV place num last) ∧ Below W.heap.size W w' := by
  have HL := Lib.hid hl
  unfold markV
  go_enter Tryd.func11, Tryd.ntmps11
  go_upto_region 1 with (refine wpList_alloc_info (by rfl) 38 (by rfl) (.agg (markL zeroM).toArray) (markL zeroM).toArray (by kernel_rfl) rfl ?_)
  change Code.wp _ _ _ _ ((W.alloc (.cells (.int .i64 place :: .int .u64 num :: bv last).toArray 25)).alloc (.cells (markL zeroM).toArray 38))
  have hn : IsBlk (W.alloc (.cells (.int .i64 place :: .int .u64 num :: bv last).toArray 25)) W.heap.size (.int .i64 place :: .int .u64 num :: bv last).toArray 25 := IsBlk.new _ _ _
  have hb : Below W.heap.size W (W.alloc (.cells (.int .i64 place :: .int .u64 num :: bv last).toArray 25)) := (Below.refl _ _).alloc (Nat.le_refl _) _
  generalize W.alloc (.cells (.int .i64 place :: .int .u64 num :: bv last).toArray 25) = w1 at hn hb ⊢
  have hn2 : IsBlk (w1.alloc (.cells (markL zeroM).toArray 38)) w1.heap.size (markL zeroM).toArray 38 := IsBlk.new _ _ _
  have hb2 : Below w1.heap.size w1 (w1.alloc (.cells (markL zeroM).toArray 38)) := (Below.refl _ _).alloc (Nat.le_refl _) _
  have hn1 := hn.below hb2 hn.lt
  have hb12 := hb.trans (hb2.mono hb.size)
  have hle := hb.size
  generalize w1.alloc (.cells (markL zeroM).toArray 38) = w2 at hn2 hn1 hb12 ⊢
  generalize w1.heap.size = rb at *
  have c0 := hn1.cell 0 (v := .int .i64 place) rfl
  have c1 := hn1.cell 1 (v := .int .u64 num) rfl
  have hr := isBlk_range (vs := bv last) hn1 2 (fun k v hv => by rw [Nat.add_comm]; exact hv)
  have H2 := Lib.hid (And.intro hn2 (And.intro hb12 (And.intro hr hle)))
  clear hn hb hb2 hb12 hn2 hr hn1 hle
  go_wp2_with (first
    | (refine wpList_load_mid (by rfl) 23 (.tmp 7) (by rfl) W.heap.size 2 (by rfl) (bv last) _ H2.out.2.2.1 Tryd.underlying23 rfl (by rw [bv_length, HL.out]; kernel_rfl) ?_)
    | (refine wpList_build (by rfl) 38 #[(0, .tmp 4), (1, .tmp 6), (2, .tmp 8)] (by rfl) (.int .i64 place :: .int .u64 num :: bv last).toArray (by exact built_rmark place num last HL.out) ?_)
    | (refine wpList_store_row (by rfl) 38 (.tmp 2) (.tmp 9) (by rfl) rb (.int .i64 place :: .int .u64 num :: bv last).toArray (by rfl) (by rfl) 38 (markL zeroM).toArray (by exact H2.out.1) (by rw [List.size_toArray]; simp only [List.length_cons, bv_length, HL.out]; kernel_rfl) (by rw [List.size_toArray, List.size_toArray]; simp only [List.length_cons, bv_length, HL.out]; rfl) (markV_one place num last) ?_))
  refine bodyPost_ret (v := .agg (.int .i64 place :: .int .u64 num :: bv last).toArray) (results_cell_row Tryd.results11 _ _ rb 38 (.int .i64 place :: .int .u64 num :: bv last).toArray (0, 0) _ (by rfl) ?_ Tryd.underlying38 rfl (by rw [List.size_toArray]; simp only [List.length_cons, bv_length, HL.out]; kernel_rfl)) rfl ⟨rfl, ?_⟩
  · exact isBlk_setRow H2.out.1 _
  · exact below_setRow H2.out.2.1 _ H2.out.2.2.2 _
end Go.Proofs.YtkabkehfckbhcaaDoor
