/-
  ring: the reference's Open.
-/
import Derived.Test.YtkabkehfckbhcaaDoorZRgNx
import Derived.Test.YtkabkehfckbhcaaDoorZRgRound1
import Derived.Deep.LoopGhost
namespace Go.Proofs.YtkabkehfckbhcaaDoor
set_option linter.unusedVariables false
set_option linter.unusedSimpArgs false
open Go.RowKit

theorem rbuilt_ring (db : Nat) (s : RS) (h : s.last.length = 32) (hu : s.used = 0) : Tryd.prog.built 68 [(0, .pointer (some ⟨db, 0, none⟩)), (1, .int .i64 ((s.first : Nat) : Int)), (2, .int .i64 ((s.n : Nat) : Int)), (3, .agg (markL s).toArray)] = some (ringL db s).toArray := by
  have hm := markL_size h
  have key := fill_ring (fun i => ([(0, 1), (1, 1), (2, 1), (3, 34), (37, 1)] : List (Nat × Nat)).toArray[i]?) zeroRg (.pointer (some ⟨db, 0, none⟩)) (.int .i64 ((s.first : Nat) : Int)) (.int .i64 ((s.n : Nat) : Int)) rfl rfl rfl (markL s).toArray (.int .i64 0) rfl rfl rfl (by rw [hm]; rfl) (by rw [hm]; rfl) (by rw [hm]; rfl)
  have e : (ringL db s) = Value.pointer (some ⟨db, 0, none⟩) :: .int .i64 ((s.first : Nat) : Int) :: .int .i64 ((s.n : Nat) : Int) :: ((markL s).toArray.toList ++ [.int .i64 0]) := by
    unfold ringL
    rw [hu]
    simp
  rw [e]
  exact built_zero (zc := zeroRg) (ps := [(0, 1), (1, 1), (2, 1), (3, 34), (37, 1)]) (by kernel_rfl) (by kernel_rfl) key
theorem rmark_info {s : RS} (h : s.last.length = 32) : (Tryd.prog.info? 38).map (·.size) = some (markL s).toArray.size := by
  rw [List.size_toArray, markL_length h]; kernel_rfl
theorem look_le {s : RS} {d : DK} (h : (s.look d).1 ≠ []) : (s.look d).1.length ≤ 60 := by
  unfold RS.look at *
  simp only at *
  split at h
  · rename_i e
    rw [if_pos e]
    simp only [List.length_map, List.length_range]
    exact e.2.2.2.1
  · exact absurd rfl h
/-- What the reference's Open keeps. -/
structure ROpenI (W wr : World) (rr kb : Nat) (s : RS) (v : Value) (L : List (List CH)) (n kk : Nat) (d : DK) : Prop where
  bel : Below W.heap.size W wr
  nx : NxH wr rr kb s n kk d
  hrr : W.heap.size ≤ rr
  recs : ∃ vs, RRecs wr W.heap.size v vs L
theorem ROpenI.slice {W wr : World} {rr kb : Nat} {s : RS} {v : Value} {L : List (List CH)} {n kk : Nat} {d : DK} (h : ROpenI W wr rr kb s v L n kk d) : ∃ a m cap, v = .slice a m cap ∧ Hid (m = L.length) := by
  obtain ⟨vs, hr⟩ := h.recs
  obtain ⟨a, cap, e⟩ := hr.out.slice
  exact ⟨a, _, cap, e, Lib.hid hr.len⟩
theorem ROpenI.below {W wr w' : World} {rr kb : Nat} {s : RS} {v : Value} {L : List (List CH)} {n kk : Nat} {d : DK} (h : ROpenI W wr rr kb s v L n kk d) (hb : Below wr.heap.size wr w') : ROpenI W w' rr kb s v L n kk d := by
  obtain ⟨vs, hr⟩ := h.recs
  exact ⟨h.bel.trans (hb.mono h.bel.size), h.nx.below hb, h.hrr, ⟨vs, hr.below hb⟩⟩
set_option maxRecDepth 100000 in
set_option maxHeartbeats 4000000 in
theorem ropen_ok {W : World} {kb : Nat} {s : RS} {n kk : Nat} {d : DK} (hrd : ∃ B fb cap av wv, IsRd W B kb fb cap av wv d) (hon : OnB n kk d) (hok : RSok s n) (hu : s.used = 0) (hkk : kk ≤ 100000) (hn2 : n ≤ 4096) :
    Calls Tryd.prog 19 #[.pointer (some ⟨kb, 0, none⟩), .int .i64 ((s.first : Nat) : Int), .int .i64 ((s.n : Nat) : Int), .agg (markL s).toArray] W fun e w' => ∃ rr v, e = .returned (.tuple #[.pointer (some ⟨rr, 0, none⟩), v, .int .i64 0]) ∧ ROpenI W w' rr kb (openP d (s.n + 1) s).1 v (openP d (s.n + 1) s).2 n kk d := by
  have HH := Lib.hid (And.intro hrd (And.intro hon (And.intro hok (And.intro hu hkk))))
  go_enter Tryd.func19, Tryd.ntmps19
  go_upto_region 1 with fail
  change Code.wp _ _ _ _ (W.alloc (.cells (markL s).toArray 38))
  have hn : IsBlk (W.alloc (.cells (markL s).toArray 38)) W.heap.size (markL s).toArray 38 := IsBlk.new _ _ _
  have hb : Below W.heap.size W (W.alloc (.cells (markL s).toArray 38)) := (Below.refl _ _).alloc (Nat.le_refl _) _
  generalize W.alloc (.cells (markL s).toArray 38) = w1 at hn hb ⊢
  obtain ⟨B, fb, cap, av, wv, hr⟩ := hrd
  have cd := (hr.below hb).c0
  rw [hon.len] at cd
  have cp := hn.cell 0 (v := .int .i64 ((s.place : Nat) : Int)) rfl
  have H1 := Lib.hid (And.intro hn hb)
  have i1 := hok.n1
  have i2 := hok.n2
  have i3 := hok.fit
  have i4 := hok.place
  have i5 : ¬ ((s.n : Int) < 96) := by omega
  have i6 : ¬ (4096 < (s.n : Int)) := by omega
  have i7 : ¬ ((n : Int) - (s.n : Int) < (s.first : Int)) := by omega
  have i8 : ¬ ((s.n : Int) ≤ (s.place : Int)) := by omega
  have HN2 := Lib.hid hn2
  clear hn hb hr hon hok hu hkk
  generalize hmb : W.heap.size = mb at H1 cp ⊢
  have HMB := Lib.hid hmb
  clear hmb
  go_upto_region 3 with fail
  go_upto_region 4 with (first
    | (refine wpList_load_row (by rfl) 38 (.tmp 7) (by rfl) mb (by rfl) 38 (markL s).toArray (0, 0) _ H1.out.1 Tryd.underlying38 rfl (rmark_info HH.out.2.2.1.len) ?_)
    | (refine wpList_build (by rfl) 68 #[(0, .tmp 48), (1, .tmp 49), (2, .tmp 50), (3, .tmp 51)] (by rfl) (ringL kb s).toArray (by exact rbuilt_ring kb s HH.out.2.2.1.len HH.out.2.2.2.1) ?_))
  change Code.wp _ _ _ _ (w1.alloc (.cells (ringL kb s).toArray 68))
  have hrg : IsRg 68 (w1.alloc (.cells (ringL kb s).toArray 68)) w1.heap.size kb s := IsBlk.new _ _ _
  have hle : W.heap.size ≤ w1.heap.size := by have := H1.out.2.size; have := HMB.out; omega
  have hb2 : Below W.heap.size W (w1.alloc (.cells (ringL kb s).toArray 68)) := by rw [HMB.out]; exact H1.out.2.alloc (by have := HMB.out; omega) _
  have hoi : ROpenI W (w1.alloc (.cells (ringL kb s).toArray 68)) w1.heap.size kb s (.slice none 0 0) [] n kk d := by
    obtain ⟨B, fb, cap, av, wv, hr⟩ := HH.out.1
    exact ⟨hb2, ⟨hrg, HH.out.2.2.1, ⟨B, fb, cap, av, wv, hr.below hb2⟩, HH.out.2.1, HH.out.2.2.2.2, HN2.out⟩, hle, ⟨[], RecsT.nil _ _ _ _⟩⟩
  generalize w1.alloc (.cells (ringL kb s).toArray 68) = w2 at hoi ⊢
  generalize w1.heap.size = rr at hoi ⊢
  have HO := Lib.hid hoi
  clear hrg hle hb2 hoi cp cd i1 i3 i4 i5 i6 i7 i8 hn2
  go_wp2_with fail
  go_loopg [12] (s.n + 1) (fun g v wr => ∃ s' L, g = s.n + 1 - L.length ∧ Hid (ROpenI W wr rr kb s' v L n kk d ∧ openP d (s.n + 1) s = ((openP d (s.n + 1 - L.length) s').1, L ++ (openP d (s.n + 1 - L.length) s').2) ∧ L.length ≤ s'.used ∧ s'.n = s.n))
  case atStart => exact ⟨s, [], rfl, HO.out, rfl, by simp, rfl⟩
  case round =>
    obtain ⟨s', L, hg, HR⟩ := hrel
    obtain ⟨a, m, cap, rfl, Hm⟩ := HR.out.1.slice
    have hLn : L.length ≤ s.n := by have := HR.out.1.nx.ok.used; have := HR.out.2.2; omega
    have hnx := next_walk HR.out.1.nx
    obtain ⟨R, hR⟩ : ∃ R, R = s'.look d := ⟨_, rfl⟩
    unfold NextPost at hnx
    rw [← hR] at hnx
    have HRE := Lib.hid hR
    have HG := Lib.hid (And.intro hg hLn)
    clear hR hg
    by_cases hne : R.1 = []
    · -- {
      have hnx1 : Calls Tryd.prog 40 #[.pointer (some ⟨rr, 0, none⟩)] wr fun e w' => ∃ sm, e = .returned (.tuple #[.slice none 0 0, .agg (nv .u8 sm), .int .i64 0]) ∧ sm.length = 32 ∧ Below wr.heap.size wr w' := hnx.mono (fun e w' h => by
        obtain ⟨hb, v, sm, he, hs, hc⟩ := h
        rcases hc with x | x
        · exact ⟨sm, by rw [he, x.2], hs, hb⟩
        · exact absurd hne x.1)
      have HNE := Lib.hid hne
      clear hnx hne
      go_wp2_with (first
        | (go_at_call 40; (with_reducible refine hnx1.mono ?_); rintro e w5 ⟨sm, rfl, hsm, hb5⟩; have H5 := Lib.hid (And.intro hb5 hsm); clear hb5 hsm)
        | (refine wpList_alloc_info (by rfl) 23 (by rfl) (.agg (nv .u8 (List.replicate 32 0))) (nv .u8 (List.replicate 32 0)) (by kernel_rfl) rfl ?_)
        | (refine wpList_store_row (by rfl) 23 (.tmp 14) (.tmp 58) (by rfl) _ (nv .u8 sm) (by rfl) (by rfl) 23 (nv .u8 (List.replicate 32 0)) (heap_alloc_new _ _) (by rw [nv_size, H5.out.2]; kernel_rfl) (by rw [nv_size, nv_size, H5.out.2]; rfl) (nv_one _ _) ?_))
      go_ret3
      refine ⟨rr, .slice a m cap, rfl, ?_⟩
      have hfe : openP d (s.n + 1 - L.length) s' = (s', []) := by
        rw [show s.n + 1 - L.length = (s.n - L.length) + 1 by have := HG.out.2; omega]
        exact openP_none (by rw [← HRE.out]; exact HNE.out)
      rw [HR.out.2.1, hfe]
      show ROpenI W _ rr kb s' _ (L ++ []) n kk d
      rw [List.append_nil]
      exact HR.out.1.below (H5.out.1.trans ((sum_var w5 sm).2.mono H5.out.1.size))
      -- }
    · -- {
      have hlo := look_ok (s := s') (d := d) (by rw [← HRE.out]; exact hne)
      rw [← HRE.out] at hlo
      have hnx2 : Calls Tryd.prog 40 #[.pointer (some ⟨rr, 0, none⟩)] wr fun e w' => ∃ ya yn yc, e = .returned (.tuple #[.slice ya yn yc, .agg (nv .u8 R.2), .int .i64 0]) ∧ yn = R.1.length ∧ RowF w' wr.heap.size 93 65 chF (.slice ya yn yc) R.1 ∧ Below wr.heap.size wr w' := hnx.mono (fun e w' h => by
        obtain ⟨hb, v, sm, he, hs, hc⟩ := h
        rcases hc with x | ⟨_, hv, hm⟩
        · exact absurd x.1 hne
        · obtain ⟨ya, yc, e2⟩ := hv.slice
          subst e2 hm
          exact ⟨ya, _, yc, he, rfl, hv, hb⟩)
      have hDl : R.2.length = 32 := by
        obtain ⟨l, e⟩ := hlo.2.2
        rw [e]
        exact digest_length _
      have HT := Lib.hid (And.intro hDl (And.intro hlo hne))
      clear hnx hne hDl hlo
      go_upto_region 8 with (first
        | (go_at_call 40; (with_reducible refine hnx2.mono ?_); rintro e w5 ⟨ya, yn, yc, rfl, hyn, hr5, hb5⟩; have H5 := Lib.hid (And.intro hr5 (And.intro hb5 hyn)); clear hr5 hb5 hyn)
        | (refine wpList_alloc_info (by rfl) 23 (by rfl) (.agg (nv .u8 Z32)) (nv .u8 Z32) (by kernel_rfl) rfl ?_)
        | (refine wpList_store_row (by rfl) 23 (.tmp 14) (.tmp 58) (by rfl) _ (nv .u8 R.2) (by rfl) (by rfl) 23 (nv .u8 Z32) (heap_alloc_new _ _) (by rw [nv_size, HT.out.1]; kernel_rfl) (by rw [nv_size, nv_size, HT.out.1]; rfl) (nv_one _ _) ?_))
      have hv := mk_var w5 (nv .u8 Z32) (nv .u8 R.2) 23
      generalize (w5.alloc (.cells (nv .u8 Z32) 23)).setRow w5.heap.size (nv .u8 R.2) = w6 at hv ⊢
      have hb6 : Below wr.heap.size wr w6 := H5.out.2.1.trans (hv.2.mono H5.out.2.1.size)
      have ho6 := HR.out.1.below hb6
      have hr6 := (H5.out.1.below hv.2).mono HR.out.1.bel.size
      have hyn1 : 1 ≤ yn := by rw [H5.out.2.2]; exact HT.out.2.1.1
      have hyn2 : yn ≤ 1000 := by
        have h1 := HT.out.2.1.2.1
        have h2 : R.1.length ≤ 60 := by
          have h3 : (s'.look d).1 ≠ [] := by rw [← HRE.out]; exact HT.out.2.2
          have h4 := look_le h3
          rw [← HRE.out] at h4
          exact h4
        rw [H5.out.2.2]
        omega
      have hy0 : ((yn : Int) == 0) = false := by simp; omega
      have H6 := Lib.hid (And.intro hv.1 (And.intro ho6 (And.intro hr6 H5.out.2.2)))
      clear hv hb6 ho6 hr6 hnx2 H5
      generalize w5.heap.size = mk at H6 ⊢
      obtain ⟨vs, hvs⟩ := H6.out.2.1.recs
      have hvn : vs.length = m := by rw [hvs.len]; exact Hm.out.symm
      have HV := Lib.hid (And.intro hvs hvn)
      have hm1 : m ≤ 10000 := by have := Hm.out; have := HG.out.2; have := HR.out.1.nx.ok.n2; have := HR.out.2.2.2; omega
      clear hvs hvn
      go_upto_region 11 with (refine wpList_app_recQ (te := 44) (ti := 93) (by decide) slr_typ Tryd.underlying59 (by rfl) (.tmp 68) (.tmp 70) (by rfl) HV.out.1 HV.out.2 H6.out.2.2.1 (by rfl) (by rfl) hm1 H6.out.2.1.bel.size fun v' w7 q1 q2 q3 q4 => ?_; have H7 := Lib.hid (And.intro q1 (And.intro q2 q3)); clear q1 q2 q3 q4)
      have hrg7 : IsRg 68 w7 rr kb s' := IsRg.but H6.out.2.1.nx.isrr H7.out.2.1 (fun e => HV.out.1.out.no_blk H6.out.2.1.nx.isrr (by decide) e)
      have hmk7 : IsBlk w7 mk (nv .u8 R.2) 23 := H7.out.2.1.blk H6.out.1 (fun e => HV.out.1.out.no_blk H6.out.1 (by decide) e)
      have hbh := rbehind_any hrg7 HR.out.1.nx.ok yn hyn2 R.2 HT.out.1
      have H8 := Lib.hid (And.intro hmk7 hrg7)
      clear hmk7 hrg7
      go_wp2_with (first
        | (refine wpList_load_row (by rfl) 23 (.tmp 14) (by rfl) mk (by rfl) 23 (nv .u8 R.2) (0, 0) _ H8.out.1 Tryd.underlying23 rfl (by rw [nv_size, HT.out.1]; kernel_rfl) ?_)
        | (go_at_call 41; (with_reducible refine hbh.mono ?_); rintro e w8 ⟨⟨v8, rfl⟩, h8, hb8⟩; have H9 := Lib.hid (And.intro h8 hb8); clear h8 hb8))
      go_roundg (s.n + 1 - (L.length + 1))
      case measure => have := HG.out; omega
      case rel =>
        have hbel : Below W.heap.size W _ := (H6.out.2.1.bel.trans H7.out.2.2).trans (H9.out.2.below (Nat.le_trans H6.out.2.1.bel.size H7.out.2.2.size) (fun k hk => by rw [hk]; exact HR.out.1.hrr))
        refine ⟨s'.behind R.1.length R.2, L ++ [R.1], by simp, ⟨hbel, ⟨?_, ?_, ?_, HR.out.1.nx.on, HR.out.1.nx.kk, HR.out.1.nx.n2⟩, HR.out.1.hrr, ?_⟩, ?_, ?_, HR.out.2.2.2⟩
        · rw [← H6.out.2.2.2]
          exact H9.out.1
        · obtain ⟨l, e⟩ := HT.out.2.1.2.2
          rw [e]
          exact HR.out.1.nx.ok.behind _ HT.out.2.1.2.1 _
        · obtain ⟨B, fb, cap2, av, wv, hr⟩ := HH.out.1
          exact ⟨B, fb, cap2, av, wv, hr.below hbel⟩
        · exact ⟨_, H7.out.1.other H8.out.2 (by decide) (by decide) H9.out.2⟩
        · rw [HR.out.2.1, List.length_append, List.length_singleton, show s.n + 1 - L.length = (s.n + 1 - (L.length + 1)) + 1 by have := HG.out.2; omega, openP_some (by rw [← HRE.out]; exact HT.out.2.2), ← HRE.out, List.append_assoc]
          rfl
        · rw [List.length_append, List.length_singleton]
          show L.length + 1 ≤ s'.used + takes R.1.length
          have := takes_pos R.1.length
          have := HR.out.2.2.1
          omega
      -- }
set_option maxRecDepth 100000 in
set_option maxHeartbeats 4000000 in
theorem ropen_bad (W : World) {kb : Nat} {d : DK} (first n place num : Int) (last : List Nat) (hrd : ∃ B fb cap av wv, IsRd W B kb fb cap av wv d) (h1 : d.firm.length ≤ 4096) (hbad : OpenBad first n place ((d.firm.length : Nat) : Int)) :
    Calls Tryd.prog 19 #[.pointer (some ⟨kb, 0, none⟩), .int .i64 first, .int .i64 n, markV place num last] W fun e w' => e = .returned (.tuple #[.pointer none, .slice none 0 0, .int .i64 1]) ∧ Below W.heap.size W w' := by
  unfold OpenBad at hbad
  go_enter Tryd.func19, Tryd.ntmps19
  unfold markV
  go_upto_region 1 with fail
  change Code.wp _ _ _ _ (W.alloc (.cells (.int .i64 place :: .int .u64 num :: bv last).toArray 38))
  have hn : IsBlk (W.alloc (.cells (.int .i64 place :: .int .u64 num :: bv last).toArray 38)) W.heap.size (.int .i64 place :: .int .u64 num :: bv last).toArray 38 := IsBlk.new _ _ _
  have hb : Below W.heap.size W (W.alloc (.cells (.int .i64 place :: .int .u64 num :: bv last).toArray 38)) := (Below.refl _ _).alloc (Nat.le_refl _) _
  generalize W.alloc (.cells (.int .i64 place :: .int .u64 num :: bv last).toArray 38) = w1 at hn hb ⊢
  obtain ⟨B, fb, cap, av, wv, hr⟩ := hrd
  have cd := (hr.below hb).c0
  have cp := hn.cell 0 (v := .int .i64 place) rfl
  generalize d.firm.length = sz at cd h1 hbad
  have HB := Lib.hid hb
  clear hn hb hr
  generalize hmb : W.heap.size = mb at *
  have HMB := Lib.hid hmb
  clear hmb
  by_cases q1 : first < 0
  · clear hbad
    go_wp2_with fail
    go_ret3
    exact ⟨rfl, by first | exact HB.out | (rw [HMB.out]; exact HB.out)⟩
  by_cases q2 : n < 96
  · clear hbad
    go_wp2_with fail
    go_ret3
    exact ⟨rfl, by first | exact HB.out | (rw [HMB.out]; exact HB.out)⟩
  by_cases q3 : 4096 < n
  · clear hbad
    go_wp2_with fail
    go_ret3
    exact ⟨rfl, by first | exact HB.out | (rw [HMB.out]; exact HB.out)⟩
  by_cases q4 : (sz : Int) - n < first
  · clear hbad
    go_wp2_with fail
    go_ret3
    exact ⟨rfl, by first | exact HB.out | (rw [HMB.out]; exact HB.out)⟩
  by_cases q5 : place < 0
  · clear hbad
    go_wp2_with fail
    go_ret3
    exact ⟨rfl, by first | exact HB.out | (rw [HMB.out]; exact HB.out)⟩
  have q6 : n ≤ place := by omega
  clear hbad
  go_wp2_with fail
  go_ret3
  exact ⟨rfl, by first | exact HB.out | (rw [HMB.out]; exact HB.out)⟩
end Go.Proofs.YtkabkehfckbhcaaDoor
