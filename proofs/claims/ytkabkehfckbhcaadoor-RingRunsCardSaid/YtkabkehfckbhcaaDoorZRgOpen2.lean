/-
  ring: Open, where nothing is refused.
-/
import Derived.Test.YtkabkehfckbhcaaDoorZRgOpen
import Derived.Test.YtkabkehfckbhcaaDoorZRgSeek
import Derived.Deep.LoopGhost
namespace Go.Proofs.YtkabkehfckbhcaaDoor
set_option linter.unusedVariables false
set_option linter.unusedSimpArgs false
open Go.RowKit

/-- What look finds. -/
theorem look_ok {s : RS} {d : DK} (h : (s.look d).1 ≠ []) : 1 ≤ (s.look d).1.length ∧ takes (s.look d).1.length ≤ s.n - s.used ∧ ∃ l, (s.look d).2 = digest l := by
  unfold RS.look at *
  simp only at *
  split at h
  · rename_i e
    rw [if_pos e]
    simp only [List.length_map, List.length_range]
    exact ⟨e.2.2.1, e.2.2.2.2.1, _, rfl⟩
  · exact absurd rfl h
theorem openP_none {d : DK} {f : Nat} {s : RS} (h : (s.look d).1 = []) : openP d (f + 1) s = (s, []) := by
  unfold openP
  simp only
  rw [if_pos h]
theorem openP_some {d : DK} {f : Nat} {s : RS} (h : (s.look d).1 ≠ []) : openP d (f + 1) s = ((openP d f (s.behind (s.look d).1.length (s.look d).2)).1, (s.look d).1 :: (openP d f (s.behind (s.look d).1.length (s.look d).2)).2) := by
  conv => lhs; unfold openP
  simp only
  rw [if_neg h]
/-- What Open's loop keeps. -/
structure OpenI (W wr : World) (rb db : Nat) (s : RS) (v : Value) (L : List (List CH)) (n kk : Nat) (d : DK) : Prop where
  bel : Below W.heap.size W wr
  rg : IsRg 100 wr rb db s
  hrb : W.heap.size ≤ rb
  recs : ∃ vs, Recs wr W.heap.size v vs L
  ok : RSok s n
  dk : Dk 0 W db d
  on : OnB n kk d
theorem OpenI.rh {W wr : World} {rb db : Nat} {s : RS} {v : Value} {L : List (List CH)} {n kk : Nat} {d : DK} (h : OpenI W wr rb db s v L n kk d) : RecH wr rb db s n kk d := ⟨h.rg, h.ok, h.dk.below h.bel, h.on⟩
theorem OpenI.slice {W wr : World} {rb db : Nat} {s : RS} {v : Value} {L : List (List CH)} {n kk : Nat} {d : DK} (h : OpenI W wr rb db s v L n kk d) : ∃ a m cap, v = .slice a m cap ∧ Hid (m = L.length) := by
  obtain ⟨vs, hr⟩ := h.recs
  obtain ⟨a, cap, e⟩ := hr.out.slice
  exact ⟨a, _, cap, e, Lib.hid hr.len⟩
theorem OpenI.below {W wr w' : World} {rb db : Nat} {s : RS} {v : Value} {L : List (List CH)} {n kk : Nat} {d : DK} (h : OpenI W wr rb db s v L n kk d) (hb : Below wr.heap.size wr w') : OpenI W w' rb db s v L n kk d := by
  obtain ⟨vs, hr⟩ := h.recs
  exact ⟨h.bel.trans (hb.mono h.bel.size), h.rg.below hb, h.hrb, ⟨vs, hr.below hb⟩, h.ok, h.dk, h.on⟩
theorem mk_var (w : World) (z cs : Array Value) (t : TypeId) : IsBlk ((w.alloc (.cells z t)).setRow w.heap.size cs) w.heap.size cs t ∧ Below w.heap.size w ((w.alloc (.cells z t)).setRow w.heap.size cs) :=
  ⟨isBlk_setRow (IsBlk.new _ _ _) _, below_setRow ((Below.refl _ _).alloc (Nat.le_refl _) _) _ (Nat.le_refl _) _⟩
theorem recorded {W wr : World} {rb db : Nat} {s : RS} {v : Value} {L : List (List CH)} {n kk : Nat} {d : DK} (h : OpenI W wr rb db s v L n kk d) {R : List CH × List Nat} (hR : s.look d = R) : Calls Tryd.prog 39 #[.pointer (some ⟨rb, 0, none⟩)] wr fun e w' => Below wr.heap.size wr w' ∧
    ((R.1 = [] ∧ e = .returned (.tuple #[.slice none 0 0, .agg (markL zeroM).toArray, .int .i64 0, .nilIface])) ∨
     (R.1 ≠ [] ∧ ∃ v, RowF w' wr.heap.size 79 65 chF v R.1 ∧ e = .returned (.tuple #[v, .agg (markL (s.behind R.1.length R.2)).toArray, .int .i64 ((takes R.1.length : Nat) : Int), .nilIface]))) := by
  subst hR
  exact record_walk h.rh
set_option maxRecDepth 100000 in
set_option maxHeartbeats 8000000 in
theorem open_ok {W : World} {db : Nat} {s : RS} {n kk : Nat} {d : DK} (hdk : Dk 0 W db d) (hon : OnB n kk d) (hok : RSok s n) (hu : s.used = 0) :
    Calls Tryd.prog 18 #[.pointer (some ⟨db, 0, none⟩), .int .i64 ((s.first : Nat) : Int), .int .i64 ((s.n : Nat) : Int), .agg (markL s).toArray] W fun e w' => ∃ rb v, e = .returned (.tuple #[.pointer (some ⟨rb, 0, none⟩), v, .nilIface]) ∧ OpenI W w' rb db (openP d (s.n + 1) s).1 v (openP d (s.n + 1) s).2 n kk d := by
  have HH := Lib.hid (And.intro hdk (And.intro hon (And.intro hok hu)))
  go_enter Tryd.func18, Tryd.ntmps18
  go_upto_region 1 with fail
  change Code.wp _ _ _ _ (W.alloc (.cells (markL s).toArray 25))
  have hn : IsBlk (W.alloc (.cells (markL s).toArray 25)) W.heap.size (markL s).toArray 25 := IsBlk.new _ _ _
  have hb : Below W.heap.size W (W.alloc (.cells (markL s).toArray 25)) := (Below.refl _ _).alloc (Nat.le_refl _) _
  generalize W.alloc (.cells (markL s).toArray 25) = w1 at hn hb ⊢
  have hs1 := (hdk.below hb).size
  rw [hon.len] at hs1
  have cp := hn.cell 0 (v := .int .i64 ((s.place : Nat) : Int)) rfl
  have H1 := Lib.hid (And.intro hn hb)
  have hn2 : n ≤ 4096 := by
    obtain ⟨fb, mb, cap, cv, hd⟩ := hdk
    have h1 := hd.n2
    rw [hon.len] at h1
    exact h1
  have i1 := hok.n1
  have i2 := hok.n2
  have i3 := hok.fit
  have i4 := hok.place
  have i5 : ¬ ((s.n : Int) < 96) := by omega
  have i6 : ¬ (4096 < (s.n : Int)) := by omega
  have i7 : ¬ ((n : Int) - (s.n : Int) < (s.first : Int)) := by omega
  have i8 : ¬ ((s.n : Int) ≤ (s.place : Int)) := by omega
  clear hn hb hdk hon hok hu
  generalize hmb : W.heap.size = mb at H1 cp ⊢
  have HMB := Lib.hid hmb
  clear hmb
  go_upto_region 3 with (go_at_call 38; (with_reducible refine hs1.mono ?_); rintro e w2 ⟨rfl, hw2⟩; obtain rfl := hw2.symm)
  have hmk3 := H1.out.1
  go_upto_region 4 with (first
    | (refine wpList_load_row (by rfl) 25 (.tmp 7) (by rfl) mb (by rfl) 25 (markL s).toArray (0, 0) _ H1.out.1 Tryd.underlying25 rfl (mark_info HH.out.2.2.1.len) ?_)
    | (refine wpList_build (by rfl) 100 #[(0, .tmp 48), (1, .tmp 49), (2, .tmp 50), (3, .tmp 51)] (by rfl) (ringL db s).toArray (by exact built_ring db s HH.out.2.2.1.len HH.out.2.2.2) ?_))
  change Code.wp _ _ _ _ (w1.alloc (.cells (ringL db s).toArray 100))
  have hrg : IsRg 100 (w1.alloc (.cells (ringL db s).toArray 100)) w1.heap.size db s := IsBlk.new _ _ _
  have hle : W.heap.size ≤ w1.heap.size := by have := H1.out.2.size; have := HMB.out; omega
  have hb2 : Below W.heap.size W (w1.alloc (.cells (ringL db s).toArray 100)) := by rw [HMB.out]; exact H1.out.2.alloc (by have := HMB.out; omega) _
  have hoi : OpenI W (w1.alloc (.cells (ringL db s).toArray 100)) w1.heap.size db s (.slice none 0 0) [] n kk d := ⟨hb2, hrg, hle, ⟨[], RecsT.nil _ _ _ _⟩, HH.out.2.2.1, HH.out.1, HH.out.2.1⟩
  generalize w1.alloc (.cells (ringL db s).toArray 100) = w2 at hoi ⊢
  generalize w1.heap.size = rb at hoi ⊢
  have HO := Lib.hid hoi
  clear hrg hle hb2 hoi hmk3 cp hs1 i1 i3 i4 i5 i6 i7 i8 hn2
  go_wp2_with fail
  go_loopg [12] (s.n + 1) (fun g v wr => ∃ s' L, g = s.n + 1 - L.length ∧ Hid (OpenI W wr rb db s' v L n kk d ∧ openP d (s.n + 1) s = ((openP d (s.n + 1 - L.length) s').1, L ++ (openP d (s.n + 1 - L.length) s').2) ∧ L.length ≤ s'.used ∧ s'.n = s.n))
  case atStart => exact ⟨s, [], rfl, HO.out, rfl, by simp, rfl⟩
  case round =>
    obtain ⟨s', L, hg, HR⟩ := hrel
    obtain ⟨a, m, cap, rfl, Hm⟩ := HR.out.1.slice
    have hLn : L.length ≤ s.n := by have := HR.out.1.ok.used; have := HR.out.2.2; omega
    have hrec := recorded HR.out.1 (R := s'.look d) rfl
    obtain ⟨R, hR⟩ : ∃ R, R = s'.look d := ⟨_, rfl⟩
    rw [← hR] at hrec
    have HRE := Lib.hid hR
    have HG := Lib.hid (And.intro hg hLn)
    clear hR hg
    by_cases hne : R.1 = []
    · -- {
      have hrec1 : Calls Tryd.prog 39 #[.pointer (some ⟨rb, 0, none⟩)] wr fun e w' => e = .returned (.tuple #[.slice none 0 0, .agg (markL zeroM).toArray, .int .i64 0, .nilIface]) ∧ Below wr.heap.size wr w' := hrec.mono (fun e w' h => ⟨(h.2.elim (fun x => x.2) (fun x => absurd hne x.1)), h.1⟩)
      have HNE := Lib.hid hne
      clear hrec hne
      go_wp2_with (first
        | (go_at_call 39; (with_reducible refine hrec1.mono ?_); rintro e w5 ⟨rfl, hb5⟩; have H5 := Lib.hid hb5; clear hb5)
        | (refine wpList_alloc_info (by rfl) 25 (by rfl) (.agg (markL zeroM).toArray) (markL zeroM).toArray (by kernel_rfl) rfl ?_)
        | (refine wpList_store_row (by rfl) 25 (.tmp 14) (.tmp 58) (by rfl) _ (markL zeroM).toArray (by rfl) (by rfl) 25 (markL zeroM).toArray (heap_alloc_new _ _) (mark_info (s := zeroM) rfl) rfl (markL_one _) ?_))
      go_ret3
      refine ⟨rb, .slice a m cap, rfl, ?_⟩
      have hfe : openP d (s.n + 1 - L.length) s' = (s', []) := by
        rw [show s.n + 1 - L.length = (s.n - L.length) + 1 by have := HG.out.2; omega]
        exact openP_none (by rw [← HRE.out]; exact HNE.out)
      rw [HR.out.2.1, hfe]
      show OpenI W _ rb db s' _ (L ++ []) n kk d
      rw [List.append_nil]
      exact HR.out.1.below (H5.out.trans ((mk_var w5 _ (markL zeroM).toArray 25).2.mono H5.out.size))
      -- }
    · -- {
      have hlo := look_ok (s := s') (d := d) (by rw [← HRE.out]; exact hne)
      rw [← HRE.out] at hlo
      have hrec2 : Calls Tryd.prog 39 #[.pointer (some ⟨rb, 0, none⟩)] wr fun e w' => ∃ ya yn yc, e = .returned (.tuple #[.slice ya yn yc, .agg (markL (s'.behind R.1.length R.2)).toArray, .int .i64 ((takes R.1.length : Nat) : Int), .nilIface]) ∧ RowF w' wr.heap.size 79 65 chF (.slice ya yn yc) R.1 ∧ Below wr.heap.size wr w' := hrec.mono (fun e w' h => by
        rcases h.2 with x | ⟨_, v, hv, he⟩
        · exact absurd x.1 hne
        · obtain ⟨ya, yc, e2⟩ := hv.slice
          subst e2
          exact ⟨ya, _, yc, he, hv, h.1⟩)
      obtain ⟨T, hT⟩ : ∃ T, T = takes R.1.length := ⟨_, rfl⟩
      rw [← hT] at hrec2
      have hT1 : 1 ≤ T := by rw [hT]; exact takes_pos _
      have hT2 : T ≤ 4096 := by have := hlo.2.1; have := HR.out.2.2.2; rw [hT]; omega
      have hT0 : ((T : Int) == 0) = false := by simp; omega
      have hnu : s'.used + T ≤ s'.n := by have := hlo.2.1; have := HR.out.1.ok.used; rw [hT]; omega
      have hmk : (s'.behind R.1.length R.2).last.length = 32 := by
        obtain ⟨l, e⟩ := hlo.2.2
        show R.2.length = 32
        rw [e]
        exact digest_length _
      have HT := Lib.hid (And.intro hT (And.intro hmk (And.intro hlo hne)))
      clear hrec hne hT hmk hlo
      go_upto_region 10 with (first
        | (go_at_call 39; (with_reducible refine hrec2.mono ?_); rintro e w5 ⟨ya, yn, yc, rfl, hr5, hb5⟩; have H5 := Lib.hid (And.intro hr5 hb5); clear hr5 hb5)
        | (refine wpList_alloc_info (by rfl) 25 (by rfl) (.agg (markL zeroM).toArray) (markL zeroM).toArray (by kernel_rfl) rfl ?_)
        | (refine wpList_store_row (by rfl) 25 (.tmp 14) (.tmp 58) (by rfl) _ (markL (s'.behind R.1.length R.2)).toArray (by rfl) (by rfl) 25 (markL zeroM).toArray (heap_alloc_new _ _) (mark_info HT.out.2.1) (by rw [markL_size HT.out.2.1]; rfl) (markL_one _) ?_))
      have hv := mk_var w5 (markL zeroM).toArray (markL (s'.behind R.1.length R.2)).toArray 25
      generalize (w5.alloc (.cells (markL zeroM).toArray 25)).setRow w5.heap.size (markL (s'.behind R.1.length R.2)).toArray = w6 at hv ⊢
      have hb6 : Below wr.heap.size wr w6 := H5.out.2.trans (hv.2.mono H5.out.2.size)
      have ho6 := HR.out.1.below hb6
      have hr6 := (H5.out.1.below hv.2).mono HR.out.1.bel.size
      have H6 := Lib.hid (And.intro hv.1 (And.intro ho6 hr6))
      clear hv hb6 ho6 hr6 hrec2
      generalize w5.heap.size = mk at H6 ⊢
      obtain ⟨vs, hvs⟩ := H6.out.2.1.recs
      have hvn : vs.length = m := by rw [hvs.len]; exact Hm.out.symm
      have HV := Lib.hid (And.intro hvs hvn)
      have hm1 : m ≤ 10000 := by have := Hm.out; have := HG.out.2; have := HR.out.1.ok.n2; have := HR.out.2.2.2; omega
      clear hvs hvn
      go_upto_region 11 with (refine wpList_app_rec (by rfl) (.tmp 69) (.tmp 71) (by rfl) HV.out.1 HV.out.2 H6.out.2.2 (by rfl) (by rfl) hm1 H6.out.2.1.bel.size fun v' w7 q1 q2 q3 => ?_; have H7 := Lib.hid (And.intro q1 (And.intro q2 q3)); clear q1 q2 q3)
      have hrg7 : IsRg 100 w7 rb db s' := IsRg.but H6.out.2.1.rg H7.out.2.1 (fun e => HV.out.1.out.no_blk H6.out.2.1.rg (by decide) e)
      have hmk7 : IsBlk w7 mk (markL (s'.behind R.1.length R.2)).toArray 25 := H7.out.2.1.blk H6.out.1 (fun e => HV.out.1.out.no_blk H6.out.1 (by decide) e)
      have hset := IsRg.setMark hrg7 HR.out.1.ok.len (m := s'.behind R.1.length R.2) HT.out.2.1
      have hth : w7.there rb 3 34 := isBlk_there hrg7 3 34 (by rw [ringL_length HR.out.1.ok.len]; decide)
      have hbm : But (fun k => k = rb) w7 (w7.setCells rb 3 (markL (s'.behind R.1.length R.2))) := (But.refl (fun k => k = rb) w7).setCells (g := rb) rfl _ _
      have H8 := Lib.hid (And.intro hmk7 (And.intro hset (And.intro hth (And.intro hbm hrg7))))
      clear hmk7 hset hth hbm hrg7
      have hml : (markL (s'.behind R.1.length R.2)).toArray.size = 34 := markL_size HT.out.2.1
      go_upto_region 12 with (first
        | (refine wpList_load_row (by rfl) 25 (.tmp 14) (by rfl) mk (by rfl) 25 (markL (s'.behind R.1.length R.2)).toArray (0, 0) _ H8.out.1 Tryd.underlying25 rfl (mark_info HT.out.2.1) ?_)
        | (refine wpList_store_mid (by rfl) 25 (.tmp 76) (.tmp 74) (by rfl) rb 3 (markL (s'.behind R.1.length R.2)).toArray (by rfl) (by rfl) (by rw [hml]; exact H8.out.2.2.1) (by rw [hml]; kernel_rfl) (markL_one _) ?_))
      change Code.wp _ _ _ _ (w7.setCells rb 3 (markL (s'.behind R.1.length R.2)))
      generalize w7.setCells rb 3 (markL (s'.behind R.1.length R.2)) = w8 at H8 ⊢
      have c37 := IsRg.c37 H8.out.2.1 HT.out.2.1
      have z37 := IsBlk.fz H8.out.2.1 37
      have hus : (s'.used : Int) + (T : Int) = ((s'.used + T : Nat) : Int) := by omega
      have hset := IsRg.setUsed H8.out.2.1 HT.out.2.1 (s'.used + T)
      have hb9 : But (fun k => k = rb) w8 (w8.setCell ⟨rb, 37, none⟩ (.int .i64 ((s'.used + T : Nat) : Int))) := (But.refl (fun k => k = rb) w8).setCell (p := ⟨rb, 37, none⟩) rfl _
      rw [← hus] at hset hb9
      have hub : (s'.used : Int) + (T : Int) ≤ 4096 := by have := HR.out.1.ok.n2; omega
      have HS := Lib.hid (And.intro hset (H8.out.2.2.2.1.trans hb9))
      clear hset hb9 hus
      go_wp2_with fail
      go_roundg (s.n + 1 - (L.length + 1))
      case measure => have := HG.out; omega
      case rel =>
        refine ⟨s'.behind R.1.length R.2, L ++ [R.1], by simp, ⟨?_, ?_, ?_, ?_, ?_, HR.out.1.dk, HR.out.1.on⟩, ?_, ?_, HR.out.2.2.2⟩
        · exact (H6.out.2.1.bel.trans (H7.out.2.2)).trans (HS.out.2.below (Nat.le_trans H6.out.2.1.bel.size H7.out.2.2.size) (fun k hk => by rw [hk]; exact HR.out.1.hrb))
        · refine Eq.mp (congrArg (IsRg 100 _ rb db) ?_) HS.out.1
          rw [HT.out.1]
          rfl
        · exact HR.out.1.hrb
        · exact ⟨_, H7.out.1.other H8.out.2.2.2.2 (by decide) (by decide) HS.out.2⟩
        · obtain ⟨l, e⟩ := HT.out.2.2.1.2.2
          rw [e]
          exact HR.out.1.ok.behind _ HT.out.2.2.1.2.1 _
        · rw [HR.out.2.1, List.length_append, List.length_singleton, show s.n + 1 - L.length = (s.n + 1 - (L.length + 1)) + 1 by have := HG.out.2; omega, openP_some (by rw [← HRE.out]; exact HT.out.2.2.2), ← HRE.out, List.append_assoc]
          rfl
        · rw [List.length_append, List.length_singleton]
          show L.length + 1 ≤ s'.used + takes R.1.length
          have := takes_pos R.1.length
          have := HR.out.2.2.1
          omega
      -- }
end Go.Proofs.YtkabkehfckbhcaaDoor
