/-
  ring: RingRounds walked.
-/
import Derived.Test.YtkabkehfckbhcaaDoorZRgRound1
namespace Go.Proofs.YtkabkehfckbhcaaDoor
set_option linter.unusedVariables false
set_option linter.unusedSimpArgs false
open Go.RowKit

theorem new100 (w : World) : Calls Tryd.prog 9 #[.int .i64 100] w fun e w' => ∃ db, e = .returned (.tuple #[.pointer (some ⟨db, 0, none⟩), .nilIface]) ∧ Dk w.heap.size w' db (DK.new 100) ∧ Below w.heap.size w w' := new_D w 100 (by decide) (by decide)
def RSR : RS := ⟨0, 100, 0, 7, List.replicate 32 0, 0⟩
theorem rsr_ok : RSok RSR 100 := ⟨by decide, by decide, by decide, by decide, by decide, rfl, fun c hc => by rw [List.eq_of_mem_replicate hc]; decide, by decide⟩
theorem built_mark7 : Tryd.prog.built 25 [(1, .int .u64 7)] = some (markL RSR).toArray := by kernel_rfl
theorem rsr_open : openP (DK.new 100) 101 RSR = (RSR, []) := (RoundI.start rsr_ok rfl).open_ (by decide)
theorem tup_info (x y : Int) : (Tryd.prog.info? 40).map (·.size) = some (tupF [x, y]).toArray.size := by kernel_rfl
set_option maxRecDepth 100000 in
set_option maxHeartbeats 8000000 in
theorem rounds_walk (v0 : Value) (D0 : D) (W : World) (r0 : RdV Tryd.prog W 26 v0 D0) (hg : HasET W) :
    Calls Tryd.prog 6 #[v0] W fun e w' => e = .returned (.bool true) ∧ Below W.heap.size W w' := by
  obtain ⟨ca, cc, l, rfl, hcc, hll, hcs⟩ := r0.tup2
  have hcz := r0.capz2 rfl
  obtain ⟨n, hn⟩ : ∃ n, n = l.length := ⟨_, rfl⟩
  rw [← hn] at hcc hll ⊢
  have HA := Lib.hid (And.intro hcs (And.intro hcz (And.intro hn hcc)))
  have hll2 : (n : Int) ≤ 35184372088832 := by omega
  clear hcs hcz hcc hn r0 hg
  have hfew := fun w => few_any w ca n cc hll2
  go_enter Tryd.func6, Tryd.ntmps6
  by_cases h40 : (n : Int) ≤ 40
  · have hn40 : n ≤ 40 := by omega
    rw [decide_eq_true h40] at hfew
    go_upto_region 6 with (first
      | (go_at_call 7; (with_reducible refine (stands_any _).mono ?_); rintro e w1 ⟨rfl, hb1⟩; have H1 := Lib.hid hb1; clear hb1)
      | (go_at_call 8; (with_reducible refine (hfew _).mono ?_); rintro e w' ⟨rfl, hw'⟩; obtain rfl := hw'.symm)
      | (go_at_call 9; (with_reducible refine (new100 _).mono ?_); rintro e w2 ⟨db, rfl, h2, hb2⟩; have H2 := Lib.hid (And.intro h2 hb2); clear h2 hb2))
    clear hfew
    have hop := open_ok (s := RSR) (H2.out.1.base (Nat.zero_le _)) (onB_new 100) rsr_ok rfl
    rw [show RSR.n + 1 = 101 from rfl, rsr_open] at hop
    go_upto_region 9 with (first
      | (refine wpList_build (by rfl) 25 #[(1, .const (.int .u64 7))] (by rfl) (markL RSR).toArray (by exact built_mark7) ?_)
      | (go_at_call 18; refine hop.mono ?_; rintro e w3 ⟨rb, v3, rfl, h3⟩; have H3 := Lib.hid h3; clear h3))
    clear hop
    have hhd := head_any H3.out.rg rfl
    go_upto_region 11 with (first
      | (go_at_call 26; (with_reducible refine hhd.mono ?_); rintro e w4 ⟨rfl, hb4⟩; have H4 := Lib.hid hb4; clear hb4)
      | (refine wpList_alloc_info (by rfl) 25 (by rfl) (.agg (markL zeroM).toArray) (markL zeroM).toArray (by kernel_rfl) rfl ?_)
      | (refine wpList_store_row (by rfl) 25 (.tmp 8) (.tmp 35) (by rfl) _ (markL RSR).toArray (by rfl) (by rfl) 25 (markL zeroM).toArray (heap_alloc_new _ _) (mark_info (s := RSR) rfl) rfl (markL_one _) ?_))
    clear hhd
    have hv := mk_var w4 (markL zeroM).toArray (markL RSR).toArray 25
    generalize (w4.alloc (.cells (markL zeroM).toArray 25)).setRow w4.heap.size (markL RSR).toArray = w5 at hv ⊢
    have hb35 : Below w3.heap.size w3 w5 := H4.out.trans (hv.2.mono H4.out.size)
    have hbW3 : Below W.heap.size W w3 := (H1.out.trans (H2.out.2.mono H1.out.size)).trans (H3.out.bel.mono (Nat.le_trans H1.out.size H2.out.2.size))
    have hbW5 : Below W.heap.size W w5 := hbW3.trans (hb35.mono hbW3.size)
    have H5 := Lib.hid (And.intro hv.1 (And.intro hb35 hbW5))
    clear hv hb35 hbW3 hbW5
    have hfle : w3.heap.size ≤ w4.heap.size := H4.out.size
    generalize hfb : w4.heap.size = fb at *
    have HFB := Lib.hid (And.intro hfb hfle)
    clear hfb hfle
    have hs5 := (HA.out.1.below H5.out.2.2).src (fun e => by have := HA.out.2.1 e; have := HA.out.2.2.2; have := HA.out.2.2.1; omega)
    rw [← HA.out.2.2.1] at hs5
    have hf2 : ∀ z ∈ l, z.length = 2 := fun z hz => (HA.out.1.ok z hz).1
    have HS5 := Lib.hid (And.intro hs5 (And.intro hf2 HA.out.2.1))
    clear hs5 hf2
    go_upto_block 0 with (first
      | (refine wpList_app_tup (by rfl) (.const (.slice none 0 0)) (.tmp 36) (by rfl) (RowF.nil w5 w5.heap.size _ _ _) rfl (by rfl) (by rfl) HS5.out.1 HS5.out.2.1 HA.out.2.2.1.symm HS5.out.2.2 (by omega) (Nat.le_refl _) fun v6 w6 q1 q2 => ?_; rw [List.nil_append] at q1; obtain ⟨a6, c6, e6⟩ := q1.slice; rw [← HA.out.2.2.1] at e6; subst e6; have hs6 := (HA.out.1.below (H5.out.2.2.trans (q2.mono H5.out.2.2.size))).src (fun e => by have := HA.out.2.1 e; have := HA.out.2.2.2; have := HA.out.2.2.1; omega); rw [← HA.out.2.2.1] at hs6; have H6 := Lib.hid (And.intro q1 (And.intro q2 hs6)); clear q1 q2 hs6)
      | (refine wpList_app_tup (by rfl) (.tmp 37) (.tmp 38) (by rfl) H6.out.1 HA.out.2.2.1.symm (by rfl) (by rfl) H6.out.2.2 HS5.out.2.1 HA.out.2.2.1.symm HS5.out.2.2 (by omega) H6.out.2.1.size fun v7 w7 q1 q2 => ?_; obtain ⟨a7, c7, e7⟩ := q1.slice; rw [List.length_append, ← HA.out.2.2.1] at e7; obtain ⟨m, hm⟩ : ∃ m, m = n + n := ⟨_, rfl⟩; rw [← hm] at e7; subst e7; have H7 := Lib.hid (And.intro q1 (And.intro (H6.out.2.1.trans q2) hm)); clear q1 q2 hm))
    have hm80 : m ≤ 80 := by have := H7.out.2.2; omega
    have hb37 : Below w3.heap.size w3 w7 := H5.out.2.1.trans (H7.out.2.1.mono H5.out.2.1.size)
    have hb27 : Below w2.heap.size w2 w7 := H3.out.bel.trans (hb37.mono H3.out.bel.size)
    have hbW7 : Below W.heap.size W w7 := H5.out.2.2.trans (H7.out.2.1.mono H5.out.2.2.size)
    have hrr : RR W w1.heap.size w7 rb db fb (l ++ l) (.slice a7 m c7) RSR RSR (.slice none 0 0) [] [] [] 0 (DK.new 100) (fun k => w2.heap.size ≤ k ∧ k < w7.heap.size) := by
      have hfbl : fb < w5.heap.size := H5.out.1.lt
      have h57 := H7.out.2.1.size
      have h23 := H3.out.bel.size
      refine ⟨(H2.out.1.keep.below hb27).fewer (fun k hk => hk.1), fun k hk => hk.2, ⟨H3.out.hrb, Nat.lt_of_lt_of_le (IsBlk.lt H3.out.rg) hb37.size⟩, H3.out.rg.below hb37, RoundI.start rsr_ok rfl, H5.out.1.below H7.out.2.1 H5.out.1.lt, ⟨by have := HFB.out; omega, by omega⟩, RecsT.nil _ _ _ _, (fun k hk => by simp [Value.ownBlock] at hk), (fun x hx => by cases hx), H7.out.1.mono (Nat.le_trans H2.out.2.size (Nat.le_trans h23 H5.out.2.1.size)), fun k hk => ⟨Nat.le_trans (Nat.le_trans h23 H5.out.2.1.size) (H7.out.1.base_le k hk), H7.out.1.lt k hk⟩, hbW7, H1.out.size, Nat.le_trans H2.out.2.size hb27.size, Nat.le_trans H2.out.2.size H3.out.hrb, by have := HFB.out; have := H2.out.2.size; omega⟩
    have HR0 := Lib.hid hrr
    clear hrr hb37 hb27 hbW7 HFB H5 H6 H7 HS5 H4 H3 H2
    generalize w1.heap.size = B at *
    go_wp2_with fail
    go_loopw [9, 41] (fun va i wr => ∃ j : Nat, ∃ N s0 s us L kk d, j ≤ m ∧ i = .int .i64 j ∧ Hid (RR W B wr rb db fb (l ++ l) (.slice a7 m c7) s0 s va us L L kk d N ∧ s.num = 7 + j ∧ kk ≤ 65 * j ∧ s0.first = 0 ∧ s0.n = 100 ∧ ∀ l ∈ L, ∃ m x, m ≤ 60 ∧ l = chg m x)) (fun _ i _ => m - (intOf i).toNat)
    case atStart => exact ⟨0, _, _, _, _, _, _, _, by omega, rfl, HR0.out, rfl, by omega, rfl, rfl, fun l hl => by cases hl⟩
    case round =>
      obtain ⟨j, N, s0, s, us, L, kk, d, hj, rfl, HR⟩ := hrel
      by_cases hjm : j < m
      · obtain ⟨z, hz⟩ : ∃ z, (l ++ l)[j]? = some z := ⟨_, List.getElem?_eq_getElem (by
          have h1 := HR.out.1.tup.slice
          obtain ⟨a', c', e'⟩ := h1
          obtain ⟨_, e2, _⟩ := slice_inj e'
          omega)⟩
        obtain ⟨g, cg, eg, rg, _⟩ := HR.out.1.tup.range (by decide) hz
        obtain ⟨rfl, -, rfl⟩ := slice_inj eg
        have hzl : z.length = 2 := by
          have := HR.out.1.tup.1 z (List.mem_of_getElem? hz)
          rwa [tupF, List.length_map] at this
        have hzb : ∀ y ∈ z, -9223372036854775808 ≤ y ∧ y ≤ 9223372036854775807 := by
          have := List.mem_of_getElem? hz
          rcases List.mem_append.1 this with x | x
          · exact (HA.out.1.ok z x).2
          · exact (HA.out.1.ok z x).2
        obtain ⟨x0, x1, rfl⟩ : ∃ x0 x1, z = [x0, x1] := by
          match z, hzl with
          | [x0, x1], _ => exact ⟨x0, x1, rfl⟩
        have hx0 := hzb x0 (by simp)
        have hx1 := hzb x1 (by simp)
        have HZ := Lib.hid rg
        clear eg hzl hzb hz rg
        have j1 : (j : Int) < (m : Int) := by omega
        go_upto_region 14 with (first
          | (refine wpList_load_mid (by rfl) 40 (.tmp 44) (by rfl) g (j * 2) (by rfl) (tupF [x0, x1]) _ HZ.out Tryd.underlying40 rfl (by kernel_rfl) ?_)
          | (refine wpList_alloc_info (by rfl) 40 (by rfl) (.agg (tupF [0, 0]).toArray) (tupF [0, 0]).toArray (by kernel_rfl) rfl ?_)
          | (refine wpList_store_row (by rfl) 40 (.tmp 11) (.tmp 45) (by rfl) _ (tupF [x0, x1]).toArray (by rfl) (by rfl) 40 (tupF [0, 0]).toArray (heap_alloc_new _ _) (tup_info x0 x1) rfl (all_oneCell_toArray (tupF_one _)) ?_))
        have hv := mk_var wr (tupF [0, 0]).toArray (tupF [x0, x1]).toArray 40
        generalize (wr.alloc (.cells (tupF [0, 0]).toArray 40)).setRow wr.heap.size (tupF [x0, x1]).toArray = w3 at hv ⊢
        have c0 := hv.1.cell 0 (v := .int .i64 x0) rfl
        have c1 := hv.1.cell 1 (v := .int .i64 x1) rfl
        have hr3 := HR.out.1.below hv.2
        have H3 := Lib.hid hr3
        clear hv hr3
        generalize wr.heap.size = tb at c0 c1 ⊢
        obtain ⟨R, hR⟩ : ∃ R, R = x0.tmod 60 := ⟨_, rfl⟩
        have hR1 : -60 < R ∧ R < 60 := by
          rw [hR]
          have h1 := Int.tmod_lt_of_pos x0 (show (0 : Int) < 60 by decide)
          have h2 := Int.lt_tmod_of_pos x0 (show (0 : Int) < 60 by decide)
          exact ⟨h2, h1⟩
        obtain ⟨Q, hQ⟩ : ∃ Q : Nat, (Q : Int) = (R + 60).tmod 60 := ⟨((R + 60).tmod 60).toNat, by
          have := Int.tmod_nonneg (60 : Int) (show 0 ≤ R + 60 by omega)
          omega⟩
        have hQ1 : Q < 60 := by
          have := Int.tmod_lt_of_pos (R + 60) (show (0 : Int) < 60 by decide)
          omega
        have hRr : x0.tmod 60 = R := hR.symm
        have hQr : (R + 60).tmod 60 = (Q : Int) := hQ.symm
        obtain ⟨M, hM⟩ : ∃ M, M = Q + 1 := ⟨_, rfl⟩
        have hMr : (Q : Int) + 1 = (M : Int) := by omega
        have hM1 : 1 ≤ M := by omega
        have hM60 : M ≤ 60 := by omega
        have hch := fun w => changes_any w M x1 (by omega)
        clear hR hQ hM
        go_upto_region 15 with (go_at_call 14; (with_reducible refine (hch _).mono ?_); rintro e w4 ⟨v4, rfl, hr4, hb4⟩; obtain ⟨ya, yc, e4⟩ := hr4.slice; rw [chg_length] at e4; subst e4; have H4 := Lib.hid (And.intro hr4 hb4); clear hr4 hb4)
        have hrr4 := H3.out.below H4.out.2
        have hrb3 : rb < w3.heap.size := IsBlk.lt H3.out.isrg
        have hch4 : IsChs w4 ya (chg M x1) := IsChs.of_row H4.out.1 (chg_ok (by omega) x1)
        have hcN : ∀ b, ya.map (·.block) = some b → w3.heap.size ≤ b ∧ b < w4.heap.size := fun b hb => by
          cases ya with
          | none => simp at hb
          | some ad =>
            have e : (Value.slice (some ad) M yc).ownBlock = some b := hb
            exact ⟨H4.out.1.base_le b e, H4.out.1.lt b e⟩
        have hfit := fits_any hrr4.isrg hrr4.ri.ok M (by omega)
        have HR4 := Lib.hid (And.intro hrr4 (And.intro hch4 (And.intro hcN hrb3)))
        have HFW := Lib.hid H3.out.fbk.lt
        clear hrr4 hch4 hcN hrb3 H3 H4 HZ hch c0 c1
        obtain ⟨F, hF⟩ : ∃ F, F = s.fits M := ⟨_, rfl⟩
        rw [← hF] at hfit
        have HF := Lib.hid hF
        clear hF
        go_upto_if 59 with (go_at_call 22; (with_reducible refine hfit.mono ?_); rintro e w5 ⟨rfl, k5, hw5⟩; have HB5 := Lib.hid (show Below w4.heap.size w4 w5 from hw5 ▸ drawn_below (Below.refl _ _) k5); clear hw5)
        clear hfit
        go_cut [9] (fun va wx => ∃ N s0 s us L kk d, Hid (RR W B wx rb db fb (l ++ l) (.slice (some ⟨g, 0, none⟩) m c7) s0 s va us L L kk d N ∧ (s.num = 7 + j ∧ kk ≤ 65 * j ∧ s0.first = 0 ∧ s0.n = 100 ∧ ∀ l ∈ L, ∃ m x, m ≤ 60 ∧ l = chg m x) ∧ takes M ≤ s.n - s.used ∧ IsChs wx ya (chg M x1) ∧ ∀ b, ya.map (·.block) = some b → N b ∧ b ≠ rb))
        case first =>
          -- {
          cases F with
          | true =>
            have hfM : takes M ≤ s.n - s.used := by
              have hf := HF.out.symm
              simp only [RS.fits, Bool.and_eq_true, decide_eq_true_eq] at hf
              exact hf.2
            go_wp2_with fail
            go_meet
            refine ⟨_, s0, s, us, L, kk, d, HR4.out.1.below HB5.out, HR.out.2, hfM, HR4.out.2.1.below HB5.out, fun b hb => ?_⟩
            have h1 := HR4.out.2.2.1 b hb
            have h2 := HR4.out.2.2.2
            exact ⟨.inl (.inr h1), by omega⟩
          | false =>
            have j8 : IntKind.u8.wrap (j : Int) = (j : Int) := by rw [IntKind.wrap_u8]; omega
            go_upto_region 16 with fail
            have hr5 := HR4.out.1.below HB5.out
            have hcut := hr5.cut (dg2 j) (dg2_length j) (dg2_byte (by omega))
            have HR5 := Lib.hid hr5
            clear hr5
            go_upto_region 17 with (first
              | (refine wpList_build (by rfl) 23 #[(0, .tmp 62), (1, .const (.int .u8 3))] (by rfl) (nv .u8 (dg2 j)) (by exact built_dg2 j) ?_)
              | (go_at_call 28; (with_reducible refine hcut.mono ?_); rintro e w6 ⟨⟨v6, rfl⟩, h6, hb6⟩; have H6 := Lib.hid (And.intro h6 hb6); clear h6 hb6))
            clear hcut
            have hhd := head_any H6.out.1 (dg2_length j)
            have hfb6 : IsBlk w6 fb (markL s0).toArray 25 := H6.out.2.blk HR5.out.fbk HR5.out.fb_ne
            have HF6 := Lib.hid hfb6
            clear hfb6
            have hsl : (markL { s with last := dg2 j, used := 0 }).toArray.size = 34 := markL_size (s := { s with last := dg2 j, used := 0 }) (dg2_length j)
            have hs0l : (markL s0).toArray.size = 34 := markL_size HR5.out.ri.ok0.len
            go_wp2_with (first
              | (go_at_call 26; (with_reducible refine hhd.mono ?_); rintro e w7 ⟨rfl, hb7⟩; have H7 := Lib.hid (And.intro hb7 (HF6.out.below hb7 HF6.out.lt)); clear hb7)
              | (refine wpList_store_row (by rfl) 25 (.tmp 8) (.tmp 66) (by rfl) fb (markL { s with last := dg2 j, used := 0 }).toArray (by rfl) (by rfl) 25 (markL s0).toArray (by exact H7.out.2) (mark_info (s := { s with last := dg2 j, used := 0 }) (dg2_length j)) (by rw [hsl, hs0l]) (markL_one _) ?_))
            go_meet
            have hwc := HR5.out.wasCut (dg2_length j) (dg2_byte (by omega)) H6.out.1 H6.out.2 H7.out.1
            have hp := HR.out.1.ri.chain.pos
            have h2 := HR4.out.2.2.2
            have hrbfb := HR5.out.fb_ne
            refine ⟨_, _, _, _, _, _, _, hwc, ⟨HR.out.2.1, HR.out.2.2.1, by show s.first = 0; rw [hp.2.1]; exact HR.out.2.2.2.1, by show s.n = 100; rw [hp.2.2.1]; exact HR.out.2.2.2.2.1, fun l hl => by cases hl⟩, by show takes M ≤ s.n - 0; have := HR.out.1.ri.ok.n1; unfold takes; omega, ?_, fun b hb => ?_⟩
            · have q5 := HR4.out.2.1.below HB5.out
              have q6 := q5.but H6.out.2 (fun b hb e => by have := HR4.out.2.2.1 b hb; omega)
              refine (q6.below H7.out.1).but (setRow_but _ _ _) (fun b hb e => ?_)
              have h3 := HR4.out.2.2.1 b hb
              have h4 : fb < w3.heap.size := by
                have := HFW.out
                omega
              omega
            · have h1 := HR4.out.2.2.1 b hb
              exact ⟨.inl (.inl (.inr h1)), by omega⟩
          -- }
        case rest =>
          -- {
          obtain ⟨N5, t0, t1, us5, L5, k5, d5, HC⟩ := hcut
          obtain ⟨w6, hw6⟩ : ∃ w : World, w = wc := ⟨_, rfl⟩
          subst hw6
          have hnum := HC.out.2.1.1
          have hkk := HC.out.2.1.2.1
          have hadd := HC.out.1.add (cc := yc) HC.out.2.2.2.1 hM1 hM60 HC.out.2.2.1 (by omega) (by omega) HC.out.2.2.2.2
          have HN5 := Lib.hid (And.intro hnum hkk)
          clear hnum hkk
          go_upto_region 20 with (go_at_call 24; refine hadd.mono ?_; rintro e w8 ⟨rfl, h8, hc8⟩; have H8 := Lib.hid (And.intro h8 hc8); clear h8 hc8)
          clear hadd
          have htold := told_any w8 ya yc M (chg M x1) H8.out.2 (chg_length M x1).symm (by rw [chg_length]; omega)
          obtain ⟨pa, pc, e1⟩ := H8.out.1.recs.out.slice
          obtain ⟨pn, hpn⟩ : ∃ pn, pn = us5.length := ⟨_, rfl⟩
          rw [← hpn] at e1
          subst e1
          have hL5 : us5.length ≤ 100 := by
            have h1 := HC.out.1.ri.chain.len
            have h2 := HC.out.1.ri.ok.used
            have h3 := HC.out.1.ri.chain.pos.2.2.1
            have h4 := HC.out.1.recs.len
            have h5 := HC.out.2.1.2.2.2.1
            omega
          have hpn2 : pn ≤ 10000 := by omega
          have HPN := Lib.hid hpn
          clear hpn hL5
          go_upto_region 21 with (first
            | (go_at_call 13; (with_reducible refine htold.mono ?_); rintro e w9 ⟨v9, rfl, hr9, hb9⟩; obtain ⟨za, zc, e9⟩ := hr9.slice; rw [chg_length] at e9; subst e9; have H9 := Lib.hid (And.intro hr9 (And.intro hb9 (H8.out.1.below hb9))); clear hr9 hb9)
            | (refine wpList_app_recQ (te := 44) (ti := 93) (by decide) slr_typ Tryd.underlying59 (by rfl) (.tmp 71) (.tmp 74) (by rfl) H9.out.2.2.recs HPN.out.symm (H9.out.1.mono (Nat.le_trans H8.out.1.hs (Nat.le_refl _))) (by rfl) (by rfl) hpn2 H9.out.2.2.hs fun v' w10 q1 q2 q3 q4 => ?_; have H10 := Lib.hid (H9.out.2.2.told q1 q2 q3 q4 (fun k hk => .inr ⟨H9.out.1.base_le k hk, H9.out.1.lt k hk⟩)); clear q1 q2 q3 q4))
          clear htold
          have hlast : (t1.behind M (recSum t1.last t1.num (chg M x1))).num = 7 + (j + 1) := by
            show (t1.num + 1) % 18446744073709551616 = _
            have := HN5.out.1
            omega
          have hop : Calls Tryd.prog 18 #[.pointer (some ⟨db, 0, none⟩), .int .i64 0, .int .i64 100, .agg (markL t0).toArray] w10 fun e w' => ∃ rb' v, e = .returned (.tuple #[.pointer (some ⟨rb', 0, none⟩), v, .nilIface]) ∧ OpenI w10 w' rb' db (t1.behind M (recSum t1.last t1.num (chg M x1))) v (L5 ++ [chg M x1]) 100 (k5 + takes M) (putAll t1 (recPgs t1.last t1.num (chg M x1)) 0 d5) := by
            have h1 := open_ok (s := t0) (H10.out.dk.dk.base (Nat.zero_le _)) H10.out.ri.on H10.out.ri.ok0 H10.out.ri.u0
            rw [H10.out.ri.open_ (by omega), HC.out.2.1.2.2.1, HC.out.2.1.2.2.2.1] at h1
            exact h1
          go_upto_region 22 with (first
            | (refine wpList_load_row (by rfl) 25 (.tmp 8) (by rfl) fb (by rfl) 25 (markL t0).toArray (0, 0) _ H10.out.fbk Tryd.underlying25 rfl (mark_info H10.out.ri.ok0.len) ?_)
            | (go_at_call 18; (with_reducible refine hop.mono ?_); rintro e w11 ⟨rb', v11, rfl, h11⟩; have H11 := Lib.hid h11; clear h11))
          clear hop
          obtain ⟨vs11, hvs11⟩ := H11.out.recs
          have hrr11 := H10.out.below H11.out.bel
          have hL2 : ∀ q ∈ L5 ++ [chg M x1], ∃ m x, m ≤ 60 ∧ q = chg m x := fun q hq => by
            rcases List.mem_append.1 hq with hq | hq
            · exact HC.out.2.1.2.2.2.2 q hq
            · exact ⟨M, x1, hM60, List.mem_singleton.1 hq⟩
          have hsame := same_any w11 hvs11 hrr11.recs (fun q hq => by
            obtain ⟨m', x', h1, rfl⟩ := hL2 q hq
            exact ⟨chg_ok (by omega) x', by rw [chg_length]; omega⟩) (by
            have h1 := hrr11.ri.chain.len
            have h2 := hrr11.ri.ok.used
            have h3 := hrr11.ri.ok.n2
            omega)
          have H12 := Lib.hid (And.intro hrr11 (And.intro hlast hL2))
          clear hvs11 hrr11 hlast hL2
          go_wp2_with (go_at_call 21; (with_reducible refine hsame.mono ?_); rintro e w12 ⟨rfl, hb12⟩; have H13 := Lib.hid (H12.out.1.below hb12); clear hb12)
          go_round
          case rel =>
            refine ⟨j + 1, _, _, _, _, _, _, _, by omega, by go_num, H13.out, H12.out.2.1, ?_, HC.out.2.1.2.2.1, HC.out.2.1.2.2.2.1, H12.out.2.2⟩
            have h1 := HN5.out.2
            have h2 : takes M ≤ 65 := by unfold takes; omega
            omega
          case measure => simp [intOf]; omega
          -- }
      · obtain rfl : j = m := by omega
        go_wp2_with fail
        go_ret
        exact ⟨rfl, HR.out.1.bel⟩
  · rw [decide_eq_false h40] at hfew
    go_wp2_with (first
      | (go_at_call 7; (with_reducible refine (stands_any _).mono ?_); rintro e w1 ⟨rfl, hb1⟩; have H1 := Lib.hid hb1; clear hb1)
      | (go_at_call 8; (with_reducible refine (hfew _).mono ?_); rintro e w' ⟨rfl, hw'⟩; obtain rfl := hw'.symm))
    go_ret
    exact ⟨rfl, H1.out⟩
end Go.Proofs.YtkabkehfckbhcaaDoor
