/-
  ring: RingOpens: sectors bent.
-/
import Derived.Test.YtkabkehfckbhcaaDoorZRgOpZ
import Derived.Test.YtkabkehfckbhcaaDoorZRgSec
import Derived.Laws.Closers25b
namespace Go.Proofs.YtkabkehfckbhcaaDoor
set_option linter.unusedVariables false
set_option linter.unusedSimpArgs false
open Go.RowKit

theorem tup3_info (x y z : Int) : (Tryd.prog.info? 51).map (·.size) = some (tupF [x, y, z]).toArray.size := by kernel_rfl
/-- A number brought into a range. -/
theorem brought (x : Int) (M : Nat) (hM : 0 < M) : ∃ Q : Nat, Q < M ∧ (x.tmod M + M).tmod M = (Q : Int) ∧ -(M : Int) < x.tmod M ∧ x.tmod M < (M : Int) := by
  have h1 := Int.tmod_lt_of_pos x (show (0 : Int) < (M : Int) by omega)
  have h2 := Int.lt_tmod_of_pos x (show (0 : Int) < (M : Int) by omega)
  have h3 := Int.tmod_nonneg (M : Int) (show 0 ≤ x.tmod M + M by omega)
  have h4 := Int.tmod_lt_of_pos (x.tmod M + M) (show (0 : Int) < (M : Int) by omega)
  exact ⟨((x.tmod M + M).tmod M).toNat, by omega, by omega, h2, h1⟩
set_option maxRecDepth 100000 in
set_option maxHeartbeats 8000000 in
theorem opens_bend {W w : World} {B db kb mb : Nat} {d0 : DK} {kk0 bn bc : Nat} {ba : Option Addr} {lb : List (List Int)} {place : Int} {num : Nat} {last : List Nat} (H : Hid (EndI W w B db kb mb d0 200 kk0 place num last)) (hkk : kk0 ≤ 5000) (HA : Hid (IsTup 3 W ba lb ∧ bn = lb.length)) (hbn : bn ≤ 50) {u0 u1 u4 u5 u6 u9 u11 u12 u13 u14 u15 u16 u17 u18 u19 u20 u21 u22 u23 u24 u25 u26 u27 u28 u29 u30 u31 u32 u33 u34 u35 u36 u37 u38 u39 u40 u41 u42 u43 u44 u45 u46 u47 u48 u49 u50 u51 u52 u53 u54 u55 u56 u57 u58 u59 u60 u61 u62 u63 u64 u65 u66 u67 u68 u69 u70 u71 u72 u73 u74 u75 u76 u77 u78 u79 u80 u81 u82 u83 u84 u85 u86 u87 u88 u89 u90 u91 u92 u93 u94 u95 u96 u97 u98 u99 u100 u101 u102 u103 u104 u105 u106 u107 u108 u109 u110 u111 u112 u113 u114 u115 u116 u117 u118 u119 u120 u121 u122 u123 u124 u125 u126 u127 u128 u129 u130 u131 u132 u133 u134 u135 u136 u137 u138 u139 u140 u141 u142 u143 u144 u145 u146 u147 u148 u149 u150 u151 u152 u153 u154 u155 u156 u157 u158 u159 u160 u161 u162 u163 u164 u165 u166 u167 u168 u169 u170 u171 : Value} :
    Code.wp Tryd.prog (restOf Tryd.f3 23) (bodyPost Tryd.prog Tryd.f3 (lawPost W)) ⟨(u0 :: u1 :: .slice ba bn bc :: .pointer (some ⟨mb, 0, none⟩) :: u4 :: u5 :: u6 :: .int .i64 128 :: .pointer (some ⟨db, 0, none⟩) :: u9 :: .pointer (some ⟨kb, 0, none⟩) :: u11 :: u12 :: u13 :: u14 :: u15 :: u16 :: u17 :: u18 :: u19 :: u20 :: u21 :: u22 :: u23 :: u24 :: u25 :: u26 :: u27 :: u28 :: u29 :: u30 :: u31 :: u32 :: u33 :: u34 :: u35 :: u36 :: u37 :: u38 :: u39 :: u40 :: u41 :: u42 :: u43 :: u44 :: u45 :: u46 :: u47 :: u48 :: u49 :: u50 :: u51 :: u52 :: u53 :: u54 :: u55 :: u56 :: u57 :: u58 :: u59 :: u60 :: u61 :: u62 :: u63 :: u64 :: u65 :: u66 :: u67 :: u68 :: u69 :: u70 :: u71 :: u72 :: u73 :: u74 :: u75 :: u76 :: u77 :: u78 :: u79 :: u80 :: u81 :: u82 :: u83 :: u84 :: u85 :: u86 :: u87 :: u88 :: u89 :: u90 :: u91 :: u92 :: u93 :: u94 :: u95 :: u96 :: u97 :: u98 :: u99 :: u100 :: u101 :: u102 :: u103 :: u104 :: u105 :: u106 :: u107 :: u108 :: u109 :: u110 :: u111 :: u112 :: u113 :: u114 :: u115 :: u116 :: u117 :: u118 :: u119 :: u120 :: u121 :: u122 :: u123 :: u124 :: u125 :: u126 :: u127 :: u128 :: u129 :: u130 :: u131 :: u132 :: u133 :: u134 :: u135 :: u136 :: u137 :: u138 :: u139 :: u140 :: u141 :: u142 :: u143 :: u144 :: u145 :: u146 :: u147 :: u148 :: u149 :: u150 :: u151 :: u152 :: u153 :: u154 :: u155 :: u156 :: u157 :: u158 :: u159 :: u160 :: u161 :: u162 :: u163 :: u164 :: u165 :: u166 :: u167 :: u168 :: u169 :: u170 :: u171 :: []).toArray, []⟩ w := by
  conv => arg 2; whnf
  go_upto_block 4 with fail
  go_cut [110] (fun _ wx => ∃ kk d, Hid (EndI W wx B db kb mb d 200 kk place num last))
  case first =>
    go_wp2_with fail
    go_loopw [110] (fun i wr => ∃ j : Nat, ∃ kk d, j ≤ bn ∧ kk ≤ 5000 + j ∧ i = .int .i64 j ∧ Hid (EndI W wr B db kb mb d 200 kk place num last)) (fun i _ => bn - (intOf i).toNat)
    case atStart => exact ⟨0, kk0, d0, by omega, by omega, rfl, H.out⟩
    case round =>
      obtain ⟨j, kk, d, hj, hkj, rfl, HR⟩ := hrel
      by_cases hjl : j < bn
      · obtain ⟨z, hz⟩ : ∃ z, lb[j]? = some z := ⟨_, List.getElem?_eq_getElem (by rw [← HA.out.2]; exact hjl)⟩
        obtain ⟨hzl, hzb⟩ := HA.out.1.ok z (List.mem_of_getElem? hz)
        obtain ⟨b, off, rfl, hbl, hrg⟩ := (HA.out.1.below HR.out.bel).at_.resolve_left (by rintro rfl; simp at hz)
        obtain ⟨x0, x1, x2, rfl⟩ : ∃ x0 x1 x2, z = [x0, x1, x2] := by
          match z, hzl with
          | [x0, x1, x2], _ => exact ⟨x0, x1, x2, rfl⟩
        have hx0 := hzb x0 (by simp)
        have hx1 := hzb x1 (by simp)
        have hx2 := hzb x2 (by simp)
        have HZ := Lib.hid (hrg j _ hz)
        clear hzl hzb hz hrg hbl
        have j1 : (j : Int) < (bn : Int) := by omega
        go_upto_region 26 with (first
          | (refine wpList_load_mid (by rfl) 51 (.tmp 112) (by rfl) b (off + j * 3) (by rfl) (tupF [x0, x1, x2]) _ HZ.out Tryd.underlying51 rfl (by kernel_rfl) ?_)
          | (refine wpList_alloc_info (by rfl) 51 (by rfl) (.agg (tupF [0, 0, 0]).toArray) (tupF [0, 0, 0]).toArray (by kernel_rfl) rfl ?_)
          | (refine wpList_store_row (by rfl) 51 (.tmp 20) (.tmp 113) (by rfl) _ (tupF [x0, x1, x2]).toArray (by rfl) (by rfl) 51 (tupF [0, 0, 0]).toArray (heap_alloc_new _ _) (tup3_info x0 x1 x2) rfl (all_oneCell_toArray (tupF_one _)) ?_))
        have hv := mk_var wr (tupF [0, 0, 0]).toArray (tupF [x0, x1, x2]).toArray 51
        generalize (wr.alloc (.cells (tupF [0, 0, 0]).toArray 51)).setRow wr.heap.size (tupF [x0, x1, x2]).toArray = w3 at hv ⊢
        obtain ⟨Q, hQ1, hQr, hR1, hR2⟩ := brought x0 200 (by decide)
        obtain ⟨R, hRl, hRr, hS1, hS2⟩ := brought x1 64 (by decide)
        rw [show ((200 : Nat) : Int) = 200 from rfl] at hQr hR1 hR2
        rw [show ((64 : Nat) : Int) = 64 from rfl] at hRr hS1 hS2
        obtain ⟨Q0, hQ0⟩ : ∃ Q0, Q0 = x0.tmod 200 := ⟨_, rfl⟩
        obtain ⟨R0, hR0⟩ : ∃ R0, R0 = x1.tmod 64 := ⟨_, rfl⟩
        rw [← hQ0] at hQr hR1 hR2
        rw [← hR0] at hRr hS1 hS2
        have hQ0' := hQ0.symm
        have hR0' := hR0.symm
        clear hQ0 hR0
        have c0 := hv.1.cell 0 (v := .int .i64 x0) rfl
        have H3 := Lib.hid (And.intro hv.1 (And.intro hv.2 (HR.out.below hv.2)))
        clear hv
        generalize wr.heap.size = tb at c0 H3 ⊢
        go_upto_region 27 with fail
        clear c0
        obtain ⟨p, hp⟩ : ∃ p, p = d.read (Q : Int) := ⟨_, rfl⟩
        have hrd := H3.out.2.2.ri.dk.read (Q : Int)
        have hpo := (onB_read H3.out.2.2.on hQ1).2
        rw [← hp] at hrd hpo
        have HP := Lib.hid hpo
        clear hp hpo
        go_upto_region 28 with (first
          | (go_at_call 17; (with_reducible refine hrd.mono ?_); rintro e w5 ⟨v5, rfl, -, hb5⟩; have H5 := Lib.hid hb5; clear hb5)
          | (refine wpList_alloc_info (by rfl) 48 (by rfl) (.agg (nv .u8 zeroPg)) (nv .u8 zeroPg) (by kernel_rfl) rfl ?_)
          | (refine wpList_store_row (by rfl) 48 (.tmp 22) (.tmp 123) (by rfl) _ (nv .u8 p) (by rfl) (by rfl) 48 (nv .u8 zeroPg) (heap_alloc_new _ _) (info_pg _ HP.out.1) (by rw [nv_size, nv_size, HP.out.1]; rfl) (nv_one _ _) ?_))
        clear hrd
        have hv1 := pg_var w5 p
        generalize (w5.alloc (.cells (nv .u8 zeroPg) 48)).setRow w5.heap.size (nv .u8 p) = w6 at hv1 ⊢
        have hb36 : Below w3.heap.size w3 w6 := H5.out.trans (hv1.2.mono H5.out.size)
        have ht6 := H3.out.1.below hb36 H3.out.1.lt
        have c1 := ht6.cell 1 (v := .int .i64 x1) rfl
        have c2 := ht6.cell 2 (v := .int .i64 x2) rfl
        have hpv : w3.heap.size ≤ w5.heap.size := H5.out.size
        obtain ⟨q, hq⟩ : ∃ q, q = p.getD R 0 := ⟨_, rfl⟩
        have cp := hv1.1.cell R (nv_get .u8 p R (by rw [HP.out.1]; exact hRl))
        have fp := hv1.1.drew.fz R
        have hq2 : q < 256 := by
          rw [hq, List.getD, List.getElem?_eq_getElem (by rw [HP.out.1]; exact hRl)]
          exact HP.out.2 _ (List.getElem_mem (by rw [HP.out.1]; exact hRl))
        rw [← hq] at cp
        have H6 := Lib.hid (And.intro hv1.1 (And.intro hb36 hpv))
        clear hv1 hb36 ht6 hpv hq H5
        generalize w5.heap.size = pv at *
        have r1 : (R : Int) < 64 := by omega
        have hwR : IntKind.i64.wrap (R0 + 64) = R0 + 64 := IntWalk.i64_in _ ⟨by omega, by omega⟩
        obtain ⟨c, hc⟩ : ∃ c, c = (x2 % 256).toNat := ⟨_, rfl⟩
        have hwx : IntKind.u8.wrap x2 = (c : Int) := by rw [IntKind.wrap_u8]; omega
        clear hc
        obtain ⟨v, hbx, hv2⟩ : ∃ v : Nat, bits .xor .u8 (q : Int) (c : Int) = (v : Int) ∧ v < 256 := ⟨(bits .xor .u8 (q : Int) (c : Int)).toNat, by have := bits_lo_u8 .xor (q : Int) (c : Int); omega, by have := bits_hi_u8 .xor (q : Int) (c : Int); omega⟩
        refine wp_region_till 11 (S := fun w' => w'.cell? ⟨tb, 1, none⟩ = some (.int .i64 x1) ∧ w'.cell? ⟨tb, 2, none⟩ = some (.int .i64 x2) ∧ w'.cell? ⟨pv, R, none⟩ = some (.int .u8 ((q : Nat) : Int))) (by kernel_rfl) ⟨c1, c2, cp⟩ (fun hHeld => ?_)
        clear c1 c2 cp
        refine wpTill_take (i := 0) (v := ?_) rfl (by kernel_rfl) (by kernel_rfl) (by kernel_rfl) (by kernel_rfl) (fun _ _ _ h => h) (Or.inl ⟨by rfl, ?_⟩) (by with_reducible assumption) ?_
        rotate_left
        · intro w hSw; (try dsimp only at hSw); (try go_split_ands); go_simp; (try with_reducible rfl)
        (try simp only [Act.put, List.getElem_toArray, List.getElem_cons_succ, List.getElem_cons_zero, List.setIfInBounds_toArray, List.set_cons_zero, List.set_cons_succ])
        refine wpTill_take (i := 1) (v := ?_) rfl (by kernel_rfl) (by kernel_rfl) (by kernel_rfl) (by kernel_rfl) (fun _ _ _ h => h) (Or.inl ⟨by rfl, ?_⟩) (by with_reducible assumption) ?_
        rotate_left
        · intro w hSw; (try dsimp only at hSw); (try go_split_ands); go_simp; (try with_reducible rfl)
        (try simp only [Act.put, List.getElem_toArray, List.getElem_cons_succ, List.getElem_cons_zero, List.setIfInBounds_toArray, List.set_cons_zero, List.set_cons_succ])
        refine wpTill_take (i := 2) (v := ?_) rfl (by kernel_rfl) (by kernel_rfl) (by kernel_rfl) (by kernel_rfl) (fun _ _ _ h => h) (Or.inl ⟨by rfl, ?_⟩) (by with_reducible assumption) ?_
        rotate_left
        · intro w hSw; (try dsimp only at hSw); (try go_split_ands); go_simp; (try with_reducible rfl)
        (try simp only [Act.put, List.getElem_toArray, List.getElem_cons_succ, List.getElem_cons_zero, List.setIfInBounds_toArray, List.set_cons_zero, List.set_cons_succ])
        refine wpTill_take (i := 3) (v := ?_) rfl (by kernel_rfl) (by kernel_rfl) (by kernel_rfl) (by kernel_rfl) (fun _ _ _ h => h) (Or.inl ⟨by rfl, ?_⟩) (by with_reducible assumption) ?_
        rotate_left
        · intro w hSw; (try dsimp only at hSw); (try go_split_ands); go_simp; (try with_reducible rfl)
        (try simp only [Act.put, List.getElem_toArray, List.getElem_cons_succ, List.getElem_cons_zero, List.setIfInBounds_toArray, List.set_cons_zero, List.set_cons_succ])
        refine wpTill_take (i := 4) (v := ?_) rfl (by kernel_rfl) (by kernel_rfl) (by kernel_rfl) (by kernel_rfl) (fun _ _ _ h => h) (Or.inl ⟨by rfl, ?_⟩) (by with_reducible assumption) ?_
        rotate_left
        · intro w hSw; (try dsimp only at hSw); (try go_split_ands); go_simp; (try with_reducible rfl)
        (try simp only [Act.put, List.getElem_toArray, List.getElem_cons_succ, List.getElem_cons_zero, List.setIfInBounds_toArray, List.set_cons_zero, List.set_cons_succ])
        refine wpTill_take (i := 5) (v := ?_) rfl (by kernel_rfl) (by kernel_rfl) (by kernel_rfl) (by kernel_rfl) (fun _ _ _ h => h) (Or.inl ⟨by rfl, ?_⟩) (by with_reducible assumption) ?_
        rotate_left
        · intro w hSw; (try dsimp only at hSw); (try go_split_ands); go_simp; (try with_reducible rfl)
        (try simp only [Act.put, List.getElem_toArray, List.getElem_cons_succ, List.getElem_cons_zero, List.setIfInBounds_toArray, List.set_cons_zero, List.set_cons_succ])
        refine wpTill_take (i := 6) (v := ?_) rfl (by kernel_rfl) (by kernel_rfl) (by kernel_rfl) (by kernel_rfl) (fun _ _ _ h => h) (Or.inl ⟨by rfl, ?_⟩) (by with_reducible assumption) ?_
        rotate_left
        · intro w hSw; (try dsimp only at hSw); (try go_split_ands); go_simp; (try with_reducible rfl)
        (try simp only [Act.put, List.getElem_toArray, List.getElem_cons_succ, List.getElem_cons_zero, List.setIfInBounds_toArray, List.set_cons_zero, List.set_cons_succ])
        refine wpTill_take (i := 7) (v := ?_) rfl (by kernel_rfl) (by kernel_rfl) (by kernel_rfl) (by kernel_rfl) (fun _ _ _ h => h) (Or.inl ⟨by rfl, ?_⟩) (by with_reducible assumption) ?_
        rotate_left
        · intro w hSw; (try dsimp only at hSw); (try go_split_ands); go_simp; (try with_reducible rfl)
        (try simp only [Act.put, List.getElem_toArray, List.getElem_cons_succ, List.getElem_cons_zero, List.setIfInBounds_toArray, List.set_cons_zero, List.set_cons_succ])
        refine wpTill_take (i := 8) (v := ?_) rfl (by kernel_rfl) (by kernel_rfl) (by kernel_rfl) (by kernel_rfl) (fun _ _ _ h => h) (Or.inl ⟨by rfl, ?_⟩) (by with_reducible assumption) ?_
        rotate_left
        · intro w hSw; (try dsimp only at hSw); (try go_split_ands); go_simp; (try with_reducible rfl)
        (try simp only [Act.put, List.getElem_toArray, List.getElem_cons_succ, List.getElem_cons_zero, List.setIfInBounds_toArray, List.set_cons_zero, List.set_cons_succ])
        refine wpTill_take (i := 9) (v := ?_) rfl (by kernel_rfl) (by kernel_rfl) (by kernel_rfl) (by kernel_rfl) (fun _ _ _ h => h) (Or.inl ⟨by rfl, ?_⟩) (by with_reducible assumption) ?_
        rotate_left
        · intro w hSw; (try dsimp only at hSw); (try go_split_ands); go_simp; (try with_reducible rfl)
        (try simp only [Act.put, List.getElem_toArray, List.getElem_cons_succ, List.getElem_cons_zero, List.setIfInBounds_toArray, List.set_cons_zero, List.set_cons_succ])
        refine wpTill_take (i := 10) (v := ?_) rfl (by kernel_rfl) (by kernel_rfl) (by kernel_rfl) (by kernel_rfl) (fun _ _ _ h => h) (Or.inl ⟨by rfl, ?_⟩) (by with_reducible assumption) ?_
        rotate_left
        · intro w hSw; (try dsimp only at hSw); (try go_split_ands); go_simp; (try with_reducible rfl)
        (try simp only [Act.put, List.getElem_toArray, List.getElem_cons_succ, List.getElem_cons_zero, List.setIfInBounds_toArray, List.set_cons_zero, List.set_cons_succ])
        refine wpTill_last (by kernel_rfl) ?_
        have cp := hHeld.2.2
        refine wpAny_take (i := 11) (v := ?_) rfl (by kernel_rfl) (by kernel_rfl) (by kernel_rfl) (fun _ _ _ h => h) (Or.inl ⟨by rfl, ?_⟩) ?_
        rotate_left
        · intro w; go_simp; (try with_reducible rfl)
        (try simp only [Act.put, List.getElem_toArray, List.getElem_cons_succ, List.getElem_cons_zero, List.setIfInBounds_toArray, List.set_cons_zero, List.set_cons_succ])
        refine wpAny_ready (rs := [12]) (by kernel_rfl) (by simp) ?_
        refine AllReady.cons rfl (fun K9 hK9 => ?_) AllReady.nil
        go_simp
        refine hK9 _ _ ?_
        clear hK9 K9 cp fp hHeld hbx hwx hwR
        (try simp only [Act.put, List.getElem_toArray, List.getElem_cons_succ, List.getElem_cons_zero, List.setIfInBounds_toArray, List.set_cons_zero, List.set_cons_succ])
        refine wpAny_done (by kernel_rfl) ?_ _
        have hq := byte_put H6.out.1 R v (z := (v : Int)) rfl
        obtain ⟨p', hp'⟩ : ∃ p', p' = p.set R v := ⟨_, rfl⟩
        have hpl : p'.length = 64 := by rw [hp', List.length_set]; exact HP.out.1
        have hpb : ∀ c ∈ p', c < 256 := fun c hc => by
          rw [hp'] at hc
          rcases List.mem_or_eq_of_mem_set hc with h | h
          · exact HP.out.2 c h
          · omega
        rw [← hp'] at hq
        have hpv := hq.1.drew
        have hb7 : Below w3.heap.size w3 (w6.setCell ⟨pv, R, none⟩ (.int .u8 ((v : Nat) : Int))).drew := (H6.out.2.1.trans (hq.2.below H6.out.2.1.size (fun k hk => hk ▸ H6.out.2.2))).drew
        change Exit.then _ _ _ _ ((w6.setCell ⟨pv, R, none⟩ (.int .u8 ((v : Nat) : Int))).drew)
        generalize (w6.setCell ⟨pv, R, none⟩ (.int .u8 ((v : Nat) : Int))).drew = w7 at hpv hb7 ⊢
        have hX7 : Grow NoX w3 w7 pv := .inr ⟨H6.out.2.2, hpv.lt⟩
        have H7 := Lib.hid (And.intro hpv (And.intro hb7 (And.intro hX7 (And.intro hpl hpb))))
        have hri := H3.out.2.2.ri.grow hb7
        have hB7 : B ≤ w7.heap.size := Nat.le_trans H3.out.2.2.hB hb7.size
        have hpe : d.pend.length < 1000000 := by have := H3.out.2.2.on.pl; omega
        have hw1 := hri.writeD (Q : Int) p' hpl hpe hB7
        have HW := Lib.hid (And.intro hpe hB7)
        clear hq hpv hb7 hX7 hpl hpb hp' hri hB7 hpe
        go_upto_region 30 with (first
          | (refine wpList_load_row (by rfl) 48 (.tmp 22) (by rfl) pv (by rfl) 48 (nv .u8 p') (0, 0) _ H7.out.1 Tryd.underlying48 rfl (info_pg _ H7.out.2.2.2.1) ?_)
          | (go_at_call 15; refine hw1.mono ?_; rintro e w8 ⟨v8, rfl, -, h8, hb8, hc8⟩; have H8 := Lib.hid (And.intro h8 (And.intro hb8 (hc8.blk H7.out.1 (fun e => e H7.out.2.2.1)))); clear h8 hb8 hc8))
        clear hw1
        have hw2 := H8.out.1.writeM (Q : Int) p' H7.out.2.2.2.1 HW.out.1 (Nat.le_trans HW.out.2 H8.out.2.1.size)
        go_wp2_with (first
          | (refine wpList_load_row (by rfl) 48 (.tmp 22) (by rfl) pv (by rfl) 48 (nv .u8 p') (0, 0) _ H8.out.2.2 Tryd.underlying48 rfl (info_pg _ H7.out.2.2.2.1) ?_)
          | (go_at_call 16; refine hw2.mono ?_; rintro e w9 ⟨rfl, h9, hb9, -⟩; have H9 := Lib.hid (H3.out.2.2.turn (h9.less (fun k hk => hk.elim)) (onB_written H3.out.2.2.on Q hQ1 p' H7.out.2.2.2.1 H7.out.2.2.2.2) (by omega) (((H7.out.2.1.mono H3.out.2.2.hB).trans H8.out.2.1).trans hb9)); clear h9 hb9))
        go_round
        case rel => exact ⟨j + 1, kk + 1, _, by omega, by omega, by go_num, H9.out⟩
        case measure => simp [intOf]; omega
      · obtain rfl : j = bn := by omega
        go_wp2_with fail
        go_meet
        exact ⟨kk, d, HR.out⟩
  case rest =>
    obtain ⟨kk, d, HD⟩ := hcut
    rename_i K1 hK1
    refine hK1 _ _ ?_
    exact opens_end HD
end Go.Proofs.YtkabkehfckbhcaaDoor
