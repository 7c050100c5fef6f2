/-
  ring: the reference's Sectors: the numbers' pages.
-/
import Derived.Test.YtkabkehfckbhcaaDoorZRgSecC
namespace Go.Proofs.YtkabkehfckbhcaaDoor
set_option linter.unusedVariables false
set_option linter.unusedSimpArgs false
open Go.RowKit

/-- Four bytes, one by one. -/
theorem quad_put {l : List CH} {q j : Nat} {c : CH} {P : List Nat} {x : Nat} (hP : P = padPg (atBs ((l.drop (16 * q)).take j))) (hc : l[16 * q + j]? = some c) (hj : j < 16) (hx : x = (c.1 % 4294967296).toNat) (hl : P.length = 64) :
    (((P.set (4 * j) (x % 256)).set (4 * j + 1) (x / 256 % 256)).set (4 * j + 2) (x / 65536 % 256)).set (4 * j + 3) (x / 16777216 % 256) = padPg (atBs ((l.drop (16 * q)).take (j + 1))) := by
  have h0 : putL P (4 * j) (leB 0 x) = P := by simp [putL, leB]
  have h1 := putL_snoc (l := P) (o := 4 * j) (n := 0) (x := x) (by omega)
  have h2 := putL_snoc (l := P) (o := 4 * j) (n := 1) (x := x) (by omega)
  have h3 := putL_snoc (l := P) (o := 4 * j) (n := 2) (x := x) (by omega)
  have h4 := putL_snoc (l := P) (o := 4 * j) (n := 3) (x := x) (by omega)
  rw [h0] at h1
  rw [← h1] at h2
  rw [← h2] at h3
  rw [← h3] at h4
  have h5 := idx_put hc hj
  rw [atB_u64, ← hP] at h5
  rw [← h5, show atB c.1 = leB 4 x by rw [hx]; rfl, ← h4]
  simp
theorem byte_put {w : World} {pb : Nat} {P : List Nat} {t : TypeId} (h : IsBlk w pb (nv .u8 P) t) (i v : Nat) {z : Int} (hz : z = (v : Int)) : IsBlk (w.setCell ⟨pb, i, none⟩ (.int .u8 z)) pb (nv .u8 (P.set i v)) t ∧ But (fun k => k = pb) w (w.setCell ⟨pb, i, none⟩ (.int .u8 z)) := by
  subst hz
  have h1 := h.set i (.int .u8 ((v : Nat) : Int))
  rw [nv_set] at h1
  exact ⟨h1, (But.refl (fun k => k = pb) w).setCell (p := ⟨pb, i, none⟩) rfl _⟩
set_option maxRecDepth 100000 in
set_option maxHeartbeats 8000000 in
theorem sec_idx {W w8 wr0 : World} {sm num k cc : Nat} {ca : Option Addr} {last : List Nat} {l : List CH} {v0 va0 : Value} (HE : Hid (SecE W w8 sm)) (hk : Hid (k = l.length)) (hk64 : l.length ≤ 64) (hll : last.length = 32) (HC : Hid (IsChs w8 ca l)) (HQ : Hid (SecQ w8 wr0 v0 [padPg (headB num l.length)] va0 (last ++ headB num l.length))) {u0 u2 u3 u4 u7 u8 u10 u11 u12 u13 u14 u15 u16 u17 u18 u19 u20 u21 u22 u23 u24 u25 u26 u27 u28 u29 u30 u31 u32 u33 u34 u35 u36 u37 u38 u39 u40 u41 u42 u43 u44 u45 u46 u47 u48 u49 u50 u51 u52 u53 u54 u55 u56 u57 u58 u59 u60 u61 u62 u63 u64 u65 u66 u67 u68 u69 u70 u71 u72 u73 u74 u75 u76 u77 u78 u79 u80 u81 u82 u83 u84 u85 u86 u87 u88 u89 u90 u91 u92 u93 u94 u95 u96 u97 u98 u99 u100 u101 u102 u103 u104 u105 u106 u107 u108 u109 u110 u111 u112 u113 u114 u115 u116 u117 u118 u119 u120 u121 u122 u123 u124 u125 u126 u127 u128 u129 u130 u131 u132 u133 u134 u135 : Value} :
    Code.wp Tryd.prog (restOf Tryd.f12 12) (bodyPost Tryd.prog Tryd.f12 (SecPost W num last l)) ⟨(u0 :: .slice ca k cc :: u2 :: u3 :: u4 :: .pointer (some ⟨sm, 0, none⟩) :: v0 :: u7 :: u8 :: va0 :: u10 :: u11 :: u12 :: u13 :: u14 :: u15 :: u16 :: u17 :: u18 :: u19 :: u20 :: u21 :: u22 :: u23 :: u24 :: u25 :: u26 :: u27 :: u28 :: u29 :: u30 :: u31 :: u32 :: u33 :: u34 :: u35 :: u36 :: u37 :: u38 :: u39 :: u40 :: u41 :: u42 :: u43 :: u44 :: u45 :: u46 :: u47 :: u48 :: u49 :: u50 :: u51 :: u52 :: u53 :: u54 :: u55 :: u56 :: u57 :: u58 :: u59 :: u60 :: u61 :: u62 :: u63 :: u64 :: u65 :: u66 :: u67 :: u68 :: u69 :: u70 :: u71 :: u72 :: u73 :: u74 :: u75 :: u76 :: u77 :: u78 :: u79 :: u80 :: u81 :: u82 :: u83 :: u84 :: u85 :: u86 :: u87 :: u88 :: u89 :: u90 :: u91 :: u92 :: u93 :: u94 :: u95 :: u96 :: u97 :: u98 :: u99 :: u100 :: u101 :: u102 :: u103 :: u104 :: u105 :: u106 :: u107 :: u108 :: u109 :: u110 :: u111 :: u112 :: u113 :: u114 :: u115 :: u116 :: u117 :: u118 :: u119 :: u120 :: u121 :: u122 :: u123 :: u124 :: u125 :: u126 :: u127 :: u128 :: u129 :: u130 :: u131 :: u132 :: u133 :: u134 :: u135 :: []).toArray, []⟩ wr0 := by
  conv => arg 2; whnf
  have hk2 : k ≤ 64 := by rw [hk.out]; exact hk64
  go_upto_block 2 with fail
  go_cut [6, 10] (fun v _ wx => Hid (SecQ w8 wx v (padPg (headB num l.length) :: (List.range ((l.length + 15) / 16)).map (idxPg l)) va0 (last ++ headB num l.length)))
  case first =>
    go_wp2_with fail
    go_loopw [6, 10] (fun v i wr => ∃ q : Nat, q ≤ (k + 15) / 16 ∧ i = .int .i64 (16 * (q : Int)) ∧ Hid (SecQ w8 wr v (padPg (headB num l.length) :: (List.range q).map (idxPg l)) va0 (last ++ headB num l.length))) (fun _ i _ => k + 16 - (intOf i).toNat)
    case atStart => exact ⟨0, by omega, rfl, HQ.out⟩
    case round =>
      obtain ⟨q, hq, rfl, HR⟩ := hrel
      obtain ⟨wq, hwq⟩ : ∃ w : World, w = wr := ⟨_, rfl⟩
      subst hwq
      obtain ⟨pa, pn, pc, e, HN⟩ := HR.out.gath.slice'
      subst e
      by_cases hlt : 16 * q < k
      · have i1 : (16 * (q : Int)) < (k : Int) := by omega
        go_upto_region 16 with (refine wpList_alloc_info (by rfl) 48 (by rfl) (.agg (nv .u8 zeroPg)) (nv .u8 zeroPg) (by kernel_rfl) rfl ?_)
        change Code.wp _ _ _ _ (wq.alloc (.cells (nv .u8 zeroPg) 48))
        have hn : IsBlk (wq.alloc (.cells (nv .u8 zeroPg) 48)) wq.heap.size (nv .u8 zeroPg) 48 := IsBlk.new _ _ _
        have hb : Below wq.heap.size wq (wq.alloc (.cells (nv .u8 zeroPg) 48)) := (Below.refl _ _).alloc (Nat.le_refl _) _
        generalize wq.alloc (.cells (nv .u8 zeroPg) 48) = w3 at hn hb ⊢
        have H3 := Lib.hid (And.intro hn (And.intro (HR.out.below hb) hb))
        generalize hpb : wq.heap.size = pb at *
        clear hn hb
        go_wp2_with fail
        go_loopw [12, 13] (fun i x wr2 => ∃ j : Nat, j ≤ min 16 (k - 16 * q) ∧ i = .int .i64 j ∧ Hid (IsBlk wr2 pb (nv .u8 (padPg (atBs ((l.drop (16 * q)).take j)))) 48 ∧ Below pb wq wr2)) (fun i _ _ => 16 - (intOf i).toNat)
        case atStart => exact ⟨0, by omega, rfl, H3.out.1, H3.out.2.2⟩
        case round =>
          obtain ⟨j, hj, rfl, HL⟩ := hrel
          have hbel : Below w8.heap.size w8 wr := HR.out.gath.bel.trans (HL.out.2.mono (by rw [← hpb]; exact HR.out.gath.bel.size))
          by_cases hjl : j < 16 ∧ 16 * q + j < k
          · obtain ⟨hj16, hI⟩ := hjl
            obtain ⟨c, hc⟩ : ∃ c, l[16 * q + j]? = some c := ⟨_, List.getElem?_eq_getElem (by rw [← hk.out]; exact hI)⟩
            obtain ⟨b, off, rfl, hbl, hrg⟩ := (HC.out.below hbel).at_.resolve_left (by rintro rfl; rw [hk.out] at hI; simp at hI)
            have hat := range_chAt (hrg _ c hc)
            obtain ⟨x, hx⟩ : ∃ x, x = (c.1 % 4294967296).toNat := ⟨_, rfl⟩
            have hw : IntKind.u32.wrap c.1 = (x : Int) := by rw [IntKind.wrap_u32]; omega
            obtain ⟨P, hP⟩ : ∃ P, P = padPg (atBs ((l.drop (16 * q)).take j)) := ⟨_, rfl⟩
            have hPl : P.length = 64 := by rw [hP]; exact padPg_length _ (by unfold atBs; rw [idx_length, List.length_take]; omega)
            have HX := Lib.hid (And.intro hP (And.intro hc (And.intro hx hPl)))
            have h0 := HL.out.1
            rw [← hP] at h0
            have H0 := Lib.hid h0
            have j1 : (16 * (q : Int)) + (j : Int) < (k : Int) := by omega
            have j2 : (0 : Int) ≤ (16 * (q : Int)) + (j : Int) := by omega
            have j3 : (j : Int) < 16 := by omega
            have j4 : ((16 * (q : Int)) + (j : Int)).toNat = 16 * q + j := by omega
            clear hrg hbl hbel hc hx hP h0 hPl
            go_upto_region 20 with fail
            have hl0 := HX.out.2.2.2
            have x0 : 4 * (j : Int) < 64 := by omega
            have x1 : 4 * (j : Int) + 1 < 64 := by omega
            have x2 : 4 * (j : Int) + 2 < 64 := by omega
            have x3 : 4 * (j : Int) + 3 < 64 := by omega
            have y0 : (0 : Int) ≤ 4 * (j : Int) := by omega
            have y1 : (0 : Int) ≤ 4 * (j : Int) + 1 := by omega
            have y2 : (0 : Int) ≤ 4 * (j : Int) + 2 := by omega
            have y3 : (0 : Int) ≤ 4 * (j : Int) + 3 := by omega
            have t0 : (4 * (j : Int)).toNat = 4 * j := by omega
            have t1 : (4 * (j : Int) + 1).toNat = 4 * j + 1 := by omega
            have t2 : (4 * (j : Int) + 2).toNat = 4 * j + 2 := by omega
            have t3 : (4 * (j : Int) + 3).toNat = 4 * j + 3 := by omega
            have z0 := H0.out.cell (4 * j) (nv_get .u8 P (4 * j) (by omega))
            have f0 := H0.out.fz (4 * j)
            go_upto_region 21 with fail
            have q0 := byte_put H0.out (4 * j) (x % 256) (z := (x : Int) % 256) (by omega)
            generalize wr.setCell ⟨pb, 4 * j, none⟩ (.int .u8 ((x : Int) % 256)) = wA at q0 ⊢
            clear z0 f0
            have z1 := q0.1.cell (4 * j + 1) (nv_get .u8 _ (4 * j + 1) (by simp only [List.length_set]; omega))
            have f1 := q0.1.fz (4 * j + 1)
            have Q0 := Lib.hid q0
            clear q0
            go_upto_region 22 with fail
            have q1 := byte_put Q0.out.1 (4 * j + 1) (x / 256 % 256) (z := (x : Int) / 256 % 256) (by omega)
            generalize wA.setCell ⟨pb, 4 * j + 1, none⟩ (.int .u8 ((x : Int) / 256 % 256)) = wB at q1 ⊢
            clear z1 f1
            have z2 := q1.1.cell (4 * j + 2) (nv_get .u8 _ (4 * j + 2) (by simp only [List.length_set]; omega))
            have f2 := q1.1.fz (4 * j + 2)
            have Q1 := Lib.hid q1
            clear q1
            go_upto_region 23 with fail
            have q2 := byte_put Q1.out.1 (4 * j + 2) (x / 65536 % 256) (z := (x : Int) / 65536 % 256) (by omega)
            generalize wB.setCell ⟨pb, 4 * j + 2, none⟩ (.int .u8 ((x : Int) / 65536 % 256)) = wC at q2 ⊢
            clear z2 f2
            have z3 := q2.1.cell (4 * j + 3) (nv_get .u8 _ (4 * j + 3) (by simp only [List.length_set]; omega))
            have f3 := q2.1.fz (4 * j + 3)
            have Q2 := Lib.hid q2
            clear q2
            go_wp2_with fail
            have q3 := byte_put Q2.out.1 (4 * j + 3) (x / 16777216 % 256) (z := (x : Int) / 16777216 % 256) (by omega)
            rw [quad_put HX.out.1 HX.out.2.1 hj16 HX.out.2.2.1 hl0] at q3
            generalize wC.setCell ⟨pb, 4 * j + 3, none⟩ (.int .u8 ((x : Int) / 16777216 % 256)) = wD at q3 ⊢
            have hpl1 : pb ≤ wr.heap.size := Nat.le_of_lt H0.out.lt
            have hpp : ∀ k, k = pb → pb ≤ k := fun k hk => Nat.le_of_eq hk.symm
            have hbD : Below pb wq wD := HL.out.2.trans ((((Q0.out.2.trans Q1.out.2).trans Q2.out.2).trans q3.2).below hpl1 hpp)
            have Q3 := Lib.hid (And.intro q3.1 hbD)
            clear q3 hbD hpl1 hpp
            go_round
            case rel => exact ⟨j + 1, by omega, by go_num, Q3.out⟩
            case measure => simp [intOf]; omega
          · have hje : Hid (j = min 16 (l.length - 16 * q)) := Lib.hid (by rw [← hk.out]; omega)
            have hSQ := HR.out.below (by rw [hpb]; exact HL.out.2)
            have hpg := HL.out.1
            rw [idx_take l q j hje.out] at hpg
            have HP := Lib.hid (And.intro hpg (And.intro hSQ (idxPg_length l q)))
            have hpn : pn ≤ 10000 := by rw [HN.out]; simp; omega
            have HPN := Lib.hid hpn
            clear hpg hSQ hpn hbel
            by_cases hj16 : j < 16
            · have j3 : (j : Int) < 16 := by omega
              have j1 : ¬ (16 * (q : Int)) + (j : Int) < (k : Int) := by omega
              go_wp2_with (first
                | (refine wpList_load_row (by rfl) 48 (.tmp 11) (by rfl) pb (by rfl) 48 (nv .u8 (idxPg l q)) (0, 0) _ HP.out.1 Tryd.underlying48 rfl (info_pg _ HP.out.2.2) ?_)
                | (refine wpList_pg_slice (by rfl) (.tmp 98) (by rfl) (idxPg l q) HP.out.2.2 (by rfl) ?_)
                | (refine wpList_app_pgQ (by rfl) (.tmp 97) (.tmp 99) (by rfl) HP.out.2.1 HN.out.symm HP.out.2.2 (by rfl) (by rfl) HPN.out fun v' w7 q1 => ?_; have H7 := Lib.hid q1; clear q1))
              go_round
              case rel => exact ⟨q + 1, by omega, by congr 1 <;> omega, by rw [List.range_succ, List.map_append, ← List.cons_append]; exact H7.out⟩
              case measure => simp [intOf]; omega
            · have j3 : ¬ (j : Int) < 16 := by omega
              go_wp2_with (first
                | (refine wpList_load_row (by rfl) 48 (.tmp 11) (by rfl) pb (by rfl) 48 (nv .u8 (idxPg l q)) (0, 0) _ HP.out.1 Tryd.underlying48 rfl (info_pg _ HP.out.2.2) ?_)
                | (refine wpList_pg_slice (by rfl) (.tmp 98) (by rfl) (idxPg l q) HP.out.2.2 (by rfl) ?_)
                | (refine wpList_app_pgQ (by rfl) (.tmp 97) (.tmp 99) (by rfl) HP.out.2.1 HN.out.symm HP.out.2.2 (by rfl) (by rfl) HPN.out fun v' w7 q1 => ?_; have H7 := Lib.hid q1; clear q1))
              go_round
              case rel => exact ⟨q + 1, by omega, by congr 1 <;> omega, by rw [List.range_succ, List.map_append, ← List.cons_append]; exact H7.out⟩
              case measure => simp [intOf]; omega
      · have hqe : Hid (q = (l.length + 15) / 16) := Lib.hid (by rw [← hk.out]; omega)
        have i1 : ¬ (16 * (q : Int)) < (k : Int) := by omega
        go_wp2_with fail
        go_meet
        rw [← hqe.out]
        exact HR.out
  case rest =>
    rename_i K1 hK1
    refine hK1 _ _ ?_
    exact sec_chs HE hk hk64 hll HC hcut
end Go.Proofs.YtkabkehfckbhcaaDoor
