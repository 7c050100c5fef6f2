/-
  ring: RingOpens: records laid on both disks.
-/
import Derived.Test.YtkabkehfckbhcaaDoorZRgOpY
namespace Go.Proofs.YtkabkehfckbhcaaDoor
set_option linter.unusedVariables false
set_option linter.unusedSimpArgs false
open Go.RowKit

theorem tup2_info (x y : Int) : (Tryd.prog.info? 40).map (·.size) = some (tupF [x, y]).toArray.size := by kernel_rfl
/-- A mark's cells. -/
def mkL (pl : Int) (nu : Nat) (la : List Nat) : List Value := .int .i64 pl :: .int .u64 ((nu : Nat) : Int) :: bv la
theorem mkL_length (pl : Int) (nu : Nat) {la : List Nat} (h : la.length = 32) : (mkL pl nu la).length = 34 := by simp [mkL, bv_length, h]
section
variable {w : World} {ab : Nat} {pl : Int} {nu : Nat} {la : List Nat} {t : TypeId}
theorem mkb_place (h : IsBlk w ab (mkL pl nu la).toArray t) (pl' : Int) : IsBlk (w.setCell ⟨ab, 0, none⟩ (.int .i64 pl')) ab (mkL pl' nu la).toArray t ∧ But (fun k => k = ab) w (w.setCell ⟨ab, 0, none⟩ (.int .i64 pl')) := by
  have h1 := h.set 0 (.int .i64 pl')
  rw [List.setIfInBounds_toArray] at h1
  exact ⟨h1, (But.refl (fun k => k = ab) w).setCell (p := ⟨ab, 0, none⟩) rfl _⟩
theorem mkb_num (h : IsBlk w ab (mkL pl nu la).toArray t) (nu' : Nat) : IsBlk (w.setCell ⟨ab, 1, none⟩ (.int .u64 ((nu' : Nat) : Int))) ab (mkL pl nu' la).toArray t ∧ But (fun k => k = ab) w (w.setCell ⟨ab, 1, none⟩ (.int .u64 ((nu' : Nat) : Int))) := by
  have h1 := h.set 1 (.int .u64 ((nu' : Nat) : Int))
  rw [List.setIfInBounds_toArray] at h1
  exact ⟨h1, (But.refl (fun k => k = ab) w).setCell (p := ⟨ab, 1, none⟩) rfl _⟩
theorem mkb_last (h : IsBlk w ab (mkL pl nu la).toArray t) (hl : la.length = 32) {m : List Nat} (hm : m.length = 32) : IsBlk (w.setCells ab 2 (bv m)) ab (mkL pl nu m).toArray t ∧ But (fun k => k = ab) w (w.setCells ab 2 (bv m)) ∧ w.there ab 2 32 := by
  refine ⟨?_, (But.refl (fun k => k = ab) w).setCells (g := ab) rfl _ _, isBlk_there h 2 32 (by rw [mkL_length _ _ hl]; decide)⟩
  refine isBlk_setCells (cs' := mkL pl nu m) h (fun i => ?_)
  rw [bv_length, hm, mkL_length _ _ hl]
  rcases i with _ | _ | i
  · rfl
  · rfl
  · show (bv m)[i]? = _
    by_cases hi : i < 32
    · have c : i + 1 + 1 < 34 ∧ 2 ≤ i + 1 + 1 ∧ i + 1 + 1 < 2 + 32 := by omega
      rw [if_pos c, show i + 1 + 1 - 2 = i by omega]
    · have c : ¬ (i + 1 + 1 < 34 ∧ 2 ≤ i + 1 + 1 ∧ i + 1 + 1 < 2 + 32) := by omega
      rw [if_neg c, List.getElem?_eq_none (by rw [bv_length]; omega), List.getElem?_eq_none (by rw [mkL_length _ _ hl]; omega)]
end
/-- What stands while records are laid. -/
structure AtI (W w : World) (B db kb mb ab : Nat) (d : DK) (kk : Nat) (place : Int) (num : Nat) (last : List Nat) (pl : Int) (nu : Nat) (la : List Nat) : Prop where
  e : EndI W w B db kb mb d 200 kk place num last
  ri : RI (fun k => k = ab) B w db kb d d
  at_ : IsBlk w ab (mkL pl nu la).toArray 38
  aok : MarkOk nu la
  hab : B ≤ ab
theorem AtI.below {W w w' : World} {B db kb mb ab : Nat} {d : DK} {kk : Nat} {place : Int} {num : Nat} {last : List Nat} {pl : Int} {nu : Nat} {la : List Nat} (h : AtI W w B db kb mb ab d kk place num last pl nu la) (hb : Below w.heap.size w w') : AtI W w' B db kb mb ab d kk place num last pl nu la :=
  ⟨h.e.below hb, h.ri.below hb, h.at_.below hb h.at_.lt, h.aok, h.hab⟩
/-- The calls that make a record, in one form. -/
theorem changes_in (w : World) (M : Nat) (x : Int) (hM : M ≤ 64) : Calls Tryd.prog 14 #[.int .i64 (M : Int), .int .i64 x] w fun e w' => ∃ ya yc, e = .returned (.slice ya M yc) ∧ IsChs w' ya (chg M x) ∧ Below w.heap.size w w' :=
  (changes_any w M x hM).mono fun e w' ⟨v, h1, h2, h3⟩ => by
    obtain ⟨ya, yc, e4⟩ := h2.slice
    rw [chg_length] at e4
    subst e4
    exact ⟨ya, yc, h1, IsChs.of_row h2 (chg_ok (by omega) x), h3⟩
theorem told_in {w : World} {ya : Option Addr} (M : Nat) (x : Int) (yc : Nat) (hM : M ≤ 64) (h : IsChs w ya (chg M x)) : Calls Tryd.prog 13 #[.slice ya M yc] w fun e w' => ∃ za zc, e = .returned (.slice za M zc) ∧ IsChs w' za (chg M x) ∧ Below w.heap.size w w' :=
  (told_any w ya yc M (chg M x) h (chg_length M x).symm (by rw [chg_length]; omega)).mono fun e w' ⟨v, h1, h2, h3⟩ => by
    obtain ⟨za, zc, e4⟩ := h2.slice
    rw [chg_length] at e4
    subst e4
    exact ⟨za, zc, h1, IsChs.of_row h2 (chg_ok (by omega) x), h3⟩
theorem sectors_in {w : World} {za : Option Addr} {nu : Nat} {la : List Nat} (pl : Int) (M : Nat) (x : Int) (zc : Nat) (hM : M ≤ 64) (hm : MarkOk nu la) (h : IsChs w za (chg M x)) : Calls Tryd.prog 12 #[.agg (mkL pl nu la).toArray, .slice za M zc] w fun e w' => ∃ pa pc, e = .returned (.tuple #[.slice pa (recPgs la nu (chg M x)).length pc, .agg (nv .u8 (recSum la nu (chg M x)))]) ∧ RowF w' w.heap.size 48 64 bv (.slice pa (recPgs la nu (chg M x)).length pc) (recPgs la nu (chg M x)) ∧ Below w.heap.size w w' :=
  (sectors_walk (place := pl) ⟨hm.len, hm.byte, hm.num, h, by rw [chg_length]; exact hM⟩ (chg_length M x).symm).mono fun e w' ⟨v, h1, h2, h3⟩ => by
    obtain ⟨pa, pc, e4⟩ := h2.slice
    subst e4
    exact ⟨pa, pc, h1, h2, h3⟩
set_option maxRecDepth 100000 in
set_option maxHeartbeats 8000000 in
theorem opens_adds {W w : World} {B db kb mb ab : Nat} {d0 : DK} {kk0 bn bc an ac : Nat} {ba aa : Option Addr} {la0 : List Nat} {nu0 : Nat} {pl0 : Int} {lb l2 : List (List Int)} {place : Int} {num : Nat} {last : List Nat} (H : Hid (AtI W w B db kb mb ab d0 kk0 place num last pl0 nu0 la0)) (hkk : kk0 = 0) (HB : Hid (IsTup 3 W ba lb ∧ bn = lb.length)) (hbn : bn ≤ 50) (HA : Hid (IsTup 2 W aa l2 ∧ an = l2.length)) (han : an ≤ 40) {u0 u4 u5 u6 u9 u11 u13 u14 u15 u16 u17 u18 u19 u20 u21 u22 u23 u24 u25 u26 u27 u28 u29 u30 u31 u32 u33 u34 u35 u36 u37 u38 u39 u40 u41 u42 u43 u44 u45 u46 u47 u48 u49 u50 u51 u52 u53 u54 u55 u56 u57 u58 u59 u60 u61 u62 u63 u64 u65 u66 u67 u68 u69 u70 u71 u72 u73 u74 u75 u76 u77 u78 u79 u80 u81 u82 u83 u84 u85 u86 u87 u88 u89 u90 u91 u92 u93 u94 u95 u96 u97 u98 u99 u100 u101 u102 u103 u104 u105 u106 u107 u108 u109 u110 u111 u112 u113 u114 u115 u116 u117 u118 u119 u120 u121 u122 u123 u124 u125 u126 u127 u128 u129 u130 u131 u132 u133 u134 u135 u136 u137 u138 u139 u140 u141 u142 u143 u144 u145 u146 u147 u148 u149 u150 u151 u152 u153 u154 u155 u156 u157 u158 u159 u160 u161 u162 u163 u164 u165 u166 u167 u168 u169 u170 u171 : Value} :
    Code.wp Tryd.prog (restOf Tryd.f3 9) (bodyPost Tryd.prog Tryd.f3 (lawPost W)) ⟨(u0 :: .slice aa an ac :: .slice ba bn bc :: .pointer (some ⟨mb, 0, none⟩) :: u4 :: u5 :: u6 :: .int .i64 128 :: .pointer (some ⟨db, 0, none⟩) :: u9 :: .pointer (some ⟨kb, 0, none⟩) :: u11 :: .pointer (some ⟨ab, 0, none⟩) :: u13 :: u14 :: u15 :: u16 :: u17 :: u18 :: u19 :: u20 :: u21 :: u22 :: u23 :: u24 :: u25 :: u26 :: u27 :: u28 :: u29 :: u30 :: u31 :: u32 :: u33 :: u34 :: u35 :: u36 :: u37 :: u38 :: u39 :: u40 :: u41 :: u42 :: u43 :: u44 :: u45 :: u46 :: u47 :: u48 :: u49 :: u50 :: u51 :: u52 :: u53 :: u54 :: u55 :: u56 :: u57 :: u58 :: u59 :: u60 :: u61 :: u62 :: u63 :: u64 :: u65 :: u66 :: u67 :: u68 :: u69 :: u70 :: u71 :: u72 :: u73 :: u74 :: u75 :: u76 :: u77 :: u78 :: u79 :: u80 :: u81 :: u82 :: u83 :: u84 :: u85 :: u86 :: u87 :: u88 :: u89 :: u90 :: u91 :: u92 :: u93 :: u94 :: u95 :: u96 :: u97 :: u98 :: u99 :: u100 :: u101 :: u102 :: u103 :: u104 :: u105 :: u106 :: u107 :: u108 :: u109 :: u110 :: u111 :: u112 :: u113 :: u114 :: u115 :: u116 :: u117 :: u118 :: u119 :: u120 :: u121 :: u122 :: u123 :: u124 :: u125 :: u126 :: u127 :: u128 :: u129 :: u130 :: u131 :: u132 :: u133 :: u134 :: u135 :: u136 :: u137 :: u138 :: u139 :: u140 :: u141 :: u142 :: u143 :: u144 :: u145 :: u146 :: u147 :: u148 :: u149 :: u150 :: u151 :: u152 :: u153 :: u154 :: u155 :: u156 :: u157 :: u158 :: u159 :: u160 :: u161 :: u162 :: u163 :: u164 :: u165 :: u166 :: u167 :: u168 :: u169 :: u170 :: u171 :: []).toArray, []⟩ w := by
  conv => arg 2; whnf
  go_upto_block 0 with fail
  go_cut [52] (fun _ wx => ∃ kk d, kk ≤ 4000 ∧ Hid (EndI W wx B db kb mb d 200 kk place num last))
  case first =>
    go_wp2_with fail
    go_loopw [52] (fun i wr => ∃ j : Nat, ∃ kk d pl nu la, j ≤ an ∧ kk ≤ 20 * j ∧ i = .int .i64 j ∧ Hid (AtI W wr B db kb mb ab d kk place num last pl nu la)) (fun i _ => an - (intOf i).toNat)
    case atStart => exact ⟨0, kk0, d0, pl0, nu0, la0, by omega, by omega, rfl, H.out⟩
    case round =>
      obtain ⟨j, kk, d, pl, nu, la, hj, hkj, rfl, HR⟩ := hrel
      by_cases hjl : j < an
      · obtain ⟨z, hz⟩ : ∃ z, l2[j]? = some z := ⟨_, List.getElem?_eq_getElem (by rw [← HA.out.2]; exact hjl)⟩
        obtain ⟨hzl, hzb⟩ := HA.out.1.ok z (List.mem_of_getElem? hz)
        obtain ⟨b, off, rfl, hbl, hrg⟩ := (HA.out.1.below HR.out.e.bel).at_.resolve_left (by rintro rfl; simp at hz)
        obtain ⟨x0, x1, rfl⟩ : ∃ x0 x1, z = [x0, x1] := by
          match z, hzl with
          | [x0, x1], _ => exact ⟨x0, x1, rfl⟩
        have hx0 := hzb x0 (by simp)
        have hx1 := hzb x1 (by simp)
        have HZ := Lib.hid (hrg j _ hz)
        clear hzl hzb hz hrg hbl
        have j1 : (j : Int) < (an : Int) := by omega
        go_upto_region 12 with (first
          | (refine wpList_load_mid (by rfl) 40 (.tmp 54) (by rfl) b (off + j * 2) (by rfl) (tupF [x0, x1]) _ HZ.out Tryd.underlying40 rfl (by kernel_rfl) ?_)
          | (refine wpList_alloc_info (by rfl) 40 (by rfl) (.agg (tupF [0, 0]).toArray) (tupF [0, 0]).toArray (by kernel_rfl) rfl ?_)
          | (refine wpList_store_row (by rfl) 40 (.tmp 14) (.tmp 55) (by rfl) _ (tupF [x0, x1]).toArray (by rfl) (by rfl) 40 (tupF [0, 0]).toArray (heap_alloc_new _ _) (tup2_info x0 x1) rfl (all_oneCell_toArray (tupF_one _)) ?_))
        have hv := mk_var wr (tupF [0, 0]).toArray (tupF [x0, x1]).toArray 40
        generalize (wr.alloc (.cells (tupF [0, 0]).toArray 40)).setRow wr.heap.size (tupF [x0, x1]).toArray = w3 at hv ⊢
        obtain ⟨Q, hQ1, hQr, hR1, hR2⟩ := brought x0 8 (by decide)
        rw [show ((8 : Nat) : Int) = 8 from rfl] at hQr hR1 hR2
        obtain ⟨Q0, hQ0⟩ : ∃ Q0, Q0 = x0.tmod 8 := ⟨_, rfl⟩
        rw [← hQ0] at hQr hR1 hR2
        have hQ0' := hQ0.symm
        obtain ⟨M, hM⟩ : ∃ M, M = Q + 1 := ⟨_, rfl⟩
        have hM64 : M ≤ 64 := by omega
        have hM8 : M ≤ 8 := by omega
        have hMr : (Q : Int) + 1 = (M : Int) := by omega
        have hwQ : IntKind.i64.wrap (Q0 + 8) = Q0 + 8 := IntWalk.i64_in _ ⟨by omega, by omega⟩
        have hwM : IntKind.i64.wrap (M : Int) = (M : Int) := IntWalk.i64_in _ ⟨by omega, by omega⟩
        clear hQ0 hM
        have h3 := HR.out.below hv.2
        have ht := hv.1
        generalize wr.heap.size = tb at ht hv ⊢
        have hsb : ∀ w', Below w3.heap.size w3 w' → Below w3.heap.size w3 w' ∧ w'.cell? ⟨tb, 0, none⟩ = some (.int .i64 x0) ∧ w'.cell? ⟨tb, 1, none⟩ = some (.int .i64 x1) ∧ w'.rangeAt ab 0 (mkL pl nu la) := fun w' hb => ⟨hb, (ht.below hb ht.lt).cell 0 rfl, (ht.below hb ht.lt).cell 1 rfl, isBlk_range (h3.at_.below hb h3.at_.lt) 0 (fun j v hv => by rw [Nat.zero_add]; exact hv)⟩
        have HSB := Lib.hid hsb
        have H3 := Lib.hid (And.intro hv.2 h3)
        have hdl : (recSum la nu (chg M x1)).length = 32 := digest_length _
        have HDL := Lib.hid hdl
        clear hv h3 ht hsb hdl
        have hch := fun w' => changes_in w' M x1 hM64
        (try simp only [Act.put, List.getElem_toArray, List.getElem_cons_succ, List.getElem_cons_zero, List.setIfInBounds_toArray, List.set_cons_zero, List.set_cons_succ])
        go_cut [15, 16] (fun v s wx => ∃ pa pc sb, v = .slice pa (recPgs la nu (chg M x1)).length pc ∧ s = .pointer (some ⟨sb, 0, none⟩) ∧ Hid (Below w3.heap.size w3 wx ∧ IsBlk wx sb (nv .u8 (recSum la nu (chg M x1))) 23 ∧ w3.heap.size ≤ sb ∧ RowF wx w3.heap.size 48 64 bv (.slice pa (recPgs la nu (chg M x1)).length pc) (recPgs la nu (chg M x1))))
        case first =>
          refine wp_region_held_drew (S := fun w' => Below w3.heap.size w3 w' ∧ w'.cell? ⟨tb, 0, none⟩ = some (.int .i64 x0) ∧ w'.cell? ⟨tb, 1, none⟩ = some (.int .i64 x1) ∧ w'.rangeAt ab 0 (mkL pl nu la)) (by kernel_rfl) (HSB.out _ ((Below.refl _ _).drew)) (fun hHeld => ?_)
          refine wpAnyH_take (i := 0) (v := .agg (mkL pl nu la).toArray) rfl (by kernel_rfl) (by kernel_rfl) (by kernel_rfl) (fun _ _ _ h => h) (yieldsIf_load_mid (by rfl) 38 (.tmp 12) (by rfl) ab 0 (by rfl) (mkL pl nu la) _ (fun w hS => hS.2.2.2) Tryd.underlying38 rfl (by rw [mkL_length _ _ HR.out.aok.len]; kernel_rfl)) (by with_reducible assumption) ?_
          (try simp only [Act.put, List.getElem_toArray, List.getElem_cons_succ, List.getElem_cons_zero, List.setIfInBounds_toArray, List.set_cons_zero, List.set_cons_succ])
          refine wpAnyH_take (i := 1) (v := ?_) rfl (by kernel_rfl) (by kernel_rfl) (by kernel_rfl) (fun _ _ _ h => h) (Or.inl ⟨by rfl, ?_⟩) (by with_reducible assumption) ?_
          rotate_left
          · intro w hSw; (try dsimp only at hSw); (try go_split_ands); go_simp; (try with_reducible rfl)
          (try simp only [Act.put, List.getElem_toArray, List.getElem_cons_succ, List.getElem_cons_zero, List.setIfInBounds_toArray, List.set_cons_zero, List.set_cons_succ])
          refine wpAnyH_take (i := 2) (v := ?_) rfl (by kernel_rfl) (by kernel_rfl) (by kernel_rfl) (fun _ _ _ h => h) (Or.inl ⟨by rfl, ?_⟩) (by with_reducible assumption) ?_
          rotate_left
          · intro w hSw; (try dsimp only at hSw); (try go_split_ands); go_simp; (try with_reducible rfl)
          (try simp only [Act.put, List.getElem_toArray, List.getElem_cons_succ, List.getElem_cons_zero, List.setIfInBounds_toArray, List.set_cons_zero, List.set_cons_succ])
          refine wpAnyH_take (i := 3) (v := ?_) rfl (by kernel_rfl) (by kernel_rfl) (by kernel_rfl) (fun _ _ _ h => h) (Or.inl ⟨by rfl, ?_⟩) (by with_reducible assumption) ?_
          rotate_left
          · intro w hSw; (try dsimp only at hSw); (try go_split_ands); go_simp; (try with_reducible rfl)
          (try simp only [Act.put, List.getElem_toArray, List.getElem_cons_succ, List.getElem_cons_zero, List.setIfInBounds_toArray, List.set_cons_zero, List.set_cons_succ])
          refine wpAnyH_take (i := 4) (v := ?_) rfl (by kernel_rfl) (by kernel_rfl) (by kernel_rfl) (fun _ _ _ h => h) (Or.inl ⟨by rfl, ?_⟩) (by with_reducible assumption) ?_
          rotate_left
          · intro w hSw; (try dsimp only at hSw); (try go_split_ands); go_simp; (try with_reducible rfl)
          (try simp only [Act.put, List.getElem_toArray, List.getElem_cons_succ, List.getElem_cons_zero, List.setIfInBounds_toArray, List.set_cons_zero, List.set_cons_succ])
          refine wpAnyH_take (i := 5) (v := ?_) rfl (by kernel_rfl) (by kernel_rfl) (by kernel_rfl) (fun _ _ _ h => h) (Or.inl ⟨by rfl, ?_⟩) (by with_reducible assumption) ?_
          rotate_left
          · intro w hSw; (try dsimp only at hSw); (try go_split_ands); go_simp; (try with_reducible rfl)
          (try simp only [Act.put, List.getElem_toArray, List.getElem_cons_succ, List.getElem_cons_zero, List.setIfInBounds_toArray, List.set_cons_zero, List.set_cons_succ])
          refine wpAnyH_take (i := 6) (v := ?_) rfl (by kernel_rfl) (by kernel_rfl) (by kernel_rfl) (fun _ _ _ h => h) (Or.inl ⟨by rfl, ?_⟩) (by with_reducible assumption) ?_
          rotate_left
          · intro w hSw; (try dsimp only at hSw); (try go_split_ands); go_simp; (try with_reducible rfl)
          (try simp only [Act.put, List.getElem_toArray, List.getElem_cons_succ, List.getElem_cons_zero, List.setIfInBounds_toArray, List.set_cons_zero, List.set_cons_succ])
          refine wpAnyH_take (i := 7) (v := ?_) rfl (by kernel_rfl) (by kernel_rfl) (by kernel_rfl) (fun _ _ _ h => h) (Or.inl ⟨by rfl, ?_⟩) (by with_reducible assumption) ?_
          rotate_left
          · intro w hSw; (try dsimp only at hSw); (try go_split_ands); go_simp; (try with_reducible rfl)
          (try simp only [Act.put, List.getElem_toArray, List.getElem_cons_succ, List.getElem_cons_zero, List.setIfInBounds_toArray, List.set_cons_zero, List.set_cons_succ])
          refine wpAnyH_take (i := 8) (v := ?_) rfl (by kernel_rfl) (by kernel_rfl) (by kernel_rfl) (fun _ _ _ h => h) (Or.inl ⟨by rfl, ?_⟩) (by with_reducible assumption) ?_
          rotate_left
          · intro w hSw; (try dsimp only at hSw); (try go_split_ands); go_simp; (try with_reducible rfl)
          (try simp only [Act.put, List.getElem_toArray, List.getElem_cons_succ, List.getElem_cons_zero, List.setIfInBounds_toArray, List.set_cons_zero, List.set_cons_succ])
          refine wpAnyH_ready (rs := [9, 15]) (by kernel_rfl) (by simp) ?_
          refine AllReadyH.cons rfl (fun K9 hK9 => ?_) (AllReadyH.cons rfl (fun K9 hK9 => ?_) AllReadyH.nil)
          · skip
            go_simp
            go_wp2_with (go_at_call 14; (with_reducible refine (hch _).mono ?_); rintro e wA ⟨ya, yc, rfl, hca, hbx⟩; have HCH := Lib.hid hca; clear hca)
            try have HN := Lib.hid (And.intro (HN.out.1.below hbx HN.out.1.lt) HN.out.2)
            have hbW := hHeld.1.trans (hbx.mono hHeld.1.size)
            refine hK9.out _ _ (HSB.out _ hbW) (fun hHeld => ?_)
            clear hK9 K9 hbW hbx
            (try simp only [Act.put, List.getElem_toArray, List.getElem_cons_succ, List.getElem_cons_zero, List.setIfInBounds_toArray, List.set_cons_zero, List.set_cons_succ])
            refine wpAnyH_ready (rs := [10, 15]) (by kernel_rfl) (by simp) ?_
            refine AllReadyH.cons rfl (fun K9 hK9 => ?_) (AllReadyH.cons rfl (fun K9 hK9 => ?_) AllReadyH.nil)
            · skip
              go_simp
              go_wp2_with (go_at_call 13; (with_reducible refine (told_in M x1 _ hM64 HCH.out).mono ?_); rintro e wB ⟨za, zc, rfl, hca, hbx⟩; have HTO := Lib.hid hca; clear hca)
              try have HN := Lib.hid (And.intro (HN.out.1.below hbx HN.out.1.lt) HN.out.2)
              have hbW := hHeld.1.trans (hbx.mono hHeld.1.size)
              refine hK9.out _ _ (HSB.out _ hbW) (fun hHeld => ?_)
              clear hK9 K9 hbW hbx
              (try simp only [Act.put, List.getElem_toArray, List.getElem_cons_succ, List.getElem_cons_zero, List.setIfInBounds_toArray, List.set_cons_zero, List.set_cons_succ])
              refine wpAnyH_ready (rs := [11, 15]) (by kernel_rfl) (by simp) ?_
              refine AllReadyH.cons rfl (fun K9 hK9 => ?_) (AllReadyH.cons rfl (fun K9 hK9 => ?_) AllReadyH.nil)
              · skip
                go_simp
                go_wp2_with (go_at_call 12; (refine (sectors_in pl M x1 _ hM64 HR.out.aok HTO.out).mono ?_); rintro e wC ⟨pa, pc, rfl, hpa, hbx⟩)
                have HPG := Lib.hid (hpa.mono (show w3.heap.size ≤ _ from hHeld.1.size))
                clear hpa
                try have HN := Lib.hid (And.intro (HN.out.1.below hbx HN.out.1.lt) HN.out.2)
                have hbW := hHeld.1.trans (hbx.mono hHeld.1.size)
                refine hK9.out _ _ (HSB.out _ hbW) (fun hHeld => ?_)
                clear hK9 K9 hbW hbx
                (try simp only [Act.put, List.getElem_toArray, List.getElem_cons_succ, List.getElem_cons_zero, List.setIfInBounds_toArray, List.set_cons_zero, List.set_cons_succ])
                refine wpAnyH_take (i := 12) (v := ?_) rfl (by kernel_rfl) (by kernel_rfl) (by kernel_rfl) (fun _ _ _ h => h) (Or.inl ⟨by rfl, ?_⟩) (by with_reducible assumption) ?_
                rotate_left
                · intro w hSw; (try dsimp only at hSw); (try go_split_ands); go_simp; (try with_reducible rfl)
                (try simp only [Act.put, List.getElem_toArray, List.getElem_cons_succ, List.getElem_cons_zero, List.setIfInBounds_toArray, List.set_cons_zero, List.set_cons_succ])
                refine wpAnyH_take (i := 13) (v := ?_) rfl (by kernel_rfl) (by kernel_rfl) (by kernel_rfl) (fun _ _ _ h => h) (Or.inl ⟨by rfl, ?_⟩) (by with_reducible assumption) ?_
                rotate_left
                · intro w hSw; (try dsimp only at hSw); (try go_split_ands); go_simp; (try with_reducible rfl)
                (try simp only [Act.put, List.getElem_toArray, List.getElem_cons_succ, List.getElem_cons_zero, List.setIfInBounds_toArray, List.set_cons_zero, List.set_cons_succ])
                refine wpAnyH_take (i := 14) (v := ?_) rfl (by kernel_rfl) (by kernel_rfl) (by kernel_rfl) (fun _ _ _ h => h) (Or.inl ⟨by rfl, ?_⟩) (by with_reducible assumption) ?_
                rotate_left
                · intro w hSw; (try dsimp only at hSw); (try go_split_ands); go_simp; (try with_reducible rfl)
                (try simp only [Act.put, List.getElem_toArray, List.getElem_cons_succ, List.getElem_cons_zero, List.setIfInBounds_toArray, List.set_cons_zero, List.set_cons_succ])
                refine wpAnyH_ready (rs := [15]) (by kernel_rfl) (by simp) ?_
                refine AllReadyH.cons rfl (fun K9 hK9 => ?_) AllReadyH.nil
                rw [if_pos (by rfl)]
                simp only [List.getElem_toArray, List.getElem_cons_succ, List.getElem_cons_zero]
                refine wp_alloc_info 23 (by rfl) (.agg (nv .u8 Z32)) (nv .u8 Z32) (by kernel_rfl) rfl ?_
                have hN : IsBlk (World.alloc wC (.cells (nv .u8 Z32) 23)) (World.heap wC).size (nv .u8 Z32) 23 := IsBlk.new _ _ _
                have hbx : Below (World.heap wC).size wC (World.alloc wC (.cells (nv .u8 Z32) 23)) := (Below.refl _ _).alloc (Nat.le_refl _) _
                have hsN : w3.heap.size ≤ (World.heap wC).size := hHeld.1.size
                have hbW := hHeld.1.trans (hbx.mono hsN)
                generalize World.alloc wC (.cells (nv .u8 Z32) 23) = wN at hN hbx hbW ⊢
                try have HCH := Lib.hid (HCH.out.below hbx)
                try have HTO := Lib.hid (HTO.out.below hbx)
                try have HPG := Lib.hid (HPG.out.below hbx)
                refine hK9.out _ _ (HSB.out _ hbW) (fun hHeld => ?_)
                have HN := Lib.hid (And.intro hN hsN)
                clear hK9 K9 hN hbx hsN hbW
                generalize (World.heap wC).size = sb at HN ⊢
                (try simp only [Act.put, List.getElem_toArray, List.getElem_cons_succ, List.getElem_cons_zero, List.setIfInBounds_toArray, List.set_cons_zero, List.set_cons_succ])
                refine wpAnyH_take (i := 16) (v := ?_) rfl (by kernel_rfl) (by kernel_rfl) (by kernel_rfl) (fun _ _ _ h => h) (Or.inl ⟨by rfl, ?_⟩) (by with_reducible assumption) ?_
                rotate_left
                · intro w hSw; (try dsimp only at hSw); (try go_split_ands); go_simp; (try with_reducible rfl)
                (try simp only [Act.put, List.getElem_toArray, List.getElem_cons_succ, List.getElem_cons_zero, List.setIfInBounds_toArray, List.set_cons_zero, List.set_cons_succ])
                refine wpAnyH_ready (rs := [17]) (by kernel_rfl) (by simp) ?_
                refine AllReadyH.cons rfl (fun K9 hK9 => ?_) AllReadyH.nil
                rw [if_pos (by rfl)]
                simp only [List.getElem_toArray, List.getElem_cons_succ, List.getElem_cons_zero]
                have hlay := dg_laid HN.out.1 (by rfl) HDL.out
                refine wp_store_mid 23 (.tmp 16) (.tmp 70) (by rfl) sb 0 (nv .u8 (recSum la nu (chg M x1))) (by rfl) (by rfl) (by rw [nv_size, HDL.out]; exact hlay.2.2) (by rw [nv_size, HDL.out]; kernel_rfl) (nv_one _ _) ?_
                have hbL := hHeld.1.trans (hlay.2.1.below hHeld.1.size (fun k hk => by rw [hk]; exact HN.out.2))
                have hpL := HPG.out.but hlay.2.1 (fun k hk e => HPG.out.no_blk HN.out.1 (by decide) (by rw [hk, e]))
                refine hK9.out _ _ (HSB.out _ hbL) (fun hHeld => ?_)
                clear hK9 K9
                (try simp only [Act.put, List.getElem_toArray, List.getElem_cons_succ, List.getElem_cons_zero, List.setIfInBounds_toArray, List.set_cons_zero, List.set_cons_succ])
                refine wpAnyH_done (by kernel_rfl) ?_ _
                have HL := Lib.hid (And.intro hbL (And.intro hlay.1 (And.intro HN.out.2 hpL)))
                clear hlay hbL hHeld hpL
                go_wp2_with fail
                go_meet
                exact ⟨_, _, sb, rfl, rfl, HL.out⟩
              · skip
                rw [if_pos (by rfl)]
                simp only [List.getElem_toArray, List.getElem_cons_succ, List.getElem_cons_zero]
                refine wp_alloc_info 23 (by rfl) (.agg (nv .u8 Z32)) (nv .u8 Z32) (by kernel_rfl) rfl ?_
                have hN : IsBlk (World.alloc wB (.cells (nv .u8 Z32) 23)) (World.heap wB).size (nv .u8 Z32) 23 := IsBlk.new _ _ _
                have hbx : Below (World.heap wB).size wB (World.alloc wB (.cells (nv .u8 Z32) 23)) := (Below.refl _ _).alloc (Nat.le_refl _) _
                have hsN : w3.heap.size ≤ (World.heap wB).size := hHeld.1.size
                have hbW := hHeld.1.trans (hbx.mono hsN)
                generalize World.alloc wB (.cells (nv .u8 Z32) 23) = wN at hN hbx hbW ⊢
                try have HCH := Lib.hid (HCH.out.below hbx)
                try have HTO := Lib.hid (HTO.out.below hbx)
                try have HPG := Lib.hid (HPG.out.below hbx)
                refine hK9.out _ _ (HSB.out _ hbW) (fun hHeld => ?_)
                have HN := Lib.hid (And.intro hN hsN)
                clear hK9 K9 hN hbx hsN hbW
                generalize (World.heap wB).size = sb at HN ⊢
                (try simp only [Act.put, List.getElem_toArray, List.getElem_cons_succ, List.getElem_cons_zero, List.setIfInBounds_toArray, List.set_cons_zero, List.set_cons_succ])
                refine wpAnyH_ready (rs := [11]) (by kernel_rfl) (by simp) ?_
                refine AllReadyH.cons rfl (fun K9 hK9 => ?_) AllReadyH.nil
                go_simp
                go_wp2_with (go_at_call 12; (refine (sectors_in pl M x1 _ hM64 HR.out.aok HTO.out).mono ?_); rintro e wC ⟨pa, pc, rfl, hpa, hbx⟩)
                have HPG := Lib.hid (hpa.mono (show w3.heap.size ≤ _ from hHeld.1.size))
                clear hpa
                try have HN := Lib.hid (And.intro (HN.out.1.below hbx HN.out.1.lt) HN.out.2)
                have hbW := hHeld.1.trans (hbx.mono hHeld.1.size)
                refine hK9.out _ _ (HSB.out _ hbW) (fun hHeld => ?_)
                clear hK9 K9 hbW hbx
                (try simp only [Act.put, List.getElem_toArray, List.getElem_cons_succ, List.getElem_cons_zero, List.setIfInBounds_toArray, List.set_cons_zero, List.set_cons_succ])
                refine wpAnyH_take (i := 12) (v := ?_) rfl (by kernel_rfl) (by kernel_rfl) (by kernel_rfl) (fun _ _ _ h => h) (Or.inl ⟨by rfl, ?_⟩) (by with_reducible assumption) ?_
                rotate_left
                · intro w hSw; (try dsimp only at hSw); (try go_split_ands); go_simp; (try with_reducible rfl)
                (try simp only [Act.put, List.getElem_toArray, List.getElem_cons_succ, List.getElem_cons_zero, List.setIfInBounds_toArray, List.set_cons_zero, List.set_cons_succ])
                refine wpAnyH_take (i := 13) (v := ?_) rfl (by kernel_rfl) (by kernel_rfl) (by kernel_rfl) (fun _ _ _ h => h) (Or.inl ⟨by rfl, ?_⟩) (by with_reducible assumption) ?_
                rotate_left
                · intro w hSw; (try dsimp only at hSw); (try go_split_ands); go_simp; (try with_reducible rfl)
                (try simp only [Act.put, List.getElem_toArray, List.getElem_cons_succ, List.getElem_cons_zero, List.setIfInBounds_toArray, List.set_cons_zero, List.set_cons_succ])
                refine wpAnyH_take (i := 14) (v := ?_) rfl (by kernel_rfl) (by kernel_rfl) (by kernel_rfl) (fun _ _ _ h => h) (Or.inl ⟨by rfl, ?_⟩) (by with_reducible assumption) ?_
                rotate_left
                · intro w hSw; (try dsimp only at hSw); (try go_split_ands); go_simp; (try with_reducible rfl)
                (try simp only [Act.put, List.getElem_toArray, List.getElem_cons_succ, List.getElem_cons_zero, List.setIfInBounds_toArray, List.set_cons_zero, List.set_cons_succ])
                refine wpAnyH_take (i := 16) (v := ?_) rfl (by kernel_rfl) (by kernel_rfl) (by kernel_rfl) (fun _ _ _ h => h) (Or.inl ⟨by rfl, ?_⟩) (by with_reducible assumption) ?_
                rotate_left
                · intro w hSw; (try dsimp only at hSw); (try go_split_ands); go_simp; (try with_reducible rfl)
                (try simp only [Act.put, List.getElem_toArray, List.getElem_cons_succ, List.getElem_cons_zero, List.setIfInBounds_toArray, List.set_cons_zero, List.set_cons_succ])
                refine wpAnyH_ready (rs := [17]) (by kernel_rfl) (by simp) ?_
                refine AllReadyH.cons rfl (fun K9 hK9 => ?_) AllReadyH.nil
                rw [if_pos (by rfl)]
                simp only [List.getElem_toArray, List.getElem_cons_succ, List.getElem_cons_zero]
                have hlay := dg_laid HN.out.1 (by rfl) HDL.out
                refine wp_store_mid 23 (.tmp 16) (.tmp 70) (by rfl) sb 0 (nv .u8 (recSum la nu (chg M x1))) (by rfl) (by rfl) (by rw [nv_size, HDL.out]; exact hlay.2.2) (by rw [nv_size, HDL.out]; kernel_rfl) (nv_one _ _) ?_
                have hbL := hHeld.1.trans (hlay.2.1.below hHeld.1.size (fun k hk => by rw [hk]; exact HN.out.2))
                have hpL := HPG.out.but hlay.2.1 (fun k hk e => HPG.out.no_blk HN.out.1 (by decide) (by rw [hk, e]))
                refine hK9.out _ _ (HSB.out _ hbL) (fun hHeld => ?_)
                clear hK9 K9
                (try simp only [Act.put, List.getElem_toArray, List.getElem_cons_succ, List.getElem_cons_zero, List.setIfInBounds_toArray, List.set_cons_zero, List.set_cons_succ])
                refine wpAnyH_done (by kernel_rfl) ?_ _
                have HL := Lib.hid (And.intro hbL (And.intro hlay.1 (And.intro HN.out.2 hpL)))
                clear hlay hbL hHeld hpL
                go_wp2_with fail
                go_meet
                exact ⟨_, _, sb, rfl, rfl, HL.out⟩
            · skip
              rw [if_pos (by rfl)]
              simp only [List.getElem_toArray, List.getElem_cons_succ, List.getElem_cons_zero]
              refine wp_alloc_info 23 (by rfl) (.agg (nv .u8 Z32)) (nv .u8 Z32) (by kernel_rfl) rfl ?_
              have hN : IsBlk (World.alloc wA (.cells (nv .u8 Z32) 23)) (World.heap wA).size (nv .u8 Z32) 23 := IsBlk.new _ _ _
              have hbx : Below (World.heap wA).size wA (World.alloc wA (.cells (nv .u8 Z32) 23)) := (Below.refl _ _).alloc (Nat.le_refl _) _
              have hsN : w3.heap.size ≤ (World.heap wA).size := hHeld.1.size
              have hbW := hHeld.1.trans (hbx.mono hsN)
              generalize World.alloc wA (.cells (nv .u8 Z32) 23) = wN at hN hbx hbW ⊢
              try have HCH := Lib.hid (HCH.out.below hbx)
              try have HTO := Lib.hid (HTO.out.below hbx)
              try have HPG := Lib.hid (HPG.out.below hbx)
              refine hK9.out _ _ (HSB.out _ hbW) (fun hHeld => ?_)
              have HN := Lib.hid (And.intro hN hsN)
              clear hK9 K9 hN hbx hsN hbW
              generalize (World.heap wA).size = sb at HN ⊢
              (try simp only [Act.put, List.getElem_toArray, List.getElem_cons_succ, List.getElem_cons_zero, List.setIfInBounds_toArray, List.set_cons_zero, List.set_cons_succ])
              refine wpAnyH_ready (rs := [10]) (by kernel_rfl) (by simp) ?_
              refine AllReadyH.cons rfl (fun K9 hK9 => ?_) AllReadyH.nil
              go_simp
              go_wp2_with (go_at_call 13; (with_reducible refine (told_in M x1 _ hM64 HCH.out).mono ?_); rintro e wB ⟨za, zc, rfl, hca, hbx⟩; have HTO := Lib.hid hca; clear hca)
              try have HN := Lib.hid (And.intro (HN.out.1.below hbx HN.out.1.lt) HN.out.2)
              have hbW := hHeld.1.trans (hbx.mono hHeld.1.size)
              refine hK9.out _ _ (HSB.out _ hbW) (fun hHeld => ?_)
              clear hK9 K9 hbW hbx
              (try simp only [Act.put, List.getElem_toArray, List.getElem_cons_succ, List.getElem_cons_zero, List.setIfInBounds_toArray, List.set_cons_zero, List.set_cons_succ])
              refine wpAnyH_ready (rs := [11]) (by kernel_rfl) (by simp) ?_
              refine AllReadyH.cons rfl (fun K9 hK9 => ?_) AllReadyH.nil
              go_simp
              go_wp2_with (go_at_call 12; (refine (sectors_in pl M x1 _ hM64 HR.out.aok HTO.out).mono ?_); rintro e wC ⟨pa, pc, rfl, hpa, hbx⟩)
              have HPG := Lib.hid (hpa.mono (show w3.heap.size ≤ _ from hHeld.1.size))
              clear hpa
              try have HN := Lib.hid (And.intro (HN.out.1.below hbx HN.out.1.lt) HN.out.2)
              have hbW := hHeld.1.trans (hbx.mono hHeld.1.size)
              refine hK9.out _ _ (HSB.out _ hbW) (fun hHeld => ?_)
              clear hK9 K9 hbW hbx
              (try simp only [Act.put, List.getElem_toArray, List.getElem_cons_succ, List.getElem_cons_zero, List.setIfInBounds_toArray, List.set_cons_zero, List.set_cons_succ])
              refine wpAnyH_take (i := 12) (v := ?_) rfl (by kernel_rfl) (by kernel_rfl) (by kernel_rfl) (fun _ _ _ h => h) (Or.inl ⟨by rfl, ?_⟩) (by with_reducible assumption) ?_
              rotate_left
              · intro w hSw; (try dsimp only at hSw); (try go_split_ands); go_simp; (try with_reducible rfl)
              (try simp only [Act.put, List.getElem_toArray, List.getElem_cons_succ, List.getElem_cons_zero, List.setIfInBounds_toArray, List.set_cons_zero, List.set_cons_succ])
              refine wpAnyH_take (i := 13) (v := ?_) rfl (by kernel_rfl) (by kernel_rfl) (by kernel_rfl) (fun _ _ _ h => h) (Or.inl ⟨by rfl, ?_⟩) (by with_reducible assumption) ?_
              rotate_left
              · intro w hSw; (try dsimp only at hSw); (try go_split_ands); go_simp; (try with_reducible rfl)
              (try simp only [Act.put, List.getElem_toArray, List.getElem_cons_succ, List.getElem_cons_zero, List.setIfInBounds_toArray, List.set_cons_zero, List.set_cons_succ])
              refine wpAnyH_take (i := 14) (v := ?_) rfl (by kernel_rfl) (by kernel_rfl) (by kernel_rfl) (fun _ _ _ h => h) (Or.inl ⟨by rfl, ?_⟩) (by with_reducible assumption) ?_
              rotate_left
              · intro w hSw; (try dsimp only at hSw); (try go_split_ands); go_simp; (try with_reducible rfl)
              (try simp only [Act.put, List.getElem_toArray, List.getElem_cons_succ, List.getElem_cons_zero, List.setIfInBounds_toArray, List.set_cons_zero, List.set_cons_succ])
              refine wpAnyH_take (i := 16) (v := ?_) rfl (by kernel_rfl) (by kernel_rfl) (by kernel_rfl) (fun _ _ _ h => h) (Or.inl ⟨by rfl, ?_⟩) (by with_reducible assumption) ?_
              rotate_left
              · intro w hSw; (try dsimp only at hSw); (try go_split_ands); go_simp; (try with_reducible rfl)
              (try simp only [Act.put, List.getElem_toArray, List.getElem_cons_succ, List.getElem_cons_zero, List.setIfInBounds_toArray, List.set_cons_zero, List.set_cons_succ])
              refine wpAnyH_ready (rs := [17]) (by kernel_rfl) (by simp) ?_
              refine AllReadyH.cons rfl (fun K9 hK9 => ?_) AllReadyH.nil
              rw [if_pos (by rfl)]
              simp only [List.getElem_toArray, List.getElem_cons_succ, List.getElem_cons_zero]
              have hlay := dg_laid HN.out.1 (by rfl) HDL.out
              refine wp_store_mid 23 (.tmp 16) (.tmp 70) (by rfl) sb 0 (nv .u8 (recSum la nu (chg M x1))) (by rfl) (by rfl) (by rw [nv_size, HDL.out]; exact hlay.2.2) (by rw [nv_size, HDL.out]; kernel_rfl) (nv_one _ _) ?_
              have hbL := hHeld.1.trans (hlay.2.1.below hHeld.1.size (fun k hk => by rw [hk]; exact HN.out.2))
              have hpL := HPG.out.but hlay.2.1 (fun k hk e => HPG.out.no_blk HN.out.1 (by decide) (by rw [hk, e]))
              refine hK9.out _ _ (HSB.out _ hbL) (fun hHeld => ?_)
              clear hK9 K9
              (try simp only [Act.put, List.getElem_toArray, List.getElem_cons_succ, List.getElem_cons_zero, List.setIfInBounds_toArray, List.set_cons_zero, List.set_cons_succ])
              refine wpAnyH_done (by kernel_rfl) ?_ _
              have HL := Lib.hid (And.intro hbL (And.intro hlay.1 (And.intro HN.out.2 hpL)))
              clear hlay hbL hHeld hpL
              go_wp2_with fail
              go_meet
              exact ⟨_, _, sb, rfl, rfl, HL.out⟩
          · skip
            rw [if_pos (by rfl)]
            simp only [List.getElem_toArray, List.getElem_cons_succ, List.getElem_cons_zero]
            refine wp_alloc_info 23 (by rfl) (.agg (nv .u8 Z32)) (nv .u8 Z32) (by kernel_rfl) rfl ?_
            have hN : IsBlk (World.alloc w3.drew (.cells (nv .u8 Z32) 23)) (World.heap w3.drew).size (nv .u8 Z32) 23 := IsBlk.new _ _ _
            have hbx : Below (World.heap w3.drew).size w3.drew (World.alloc w3.drew (.cells (nv .u8 Z32) 23)) := (Below.refl _ _).alloc (Nat.le_refl _) _
            have hsN : w3.heap.size ≤ (World.heap w3.drew).size := hHeld.1.size
            have hbW := hHeld.1.trans (hbx.mono hsN)
            generalize World.alloc w3.drew (.cells (nv .u8 Z32) 23) = wN at hN hbx hbW ⊢
            try have HCH := Lib.hid (HCH.out.below hbx)
            try have HTO := Lib.hid (HTO.out.below hbx)
            try have HPG := Lib.hid (HPG.out.below hbx)
            refine hK9.out _ _ (HSB.out _ hbW) (fun hHeld => ?_)
            have HN := Lib.hid (And.intro hN hsN)
            clear hK9 K9 hN hbx hsN hbW
            generalize (World.heap w3.drew).size = sb at HN ⊢
            (try simp only [Act.put, List.getElem_toArray, List.getElem_cons_succ, List.getElem_cons_zero, List.setIfInBounds_toArray, List.set_cons_zero, List.set_cons_succ])
            refine wpAnyH_ready (rs := [9]) (by kernel_rfl) (by simp) ?_
            refine AllReadyH.cons rfl (fun K9 hK9 => ?_) AllReadyH.nil
            go_simp
            go_wp2_with (go_at_call 14; (with_reducible refine (hch _).mono ?_); rintro e wA ⟨ya, yc, rfl, hca, hbx⟩; have HCH := Lib.hid hca; clear hca)
            try have HN := Lib.hid (And.intro (HN.out.1.below hbx HN.out.1.lt) HN.out.2)
            have hbW := hHeld.1.trans (hbx.mono hHeld.1.size)
            refine hK9.out _ _ (HSB.out _ hbW) (fun hHeld => ?_)
            clear hK9 K9 hbW hbx
            (try simp only [Act.put, List.getElem_toArray, List.getElem_cons_succ, List.getElem_cons_zero, List.setIfInBounds_toArray, List.set_cons_zero, List.set_cons_succ])
            refine wpAnyH_ready (rs := [10]) (by kernel_rfl) (by simp) ?_
            refine AllReadyH.cons rfl (fun K9 hK9 => ?_) AllReadyH.nil
            go_simp
            go_wp2_with (go_at_call 13; (with_reducible refine (told_in M x1 _ hM64 HCH.out).mono ?_); rintro e wB ⟨za, zc, rfl, hca, hbx⟩; have HTO := Lib.hid hca; clear hca)
            try have HN := Lib.hid (And.intro (HN.out.1.below hbx HN.out.1.lt) HN.out.2)
            have hbW := hHeld.1.trans (hbx.mono hHeld.1.size)
            refine hK9.out _ _ (HSB.out _ hbW) (fun hHeld => ?_)
            clear hK9 K9 hbW hbx
            (try simp only [Act.put, List.getElem_toArray, List.getElem_cons_succ, List.getElem_cons_zero, List.setIfInBounds_toArray, List.set_cons_zero, List.set_cons_succ])
            refine wpAnyH_ready (rs := [11]) (by kernel_rfl) (by simp) ?_
            refine AllReadyH.cons rfl (fun K9 hK9 => ?_) AllReadyH.nil
            go_simp
            go_wp2_with (go_at_call 12; (refine (sectors_in pl M x1 _ hM64 HR.out.aok HTO.out).mono ?_); rintro e wC ⟨pa, pc, rfl, hpa, hbx⟩)
            have HPG := Lib.hid (hpa.mono (show w3.heap.size ≤ _ from hHeld.1.size))
            clear hpa
            try have HN := Lib.hid (And.intro (HN.out.1.below hbx HN.out.1.lt) HN.out.2)
            have hbW := hHeld.1.trans (hbx.mono hHeld.1.size)
            refine hK9.out _ _ (HSB.out _ hbW) (fun hHeld => ?_)
            clear hK9 K9 hbW hbx
            (try simp only [Act.put, List.getElem_toArray, List.getElem_cons_succ, List.getElem_cons_zero, List.setIfInBounds_toArray, List.set_cons_zero, List.set_cons_succ])
            refine wpAnyH_take (i := 12) (v := ?_) rfl (by kernel_rfl) (by kernel_rfl) (by kernel_rfl) (fun _ _ _ h => h) (Or.inl ⟨by rfl, ?_⟩) (by with_reducible assumption) ?_
            rotate_left
            · intro w hSw; (try dsimp only at hSw); (try go_split_ands); go_simp; (try with_reducible rfl)
            (try simp only [Act.put, List.getElem_toArray, List.getElem_cons_succ, List.getElem_cons_zero, List.setIfInBounds_toArray, List.set_cons_zero, List.set_cons_succ])
            refine wpAnyH_take (i := 13) (v := ?_) rfl (by kernel_rfl) (by kernel_rfl) (by kernel_rfl) (fun _ _ _ h => h) (Or.inl ⟨by rfl, ?_⟩) (by with_reducible assumption) ?_
            rotate_left
            · intro w hSw; (try dsimp only at hSw); (try go_split_ands); go_simp; (try with_reducible rfl)
            (try simp only [Act.put, List.getElem_toArray, List.getElem_cons_succ, List.getElem_cons_zero, List.setIfInBounds_toArray, List.set_cons_zero, List.set_cons_succ])
            refine wpAnyH_take (i := 14) (v := ?_) rfl (by kernel_rfl) (by kernel_rfl) (by kernel_rfl) (fun _ _ _ h => h) (Or.inl ⟨by rfl, ?_⟩) (by with_reducible assumption) ?_
            rotate_left
            · intro w hSw; (try dsimp only at hSw); (try go_split_ands); go_simp; (try with_reducible rfl)
            (try simp only [Act.put, List.getElem_toArray, List.getElem_cons_succ, List.getElem_cons_zero, List.setIfInBounds_toArray, List.set_cons_zero, List.set_cons_succ])
            refine wpAnyH_take (i := 16) (v := ?_) rfl (by kernel_rfl) (by kernel_rfl) (by kernel_rfl) (fun _ _ _ h => h) (Or.inl ⟨by rfl, ?_⟩) (by with_reducible assumption) ?_
            rotate_left
            · intro w hSw; (try dsimp only at hSw); (try go_split_ands); go_simp; (try with_reducible rfl)
            (try simp only [Act.put, List.getElem_toArray, List.getElem_cons_succ, List.getElem_cons_zero, List.setIfInBounds_toArray, List.set_cons_zero, List.set_cons_succ])
            refine wpAnyH_ready (rs := [17]) (by kernel_rfl) (by simp) ?_
            refine AllReadyH.cons rfl (fun K9 hK9 => ?_) AllReadyH.nil
            rw [if_pos (by rfl)]
            simp only [List.getElem_toArray, List.getElem_cons_succ, List.getElem_cons_zero]
            have hlay := dg_laid HN.out.1 (by rfl) HDL.out
            refine wp_store_mid 23 (.tmp 16) (.tmp 70) (by rfl) sb 0 (nv .u8 (recSum la nu (chg M x1))) (by rfl) (by rfl) (by rw [nv_size, HDL.out]; exact hlay.2.2) (by rw [nv_size, HDL.out]; kernel_rfl) (nv_one _ _) ?_
            have hbL := hHeld.1.trans (hlay.2.1.below hHeld.1.size (fun k hk => by rw [hk]; exact HN.out.2))
            have hpL := HPG.out.but hlay.2.1 (fun k hk e => HPG.out.no_blk HN.out.1 (by decide) (by rw [hk, e]))
            refine hK9.out _ _ (HSB.out _ hbL) (fun hHeld => ?_)
            clear hK9 K9
            (try simp only [Act.put, List.getElem_toArray, List.getElem_cons_succ, List.getElem_cons_zero, List.setIfInBounds_toArray, List.set_cons_zero, List.set_cons_succ])
            refine wpAnyH_done (by kernel_rfl) ?_ _
            have HL := Lib.hid (And.intro hbL (And.intro hlay.1 (And.intro HN.out.2 hpL)))
            clear hlay hbL hHeld hpL
            go_wp2_with fail
            go_meet
            exact ⟨_, _, sb, rfl, rfl, HL.out⟩
        case rest =>
          obtain ⟨pa, pc, sb, rfl, rfl, HC0⟩ := hcut
          obtain ⟨wq, hwq⟩ : ∃ w : World, w = wc := ⟨_, rfl⟩
          subst hwq
          obtain ⟨pages, hpg⟩ : ∃ pages, pages = recPgs la nu (chg M x1) := ⟨_, rfl⟩
          have hpl : pages.length = takes M := by rw [hpg, recPgs_length, chg_length]
          have hpo := recPgs_ok (last := la) (num := nu) (chg_ok (show M < 256 by omega) x1)
          have hC := HC0.out
          rw [← hpg] at hC hpo ⊢
          clear HC0
          have hdb : ∀ c ∈ recSum la nu (chg M x1), c < 256 := digest_lt _
          have hdl := HDL.out
          generalize recSum la nu (chg M x1) = Dg at hC hdb hdl
          obtain ⟨pn, hpn⟩ : ∃ pn, pn = pages.length := ⟨_, rfl⟩
          rw [← hpn] at hC ⊢
          have hpn2 : pn ≤ 20 := by rw [hpn, hpl]; unfold takes; omega
          have hri := H3.out.2.ri.grow hC.1
          have hat := H3.out.2.at_.below hC.1 H3.out.2.at_.lt
          have hBq : B ≤ wq.heap.size := Nat.le_trans H3.out.2.e.hB hC.1.size
          have HC := Lib.hid (And.intro hC (And.intro hri (And.intro hat (And.intro hBq (And.intro hpo hpn)))))
          have HDG := Lib.hid (And.intro hdl hdb)
          clear hC hri hat hBq hpo hpn hdl hdb HDL hpg hpl
          go_upto_block 2 with fail
          go_cut [73] (fun _ wx => ∃ kk' d' pl', kk' ≤ kk + pn ∧ Hid (OnB 200 kk' d' ∧ RI (Grow (fun k => k = ab) w3 wq) B wx db kb d' d' ∧ IsBlk wx ab (mkL pl' nu la).toArray 38 ∧ But (fun k => ¬ Grow (fun k => k = ab) w3 wq k ∨ k = ab) wq wx ∧ Below B wq wx))
          case first =>
            go_wp2_with fail
            go_loopw [73] (fun i wr => ∃ jj : Nat, ∃ kk' d' pl', jj ≤ pn ∧ kk' ≤ kk + jj ∧ i = .int .i64 jj ∧ Hid (OnB 200 kk' d' ∧ RI (Grow (fun k => k = ab) w3 wq) B wr db kb d' d' ∧ IsBlk wr ab (mkL pl' nu la).toArray 38 ∧ But (fun k => ¬ Grow (fun k => k = ab) w3 wq k ∨ k = ab) wq wr ∧ Below B wq wr)) (fun i _ => pn - (intOf i).toNat)
            case atStart => exact ⟨0, kk, d, pl, by omega, by omega, rfl, H3.out.2.e.on, HC.out.2.1, HC.out.2.2.1, But.refl _ _, Below.refl _ _⟩
            case round =>
              obtain ⟨jj, kk', d', pl', hjj, hkk', rfl, HL⟩ := hrel
              by_cases hjp : jj < pn
              · obtain ⟨p, hp⟩ : ∃ p, pages[jj]? = some p := ⟨_, List.getElem?_eq_getElem (by rw [← HC.out.2.2.2.2.2]; exact hjp)⟩
                have hpo := HC.out.2.2.2.2.1 p (List.mem_of_getElem? hp)
                have habl := H3.out.2.at_.lt
                have hrow := HC.out.1.2.2.2.but HL.out.2.2.2.1 (fun k hk e => e.elim (fun x => x (.inr ⟨HC.out.1.2.2.2.base_le k hk, HC.out.1.2.2.2.lt k hk⟩)) (fun x => by have := HC.out.1.2.2.2.base_le k hk; omega))
                obtain ⟨g, c', e, hrg, _⟩ := hrow.range (by decide) hp
                injection e with e1 e2 e3
                clear e2
                subst e1 e3
                have HP := Lib.hid (And.intro hrg (And.intro hpo hp))
                clear hrow hrg hpo hp habl
                have jp1 : (jj : Int) < (pn : Int) := by omega
                go_upto_region 16 with (first
                  | (refine wpList_load_mid (by rfl) 48 (.tmp 75) (by rfl) g (jj * 64) (by rfl) (bv p) _ HP.out.1 Tryd.underlying48 rfl (by rw [bv_length, HP.out.2.1.1]; kernel_rfl) ?_)
                  | (refine wpList_alloc_info (by rfl) 48 (by rfl) (.agg (nv .u8 zeroPg)) (nv .u8 zeroPg) (by kernel_rfl) rfl ?_)
                  | (refine wpList_store_row (by rfl) 48 (.tmp 18) (.tmp 76) (by rfl) _ (nv .u8 p) (by rfl) (by rfl) 48 (nv .u8 zeroPg) (heap_alloc_new _ _) (info_pg _ HP.out.2.1.1) (by rw [nv_size, nv_size, HP.out.2.1.1]; rfl) (nv_one _ _) ?_))
                have hv1 := pg_var wr p
                generalize (wr.alloc (.cells (nv .u8 zeroPg) 48)).setRow wr.heap.size (nv .u8 p) = w6 at hv1 ⊢
                have hri6 := HL.out.2.1.grow hv1.2
                have hat6 := HL.out.2.2.1.below hv1.2 HL.out.2.2.1.lt
                have hst6 : OnB 200 kk' d' ∧ RI (Grow (fun k => k = ab) w3 wq) B w6 db kb d' d' ∧ IsBlk w6 ab (mkL pl' nu la).toArray 38 ∧ But (fun k => ¬ Grow (fun k => k = ab) w3 wq k ∨ k = ab) wq w6 ∧ Below B wq w6 := ⟨HL.out.1, HL.out.2.1.below hv1.2, hat6, HL.out.2.2.2.1.trans (But.of_below hv1.2 (Nat.le_refl _)), HL.out.2.2.2.2.trans (hv1.2.mono (Nat.le_trans HC.out.2.2.2.1 HL.out.2.2.2.2.size))⟩
                have hXp : Grow (Grow (fun k => k = ab) w3 wq) wr w6 wr.heap.size := .inr ⟨Nat.le_refl _, hv1.1.lt⟩
                have hXa : Grow (Grow (fun k => k = ab) w3 wq) wr w6 ab := .inl (.inl rfl)
                have H6 := Lib.hid (And.intro hst6 (And.intro hv1.1 (And.intro hri6 (And.intro hXp hXa))))
                have c0 := hat6.cell 0 (v := .int .i64 pl') rfl
                have HV := Lib.hid hv1.2
                clear hv1 hri6 hat6 hst6 hXp hXa
                obtain ⟨pv, hpv⟩ : ∃ pv, pv = wr.heap.size := ⟨_, rfl⟩
                rw [← hpv] at H6 ⊢
                clear hpv
                by_cases hneg : pl' < 0
                · go_wp2_with fail
                  go_meet
                  exact ⟨kk', d', pl', by omega, H6.out.1⟩
                · by_cases hbig : 200 ≤ pl'
                  · go_wp2_with fail
                    go_meet
                    exact ⟨kk', d', pl', by omega, H6.out.1⟩
                  · obtain ⟨i, rfl⟩ : ∃ i : Nat, pl' = (i : Int) := ⟨pl'.toNat, by omega⟩
                    have hi : i < 200 := by omega
                    have hB6 : B ≤ w6.heap.size := Nat.le_trans HC.out.2.2.2.1 H6.out.1.2.2.2.2.size
                    have hpe : d'.pend.length < 1000000 := by have := HL.out.1.pl; omega
                    have hw1 := H6.out.2.2.1.writeD (i : Int) p HP.out.2.1.1 hpe hB6
                    have HW := Lib.hid (And.intro hpe hB6)
                    clear hpe hB6
                    go_upto_region 18 with (first
                      | (refine wpList_load_row (by rfl) 48 (.tmp 18) (by rfl) pv (by rfl) 48 (nv .u8 p) (0, 0) _ H6.out.2.1 Tryd.underlying48 rfl (info_pg _ HP.out.2.1.1) ?_)
                      | (go_at_call 15; refine hw1.mono ?_; rintro e w8 ⟨v8, rfl, -, h8, hb8, hc8⟩; have H8 := Lib.hid (And.intro h8 (And.intro hb8 (And.intro (hc8.blk H6.out.2.1 (fun e => e H6.out.2.2.2.1)) (And.intro (hc8.blk H6.out.1.2.2.1 (fun e => e H6.out.2.2.2.2)) hc8)))); clear h8 hb8 hc8))
                    clear hw1 c0
                    have c0 := H8.out.2.2.2.1.cell 0 (v := .int .i64 (i : Int)) rfl
                    have hw2 := H8.out.1.writeM (i : Int) p HP.out.2.1.1 HW.out.1 (Nat.le_trans HW.out.2 H8.out.2.1.size)
                    go_upto_region 19 with (first
                      | (refine wpList_load_row (by rfl) 48 (.tmp 18) (by rfl) pv (by rfl) 48 (nv .u8 p) (0, 0) _ H8.out.2.2.1 Tryd.underlying48 rfl (info_pg _ HP.out.2.1.1) ?_)
                      | (go_at_call 16; refine hw2.mono ?_; rintro e w9 ⟨rfl, h9, hb9, hc9⟩; have H9 := Lib.hid (And.intro h9 (And.intro hb9 (And.intro (hc9.blk H8.out.2.2.2.1 (fun e => e H6.out.2.2.2.2)) hc9))); clear h9 hb9 hc9))
                    clear hw2 c0
                    have c0 := H9.out.2.2.1.cell 0 (v := .int .i64 (i : Int)) rfl
                    have f0 := H9.out.2.2.1.fz 0
                    obtain ⟨T, hT⟩ : ∃ T, T = ((i : Int) + 1).tmod 128 := ⟨_, rfl⟩
                    have hTr := hT.symm
                    clear hT
                    have hwi : IntKind.i64.wrap ((i : Int) + 1) = (i : Int) + 1 := IntWalk.i64_in _ ⟨by omega, by omega⟩
                    have hpk := mkb_place H9.out.2.2.1 T
                    have HK := Lib.hid hpk
                    clear hpk
                    go_wp2_with fail
                    go_round
                    case rel =>
                      refine ⟨jj + 1, kk' + 1, _, T, by omega, by omega, by go_num, onB_written HL.out.1 i hi p HP.out.2.1.1 HP.out.2.1.2, ?_, HK.out.1, ?_, ?_⟩
                      · exact (H9.out.1.but HK.out.2 (fun k hk => hk ▸ H6.out.2.2.2.2)).less (fun k hk => .inl hk)
                      · exact ((H6.out.1.2.2.2.1.trans (H8.out.2.2.2.2.mono (fun k hk => .inl (fun x => hk (.inl x))))).trans (H9.out.2.2.2.mono (fun k hk => .inl (fun x => hk (.inl x))))).trans (HK.out.2.mono (fun k hk => .inr hk))
                      · exact ((H6.out.1.2.2.2.2.trans H8.out.2.1).trans H9.out.2.1).trans (HK.out.2.below (Nat.le_trans HW.out.2 (Nat.le_trans H8.out.2.1.size H9.out.2.1.size)) (fun k hk => hk ▸ H3.out.2.hab))
                    case measure => simp [intOf]; omega
              · obtain rfl : jj = pn := by omega
                go_wp2_with fail
                go_meet
                exact ⟨kk', d', pl', hkk', HL.out⟩
          case rest =>
            obtain ⟨kk', d', pl', hkk', HD⟩ := hcut
            obtain ⟨wz, hwz⟩ : ∃ w : World, w = wc := ⟨_, rfl⟩
            subst hwz
            have habl := H3.out.2.at_.lt
            have hsz : IsBlk wz sb (nv .u8 Dg) 23 := HD.out.2.2.2.1.blk HC.out.1.2.1 (fun e => e.elim (fun x => x (.inr ⟨HC.out.1.2.2.1, HC.out.1.2.1.lt⟩)) (fun x => by have := HC.out.1.2.2.1; omega))
            have c1 := HD.out.2.2.1.cell 1 (v := .int .u64 ((nu : Nat) : Int)) rfl
            have f1 := HD.out.2.2.1.drew.fz 1
            have hsd := hsz.drew
            obtain ⟨nu', hnu⟩ : ∃ n, n = (nu + 1) % 18446744073709551616 := ⟨_, rfl⟩
            have hwu : IntKind.u64.wrap ((nu : Int) + 1) = (nu' : Int) := by rw [IntKind.wrap_u64]; omega
            have hnu2 : nu' < 18446744073709551616 := by omega
            clear hnu
            have hk1 := mkb_num HD.out.2.2.1.drew nu'
            have hk2 := mkb_last hk1.1 HR.out.aok.len HDG.out.1
            have hka := hk1.2.trans hk2.2.1
            have hne : sb ≠ ab := by have := HC.out.1.2.2.1; omega
            have hs5 := hk1.2.blk hsd hne
            have hs7 := hka.blk hsd hne
            have HK := Lib.hid (And.intro hk2.1 (And.intro hka (And.intro hk2.2.2 (And.intro hsd (And.intro hs5 hs7)))))
            clear habl hsz hk1 hk2 hka hne hs5 hs7
            go_upto_region 21 with fail
            refine wp_region_held_drew (S := fun w' => IsBlk w' sb (nv .u8 Dg) 23) (by kernel_rfl) hsd (fun hHeld => ?_)
            clear hsd
            refine wpAnyH_take (i := 3) (v := .agg (bv Dg).toArray) rfl (by kernel_rfl) (by kernel_rfl) (by kernel_rfl) (fun _ _ _ h => h) (yieldsIf_load_mid (by rfl) 23 (.tmp 16) (by rfl) sb 0 (by rfl) (bv Dg) _ (fun w hS => range_blk hS) Tryd.underlying23 rfl (by rw [bv_length, HDG.out.1]; kernel_rfl)) (by with_reducible assumption) ?_
            (try simp only [Act.put, List.getElem_toArray, List.getElem_cons_succ, List.getElem_cons_zero, List.setIfInBounds_toArray, List.set_cons_zero, List.set_cons_succ])
            refine wpAnyH_take (i := 0) (v := ?_) rfl (by kernel_rfl) (by kernel_rfl) (by kernel_rfl) (fun _ _ _ h => h) (Or.inl ⟨by rfl, ?_⟩) (by with_reducible assumption) ?_
            rotate_left
            · intro w hSw; (try dsimp only at hSw); (try go_split_ands); go_simp; (try with_reducible rfl)
            (try simp only [Act.put, List.getElem_toArray, List.getElem_cons_succ, List.getElem_cons_zero, List.setIfInBounds_toArray, List.set_cons_zero, List.set_cons_succ])
            refine wpAnyH_ready (rs := [1]) (by kernel_rfl) (by simp) ?_
            refine AllReadyH.cons rfl (fun K9 hK9 => ?_) AllReadyH.nil
            go_simp
            refine hK9.out _ _ HK.out.2.2.2.1 (fun hHeld => ?_)
            clear hK9 K9
            (try simp only [Act.put, List.getElem_toArray, List.getElem_cons_succ, List.getElem_cons_zero, List.setIfInBounds_toArray, List.set_cons_zero, List.set_cons_succ])
            refine wpAnyH_take (i := 2) (v := ?_) rfl (by kernel_rfl) (by kernel_rfl) (by kernel_rfl) (fun _ _ _ h => h) (Or.inl ⟨by rfl, ?_⟩) (by with_reducible assumption) ?_
            rotate_left
            · intro w hSw; (try dsimp only at hSw); (try go_split_ands); go_simp; (try with_reducible rfl)
            (try simp only [Act.put, List.getElem_toArray, List.getElem_cons_succ, List.getElem_cons_zero, List.setIfInBounds_toArray, List.set_cons_zero, List.set_cons_succ])
            refine wpAnyH_take (i := 4) (v := ?_) rfl (by kernel_rfl) (by kernel_rfl) (by kernel_rfl) (fun _ _ _ h => h) (Or.inl ⟨by rfl, ?_⟩) (by with_reducible assumption) ?_
            rotate_left
            · intro w hSw; (try dsimp only at hSw); (try go_split_ands); go_simp; (try with_reducible rfl)
            (try simp only [Act.put, List.getElem_toArray, List.getElem_cons_succ, List.getElem_cons_zero, List.setIfInBounds_toArray, List.set_cons_zero, List.set_cons_succ])
            refine wpAnyH_ready (rs := [5]) (by kernel_rfl) (by simp) ?_
            refine AllReadyH.cons rfl (fun K9 hK9 => ?_) AllReadyH.nil
            go_simp
            refine hK9.out _ _ HK.out.2.2.2.2.1 (fun hHeld => ?_)
            clear hK9 K9 c1 f1
            (try simp only [Act.put, List.getElem_toArray, List.getElem_cons_succ, List.getElem_cons_zero, List.setIfInBounds_toArray, List.set_cons_zero, List.set_cons_succ])
            refine wpAnyH_take (i := 6) (v := ?_) rfl (by kernel_rfl) (by kernel_rfl) (by kernel_rfl) (fun _ _ _ h => h) (Or.inl ⟨by rfl, ?_⟩) (by with_reducible assumption) ?_
            rotate_left
            · intro w hSw; (try dsimp only at hSw); (try go_split_ands); go_simp; (try with_reducible rfl)
            (try simp only [Act.put, List.getElem_toArray, List.getElem_cons_succ, List.getElem_cons_zero, List.setIfInBounds_toArray, List.set_cons_zero, List.set_cons_succ])
            refine wpAnyH_ready (rs := [7]) (by kernel_rfl) (by simp) ?_
            refine AllReadyH.cons rfl (fun K9 hK9 => ?_) AllReadyH.nil
            rw [if_pos (by rfl)]
            simp only [List.getElem_toArray, List.getElem_cons_succ, List.getElem_cons_zero]
            refine wp_store_mid 23 (.tmp 106) (.tmp 104) (by rfl) ab 2 (bv Dg).toArray (by rfl) (by rfl) (by rw [List.size_toArray, bv_length, HDG.out.1]; exact HK.out.2.2.1) (by rw [List.size_toArray, bv_length, HDG.out.1]; kernel_rfl) (all_oneCell_toArray (bv_one _)) ?_
            refine hK9.out _ _ HK.out.2.2.2.2.2 (fun hHeld => ?_)
            clear hK9 K9
            (try simp only [Act.put, List.getElem_toArray, List.getElem_cons_succ, List.getElem_cons_zero, List.setIfInBounds_toArray, List.set_cons_zero, List.set_cons_succ])
            refine wpAnyH_done (by kernel_rfl) ?_ _
            clear hHeld
            have hfb : Below B wz ((wz.drew.setCell ⟨ab, 1, none⟩ (.int .u64 ((nu' : Nat) : Int))).setCells ab 2 (bv Dg)) := ((Below.refl B wz).drew).trans (HK.out.2.1.below (Nat.le_trans HC.out.2.2.2.1 HD.out.2.2.2.2.size) (fun k hk => hk ▸ H3.out.2.hab))
            have hri : RI (fun k => k = ab) B ((wz.drew.setCell ⟨ab, 1, none⟩ (.int .u64 ((nu' : Nat) : Int))).setCells ab 2 (bv Dg)) db kb d' d' := ((HD.out.2.1.below ((Below.refl wz.heap.size wz).drew)).less (X' := fun k => k = ab) (fun k hk => .inl hk)).but HK.out.2.1 (fun k hk => hk)
            have hkb := HK.out.1
            change Exit.inBlock _ _ _ _ ((wz.drew.setCell ⟨ab, 1, none⟩ (.int .u64 ((nu' : Nat) : Int))).setCells ab 2 (bv Dg))
            generalize (wz.drew.setCell ⟨ab, 1, none⟩ (.int .u64 ((nu' : Nat) : Int))).setCells ab 2 (bv Dg) = wf at hfb hri hkb ⊢
            have HF := Lib.hid (show AtI W wf B db kb mb ab d' kk' place num last pl' nu' Dg from ⟨H3.out.2.e.turn hri.noX HD.out.1 (by omega) (((HC.out.1.1.mono H3.out.2.e.hB).trans HD.out.2.2.2.2).trans hfb), hri, hkb, ⟨HDG.out.1, HDG.out.2, hnu2⟩, H3.out.2.hab⟩)
            clear hfb hri hkb
            go_wp2_with fail
            go_round
            case rel => exact ⟨j + 1, kk', d', pl', nu', Dg, by omega, by omega, by go_num, HF.out⟩
            case measure => simp [intOf]; omega
      · obtain rfl : j = an := by omega
        go_wp2_with fail
        go_meet
        exact ⟨kk, d, by omega, HR.out.e⟩
  case rest =>
    obtain ⟨kk, d, hk, HD⟩ := hcut
    rename_i K1 hK1
    refine hK1 _ _ ?_
    exact opens_bend HD (by omega) HB hbn
end Go.Proofs.YtkabkehfckbhcaaDoor
