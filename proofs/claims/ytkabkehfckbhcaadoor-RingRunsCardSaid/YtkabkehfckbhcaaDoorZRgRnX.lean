/-
  ring: RingRuns: records laid by both rings.
-/
import Derived.Test.YtkabkehfckbhcaaDoorZRgRnZ
import Derived.Test.YtkabkehfckbhcaaDoorZHeldT2
namespace Go.Proofs.YtkabkehfckbhcaaDoor
set_option linter.unusedVariables false
set_option linter.unusedSimpArgs false
open Go.RowKit

theorem yieldsIf_neq_self {P : Program} {ops : Array Oper} {S : World → Prop} {op : Oper} {a : Act} (hw : Region.wanted op (yielded ops a.tmps) = true) (t : TypeId) (x y : Operand) (ho : op.op = .binOp .neq t x y t) (cs : Array Value) (hm : P.eqGuardType P.depth t = false) (hx : a.eval x = .agg cs) (hy : a.eval y = .agg cs) (hs : ∀ w, (Op.equalIn 10000 t (.agg cs) (.agg cs)).run P w = .ok true w) : YieldsIf P ops S op (.bool false) a :=
  .inl ⟨hw, fun w _ => by
    unfold execOp
    simp only [ho, hx, hy, Sem.run_bind, run_eqGuard_agg w _ _ _ _ _ _ hm, Result.andThen_ok, run_neq_struct, hs, Bool.not_true, Sem.run_pure]⟩
theorem tupR_info (x y : Int) : (Tryd.prog.info? 40).map (·.size) = some (tupF [x, y]).toArray.size := by kernel_rfl
def dg7 (a : Nat) : List Nat := a :: 7 :: List.replicate 30 0
theorem dg7_length (a : Nat) : (dg7 a).length = 32 := by simp [dg7]
theorem dg7_byte {a : Nat} (h : a < 256) : ∀ c ∈ dg7 a, c < 256 := by
  intro c hc
  simp only [dg7, List.mem_cons, List.mem_replicate] at hc
  rcases hc with rfl | rfl | ⟨_, rfl⟩
  · exact h
  · decide
  · decide
theorem built_dg7 (a : Nat) : Tryd.prog.built 23 [(0, .int .u8 (a : Int)), (1, .int .u8 7)] = some (nv .u8 (dg7 a)) := by kernel_rfl
/-- A number brought into a range. -/
theorem brought2 (x : Int) (M : Nat) (hM : 0 < M) : ∃ Q : Nat, Q < M ∧ (x.tmod M + M).tmod M = (Q : Int) ∧ -(M : Int) < x.tmod M ∧ x.tmod M < (M : Int) := by
  have h1 := Int.tmod_lt_of_pos x (show (0 : Int) < (M : Int) by omega)
  have h2 := Int.lt_tmod_of_pos x (show (0 : Int) < (M : Int) by omega)
  have h3 := Int.tmod_nonneg (M : Int) (show 0 ≤ x.tmod M + M by omega)
  have h4 := Int.tmod_lt_of_pos (x.tmod M + M) (show (0 : Int) < (M : Int) by omega)
  exact ⟨((x.tmod M + M).tmod M).toNat, by omega, by omega, h2, h1⟩
theorem changes_at (w : World) (M : Nat) (x : Int) (hM : M ≤ 64) : Calls Tryd.prog 14 #[.int .i64 (M : Int), .int .i64 x] w fun e w' => ∃ ya yc, e = .returned (.slice ya M yc) ∧ IsChs w' ya (chg M x) ∧ (∀ b, ya.map (·.block) = some b → w.heap.size ≤ b ∧ b < w'.heap.size) ∧ Below w.heap.size w w' :=
  (changes_any w M x hM).mono fun e w' ⟨v, h1, h2, h3⟩ => by
    obtain ⟨ya, yc, e4⟩ := h2.slice
    rw [chg_length] at e4
    subst e4
    refine ⟨ya, yc, h1, IsChs.of_row h2 (chg_ok (by omega) x), fun b hb => ?_, h3⟩
    cases ya with
    | none => simp at hb
    | some ad => exact ⟨h2.base_le b hb, h2.lt b hb⟩
theorem told_at {w : World} {ya : Option Addr} (M : Nat) (x : Int) (yc : Nat) (hM : M ≤ 64) (h : IsChs w ya (chg M x)) : Calls Tryd.prog 13 #[.slice ya M yc] w fun e w' => ∃ za zc, e = .returned (.slice za M zc) ∧ IsChs w' za (chg M x) ∧ Below w.heap.size w w' :=
  (told_any w ya yc M (chg M x) h (chg_length M x).symm (by rw [chg_length]; omega)).mono fun e w' ⟨v, h1, h2, h3⟩ => by
    obtain ⟨za, zc, e4⟩ := h2.slice
    rw [chg_length] at e4
    subst e4
    exact ⟨za, zc, h1, IsChs.of_row h2 (chg_ok (by omega) x), h3⟩
/-- Both rings, on both disks. -/
structure RunI (W w : World) (B db kb mb rb rr : Nat) (d : DK) (kk : Nat) (place : Int) (num : Nat) (last : List Nat) (s : RS) : Prop where
  e : EndI W w B db kb mb d 300 kk place num last
  ri : RI (fun k => k = rb ∨ k = rr) B w db kb d d
  rg : IsRg 100 w rb db s
  rr_ : IsRg 68 w rr kb s
  ok : RSok s 300
  hrb : B ≤ rb
  hrr : B ≤ rr
section
variable {W w w' : World} {B db kb mb rb rr : Nat} {d : DK} {kk : Nat} {place : Int} {num : Nat} {last : List Nat} {s : RS}
theorem RunI.below (h : RunI W w B db kb mb rb rr d kk place num last s) (hb : Below w.heap.size w w') : RunI W w' B db kb mb rb rr d kk place num last s :=
  ⟨h.e.below hb, h.ri.below hb, h.rg.below hb, h.rr_.below hb, h.ok, h.hrb, h.hrr⟩
theorem RunI.ne (h : RunI W w B db kb mb rb rr d kk place num last s) : rb ≠ rr := fun e => by
  have h1 : w.heap[rb]? = some (.cells (ringL db s).toArray 100) := h.rg
  have h2 : w.heap[rb]? = some (.cells (ringL kb s).toArray 68) := e ▸ h.rr_
  rw [h1] at h2
  injection h2 with h2
  injection h2 with _ h3 _
  exact absurd h3 (by decide)
end
/-- What stands where the law compares: the changes are there, too. -/
structure CondI (W w0 w : World) (B db kb mb rb rr : Nat) (d : DK) (kk : Nat) (place : Int) (num : Nat) (last : List Nat) (s : RS) (M : Nat) (x : Int) (ya : Option Addr) : Prop where
  run : RunI W w B db kb mb rb rr d kk place num last s
  ri : RI (Grow (fun k => k = rb ∨ k = rr) w0 w) B w db kb d d
  chs : IsChs w ya (chg M x)
  yb : ∀ b, ya.map (·.block) = some b → w0.heap.size ≤ b ∧ b < w.heap.size
  rlt : rb < w0.heap.size ∧ rr < w0.heap.size
/-- Slots from k on, set as X has them. -/
def setFn (t : Array Value) (X : Nat → Value) (k : Nat) : Nat → Array Value
  | 0 => t
  | m + 1 => (setFn t X k m).setIfInBounds (k + m) (X (k + m))
/-- A held region's middle, proved once for all ways there. -/
theorem via_key {P : Program} {ops : Array Oper} {Q : Exit → Act → World → Prop} {S : World → Prop} {n f : Nat} {l : Array Bool} {a : Act} {w : World} (fr : (Nat → Value) → Act → Act) (R : World → Prop) (f' : Nat) (l' : Array Bool)
    (key : ∀ X w', R w' → wpAny P .any ops Q f' l' (fr X a) w') (step : (∀ X w', R w' → wpAny P .any ops Q f' l' (fr X a) w') → wpTill P .any ops Q S n f l a w) : wpTill P .any ops Q S n f l a w := step key
def fr18 (X : Nat → Value) (a : Act) : Act := ⟨((setFn a.tmps X 101 27).setIfInBounds 128 (.bool false)).setIfInBounds 129 (.bool false), a.defers⟩
theorem wpAny_18 {P : Program} {ops : Array Oper} {Q : Exit → Act → World → Prop} {f : Nat} {l l' : Array Bool} {a0 a : Act} {w : World} {R : World → Prop} (hkey : ∀ X w', R w' → wpAny P .any ops Q f l' (fr18 X a0) w') (hR : R w) (el : l = l') (ea : a = fr18 (fun i => a.tmps.getD i undef) a0) : wpAny P .any ops Q f l a w := by
  subst el
  have h := hkey (fun i => a.tmps.getD i undef) w hR
  rw [← ea] at h
  exact h
def upTo29 : Array Bool := ((List.range 63).map fun i => decide (i < 29)).toArray
set_option maxRecDepth 100000 in
set_option maxHeartbeats 8000000 in
theorem runs_adds {W w : World} {B db kb mb rb rr : Nat} {d0 : DK} {kk0 an ac : Nat} {aa : Option Addr} {l2 : List (List Int)} {s0 : RS} {n cut place : Int} {num : Nat} {last : List Nat} (H : Hid (RunI W w B db kb mb rb rr d0 kk0 place num last s0)) (hkk : kk0 = 0) (HA : Hid (IsTup 2 W aa l2 ∧ an = l2.length)) (han : an ≤ 40) {u0 u2 u4 u5 u6 u10 u12 u14 u15 u17 u18 u19 u20 u21 u22 u23 u24 u25 u26 u27 u28 u29 u30 u31 u32 u33 u34 u35 u36 u37 u38 u39 u40 u41 u42 u43 u44 u45 u46 u47 u48 u49 u50 u51 u52 u53 u54 u55 u56 u57 u58 u59 u60 u61 u62 u63 u64 u65 u66 u67 u68 u69 u70 u71 u72 u73 u74 u75 u76 u77 u78 u79 u80 u81 u82 u83 u84 u85 u86 u87 u88 u89 u90 u91 u92 u93 u94 u95 u96 u97 u98 u99 u100 u101 u102 u103 u104 u105 u106 u107 u108 u109 u110 u111 u112 u113 u114 u115 u116 u117 u118 u119 u120 u121 u122 u123 u124 u125 u126 u127 u128 u129 u130 u131 u132 u133 u134 u135 u136 u137 u138 u139 u140 u141 u142 u143 u144 u145 u146 u147 u148 u149 u150 u151 u152 u153 u154 u155 u156 u157 u158 u159 u160 u161 u162 u163 u164 u165 u166 u167 u168 u169 u170 u171 u172 u173 u174 u175 u176 u177 u178 u179 u180 u181 u182 u183 u184 u185 u186 u187 u188 u189 u190 u191 u192 u193 u194 u195 u196 u197 u198 u199 u200 u201 u202 u203 u204 u205 u206 u207 u208 u209 u210 u211 u212 u213 u214 u215 u216 u217 u218 u219 u220 u221 u222 u223 u224 u225 u226 u227 : Value} :
    Code.wp Tryd.prog (restOf Tryd.f4 14) (bodyPost Tryd.prog Tryd.f4 (lawPost W)) ⟨(u0 :: .slice aa an ac :: u2 :: .pointer (some ⟨mb, 0, none⟩) :: u4 :: u5 :: u6 :: .int .i64 n :: .int .i64 cut :: .pointer (some ⟨db, 0, none⟩) :: u10 :: .pointer (some ⟨kb, 0, none⟩) :: u12 :: .pointer (some ⟨rb, 0, none⟩) :: u14 :: u15 :: .pointer (some ⟨rr, 0, none⟩) :: u17 :: u18 :: u19 :: u20 :: u21 :: u22 :: u23 :: u24 :: u25 :: u26 :: u27 :: u28 :: u29 :: u30 :: u31 :: u32 :: u33 :: u34 :: u35 :: u36 :: u37 :: u38 :: u39 :: u40 :: u41 :: u42 :: u43 :: u44 :: u45 :: u46 :: u47 :: u48 :: u49 :: u50 :: u51 :: u52 :: u53 :: u54 :: u55 :: u56 :: u57 :: u58 :: u59 :: u60 :: u61 :: u62 :: u63 :: u64 :: u65 :: u66 :: u67 :: u68 :: u69 :: u70 :: u71 :: u72 :: u73 :: u74 :: u75 :: u76 :: u77 :: u78 :: u79 :: u80 :: u81 :: u82 :: u83 :: u84 :: u85 :: u86 :: u87 :: u88 :: u89 :: u90 :: u91 :: u92 :: u93 :: u94 :: u95 :: u96 :: u97 :: u98 :: u99 :: u100 :: u101 :: u102 :: u103 :: u104 :: u105 :: u106 :: u107 :: u108 :: u109 :: u110 :: u111 :: u112 :: u113 :: u114 :: u115 :: u116 :: u117 :: u118 :: u119 :: u120 :: u121 :: u122 :: u123 :: u124 :: u125 :: u126 :: u127 :: u128 :: u129 :: u130 :: u131 :: u132 :: u133 :: u134 :: u135 :: u136 :: u137 :: u138 :: u139 :: u140 :: u141 :: u142 :: u143 :: u144 :: u145 :: u146 :: u147 :: u148 :: u149 :: u150 :: u151 :: u152 :: u153 :: u154 :: u155 :: u156 :: u157 :: u158 :: u159 :: u160 :: u161 :: u162 :: u163 :: u164 :: u165 :: u166 :: u167 :: u168 :: u169 :: u170 :: u171 :: u172 :: u173 :: u174 :: u175 :: u176 :: u177 :: u178 :: u179 :: u180 :: u181 :: u182 :: u183 :: u184 :: u185 :: u186 :: u187 :: u188 :: u189 :: u190 :: u191 :: u192 :: u193 :: u194 :: u195 :: u196 :: u197 :: u198 :: u199 :: u200 :: u201 :: u202 :: u203 :: u204 :: u205 :: u206 :: u207 :: u208 :: u209 :: u210 :: u211 :: u212 :: u213 :: u214 :: u215 :: u216 :: u217 :: u218 :: u219 :: u220 :: u221 :: u222 :: u223 :: u224 :: u225 :: u226 :: u227 :: []).toArray, []⟩ w := by
  conv => arg 2; whnf
  go_upto_block 0 with fail
  go_cut [88] (fun _ wx => ∃ kk d, Hid (EndI W wx B db kb mb d 300 kk place num last))
  case first =>
    go_wp2_with fail
    go_loopw [88] (fun i wr => ∃ j : Nat, ∃ kk d s, j ≤ an ∧ kk ≤ 70 * j ∧ i = .int .i64 j ∧ Hid (RunI W wr B db kb mb rb rr d kk place num last s)) (fun i _ => an - (intOf i).toNat)
    case atStart => exact ⟨0, kk0, d0, s0, by omega, by omega, rfl, H.out⟩
    case round =>
      obtain ⟨j, kk, d, s, hj, hkj, rfl, HR⟩ := hrel
      by_cases hjl : j < an
      · obtain ⟨z, hz⟩ : ∃ z, l2[j]? = some z := ⟨_, List.getElem?_eq_getElem (by rw [← HA.out.2]; exact hjl)⟩
        obtain ⟨hzl, hzb⟩ := HA.out.1.ok z (List.mem_of_getElem? hz)
        obtain ⟨b, off, rfl, hbl, hrg⟩ := (HA.out.1.below HR.out.e.bel).at_.resolve_left (by rintro rfl; simp at hz)
        obtain ⟨x0, x1, rfl⟩ : ∃ x0 x1, z = [x0, x1] := by
          match z, hzl with
          | [x0, x1], _ => exact ⟨x0, x1, rfl⟩
        have hx0 := hzb x0 (by simp)
        have hx1 := hzb x1 (by simp)
        have HZ := Lib.hid (hrg j _ hz)
        clear hzl hzb hz hrg hbl
        have j1 : (j : Int) < (an : Int) := by omega
        go_upto_region 17 with (first
          | (refine wpList_load_mid (by rfl) 40 (.tmp 91) (by rfl) b (off + j * 2) (by rfl) (tupF [x0, x1]) _ HZ.out Tryd.underlying40 rfl (by kernel_rfl) ?_)
          | (refine wpList_alloc_info (by rfl) 40 (by rfl) (.agg (tupF [0, 0]).toArray) (tupF [0, 0]).toArray (by kernel_rfl) rfl ?_)
          | (refine wpList_store_row (by rfl) 40 (.tmp 20) (.tmp 92) (by rfl) _ (tupF [x0, x1]).toArray (by rfl) (by rfl) 40 (tupF [0, 0]).toArray (heap_alloc_new _ _) (tupR_info x0 x1) rfl (all_oneCell_toArray (tupF_one _)) ?_))
        have hv := mk_var wr (tupF [0, 0]).toArray (tupF [x0, x1]).toArray 40
        generalize (wr.alloc (.cells (tupF [0, 0]).toArray 40)).setRow wr.heap.size (tupF [x0, x1]).toArray = w3 at hv ⊢
        obtain ⟨M, hM64', hQr, hR1, hR2⟩ := brought2 x0 64 (by decide)
        rw [show ((64 : Nat) : Int) = 64 from rfl] at hQr hR1 hR2
        obtain ⟨Q0, hQ0⟩ : ∃ Q0, Q0 = x0.tmod 64 := ⟨_, rfl⟩
        rw [← hQ0] at hQr hR1 hR2
        have hQ0' := hQ0.symm
        have hM64 : M ≤ 64 := by omega
        clear hQ0
        have c0 := hv.1.cell 0 (v := .int .i64 x0) rfl
        have c1 := hv.1.cell 1 (v := .int .i64 x1) rfl
        have h3 := HR.out.below hv.2
        have H3 := Lib.hid h3
        clear hv h3
        generalize wr.heap.size = tb at c0 c1 ⊢
        have hch := changes_at w3 M x1 hM64
        go_upto_region 18 with (go_at_call 14; (with_reducible refine hch.mono ?_); rintro e w4 ⟨ya, yc, rfl, hca, hyb, hb4⟩)
        have HC : Hid (CondI W w3 w4 B db kb mb rb rr d kk place num last s M x1 ya) := Lib.hid ⟨H3.out.below hb4, H3.out.ri.grow hb4, hca, hyb, IsBlk.lt H3.out.rg, IsBlk.lt H3.out.rr_⟩
        clear hch hca hyb hb4 c0 c1 H3
        have hd4 : Below w4.heap.size w4 w4.drew := (Below.refl _ _).drew
        have c2 := (HC.out.run.rr_.below hd4).c2
        have c37 := (HC.out.run.rr_.below hd4).c37 HC.out.run.ok.len
        obtain ⟨E, hE⟩ : ∃ E, E = s.addE M := ⟨_, rfl⟩
        have HE := Lib.hid hE
        clear hE hd4
        go_cut [163] (fun b wx => ∃ s1 d1, b = .bool false ∧ Hid (RunI W wx B db kb mb rb rr d1 (kk + 70) place num last s1))
        case first =>
          have hkk2 : kk + 70 ≤ 100000 := by omega
          refine wp_region_till 29 (S := fun w' => w'.cell? ⟨rr, 2, none⟩ = some (.int .i64 ((s.n : Nat) : Int)) ∧ w'.cell? ⟨rr, 37, none⟩ = some (.int .i64 ((s.used : Nat) : Int)) ∧ Below w4.heap.size w4 w') (by kernel_rfl) ⟨c2, c37, (Below.refl _ _).drew⟩ (fun hHeld => ?_)
          clear c2 c37
          refine via_key fr18 (fun w' => Below w4.heap.size w4 w') 34 upTo29 ?_ ?_
          · intro X w5 hb45
            clear hHeld
            simp only [fr18, setFn, List.setIfInBounds_toArray, List.set_cons_zero, List.set_cons_succ, Nat.reduceAdd]
            -- {
            have h5 := HC.out.run.below hb45
            have hri5 := HC.out.ri.below hb45
            have hch5 := HC.out.chs.below hb45
            have hadd := hri5.addAny (cc := yc) h5.rg (.inl (.inl rfl)) h5.ok h5.e.on h5.e.kk hch5 (chg_length M x1).symm (by omega) h5.e.hB h5.hrb
            have H5 := Lib.hid (And.intro h5 (And.intro hri5 (And.intro hch5 hb45)))
            have hEx : s.addE M = E := HE.out.symm
            rw [hEx] at hadd
            clear h5 hri5 hch5 hb45
            refine wpAny_take (i := 29) (v := ?_) rfl (by kernel_rfl) (by kernel_rfl) (by kernel_rfl) (fun _ _ _ h => h) (Or.inl ⟨by rfl, ?_⟩) ?_
            rotate_left
            · intro w; go_simp; (try with_reducible rfl)
            (try simp only [Act.put, List.getElem_toArray, List.getElem_cons_succ, List.getElem_cons_zero, List.setIfInBounds_toArray, List.set_cons_zero, List.set_cons_succ])
            refine wpAny_take (i := 30) (v := ?_) rfl (by kernel_rfl) (by kernel_rfl) (by kernel_rfl) (fun _ _ _ h => h) (Or.inl ⟨by rfl, ?_⟩) ?_
            rotate_left
            · intro w; go_simp; (try with_reducible rfl)
            (try simp only [Act.put, List.getElem_toArray, List.getElem_cons_succ, List.getElem_cons_zero, List.setIfInBounds_toArray, List.set_cons_zero, List.set_cons_succ])
            refine wpAny_take (i := 33) (v := ?_) rfl (by kernel_rfl) (by kernel_rfl) (by kernel_rfl) (fun _ _ _ h => h) (Or.inl ⟨by rfl, ?_⟩) ?_
            rotate_left
            · intro w; go_simp; (try with_reducible rfl)
            (try simp only [Act.put, List.getElem_toArray, List.getElem_cons_succ, List.getElem_cons_zero, List.setIfInBounds_toArray, List.set_cons_zero, List.set_cons_succ])
            refine wpAny_take (i := 34) (v := ?_) rfl (by kernel_rfl) (by kernel_rfl) (by kernel_rfl) (fun _ _ _ h => h) (Or.inl ⟨by rfl, ?_⟩) ?_
            rotate_left
            · intro w; go_simp; (try with_reducible rfl)
            (try simp only [Act.put, List.getElem_toArray, List.getElem_cons_succ, List.getElem_cons_zero, List.setIfInBounds_toArray, List.set_cons_zero, List.set_cons_succ])
            refine wpAny_ready (rs := [31]) (by kernel_rfl) (by simp) ?_
            refine AllReady.cons rfl (fun K9 hK9 => ?_) AllReady.nil
            go_simp
            go_at_call 24
            refine hadd.mono ?_
            rintro e w6 ⟨v6, rfl, hn6, hr6, hri6, hbt6, hbl6⟩
            have H6 := Lib.hid (And.intro hn6 (And.intro hr6 (And.intro hri6 (And.intro hbt6 hbl6))))
            clear hn6 hr6 hri6 hbt6 hbl6
            clear hadd
            refine hK9 _ _ ?_
            clear hK9 K9
            (try simp only [Act.put, List.getElem_toArray, List.getElem_cons_succ, List.getElem_cons_zero, List.setIfInBounds_toArray, List.set_cons_zero, List.set_cons_succ])
            have het6 : HasET w6 := H5.out.1.e.hg.below (H5.out.1.e.bel.trans (H6.out.2.2.2.2.mono H5.out.1.e.hWB))
            have hnum := num_is v6 E w6 het6 H6.out.1
            clear het6
            refine wpAny_ready (rs := [32]) (by kernel_rfl) (by simp) ?_
            refine AllReady.cons rfl (fun K9 hK9 => ?_) AllReady.nil
            go_simp
            go_at_call 20
            (with_reducible refine hnum.mono ?_)
            rintro e w7 ⟨rfl, hb7⟩
            have H7 := Lib.hid hb7
            clear hb7
            clear hnum
            refine hK9 _ _ ?_
            clear hK9 K9
            (try simp only [Act.put, List.getElem_toArray, List.getElem_cons_succ, List.getElem_cons_zero, List.setIfInBounds_toArray, List.set_cons_zero, List.set_cons_succ])
            have hrlt := HC.out.rlt
            have hch7 := (H5.out.2.2.1.but H6.out.2.2.2.1 (fun b hb e => by
              have := HC.out.yb b hb
              exact e.elim (fun y => y (.inr ⟨this.1, by omega⟩)) (fun y => by omega))).below H7.out
            have htold := told_at M x1 yc hM64 hch7
            clear hch7 hrlt
            refine wpAny_ready (rs := [35]) (by kernel_rfl) (by simp) ?_
            refine AllReady.cons rfl (fun K9 hK9 => ?_) AllReady.nil
            go_simp
            go_at_call 13
            (with_reducible refine htold.mono ?_)
            rintro e w8 ⟨za, zc, rfl, hch8, hb8⟩
            have H8 := Lib.hid (And.intro hch8 (H7.out.trans (hb8.mono H7.out.size)))
            clear hch8 hb8
            clear htold
            refine hK9 _ _ ?_
            clear hK9 K9
            (try simp only [Act.put, List.getElem_toArray, List.getElem_cons_succ, List.getElem_cons_zero, List.setIfInBounds_toArray, List.set_cons_zero, List.set_cons_succ])
            have hne := HC.out.run.ne
            have hrr8 := (IsRg.but H5.out.1.rr_ H6.out.2.2.2.1 (fun e => e.elim (fun y => y (.inl (.inr rfl))) (fun y => hne y.symm))).below H8.out.2
            have hri8 := H6.out.2.2.1.below H8.out.2
            have hB8 : B ≤ w8.heap.size := Nat.le_trans H5.out.1.e.hB (Nat.le_trans H6.out.2.2.2.2.size H8.out.2.size)
            have hadr := hri8.addRef (cc := zc) hrr8 (.inl (.inr rfl)) H5.out.1.ok H5.out.1.e.on H5.out.1.e.kk H8.out.1 (chg_length M x1).symm (by omega) hB8 H5.out.1.hrr
            rw [hEx] at hadr
            clear hne hrr8 hri8 hB8
            refine wpAny_ready (rs := [36]) (by kernel_rfl) (by simp) ?_
            refine AllReady.cons rfl (fun K9 hK9 => ?_) AllReady.nil
            go_simp
            go_at_call 25
            refine hadr.mono ?_
            rintro e w9 ⟨rfl, hr9, hri9, hbt9, hbl9⟩
            have H9 := Lib.hid (And.intro hr9 (And.intro hri9 (And.intro hbt9 hbl9)))
            clear hr9 hri9 hbt9 hbl9
            clear hadr
            refine hK9 _ _ ?_
            clear hK9 K9 hEx
            (try simp only [Act.put, List.getElem_toArray, List.getElem_cons_succ, List.getElem_cons_zero, List.setIfInBounds_toArray, List.set_cons_zero, List.set_cons_succ])
            refine wpAny_take (i := 37) (v := ?_) rfl (by kernel_rfl) (by kernel_rfl) (by kernel_rfl) (fun _ _ _ h => h) (Or.inl ⟨by rfl, ?_⟩) ?_
            rotate_left
            · intro w; go_simp; (try with_reducible rfl)
            (try simp only [Act.put, List.getElem_toArray, List.getElem_cons_succ, List.getElem_cons_zero, List.setIfInBounds_toArray, List.set_cons_zero, List.set_cons_succ])
            refine wpAny_take (i := 38) (v := ?_) rfl (by kernel_rfl) (by kernel_rfl) (by kernel_rfl) (fun _ _ _ h => h) (Or.inl ⟨by rfl, ?_⟩) ?_
            rotate_left
            · intro w; go_simp; (try with_reducible rfl)
            (try simp only [Act.put, List.getElem_toArray, List.getElem_cons_succ, List.getElem_cons_zero, List.setIfInBounds_toArray, List.set_cons_zero, List.set_cons_succ])
            refine wpAny_take (i := 39) (v := ?_) rfl (by kernel_rfl) (by kernel_rfl) (by kernel_rfl) (fun _ _ _ h => h) (Or.inl ⟨by rfl, ?_⟩) ?_
            rotate_left
            · intro w; go_simp; (try with_reducible rfl)
            (try simp only [Act.put, List.getElem_toArray, List.getElem_cons_succ, List.getElem_cons_zero, List.setIfInBounds_toArray, List.set_cons_zero, List.set_cons_succ])
            have hfine := add_fine (l := chg M x1) H5.out.1.ok H5.out.1.e.on H8.out.1.ok (by rw [chg_length]; omega)
            have hne := HC.out.run.ne
            have hrg9 : IsRg 100 w9 rb db (s.add (chg M x1) d).1 := IsRg.but (H6.out.2.1.below H8.out.2) H9.out.2.2.1 (fun e => e.elim (fun y => y (.inl (.inl rfl))) (fun y => hne y))
            have hbl9 : Below B w4 w9 := ((H5.out.2.2.2.mono HC.out.run.e.hB).trans (H6.out.2.2.2.2.trans (H8.out.2.mono (Nat.le_trans H5.out.1.e.hB H6.out.2.2.2.2.size)))).trans H9.out.2.2.2
            have hrun9 : RunI W w9 B db kb mb rb rr (s.add (chg M x1) d).2 (kk + 70) place num last (s.add (chg M x1) d).1 := ⟨HC.out.run.e.turn (H9.out.2.1.less (fun k hk => hk.elim)) hfine.2 (by omega) hbl9, H9.out.2.1.less (fun k hk => .inl hk), hrg9, H9.out.1, hfine.1, HC.out.run.hrb, HC.out.run.hrr⟩
            generalize (s.add (chg M x1) d).1 = s1 at hrun9
            generalize (s.add (chg M x1) d).2 = d1 at hrun9
            have HF := Lib.hid hrun9
            have hS9 : (fun w' => Below w9.heap.size w9 w' ∧ w'.cell? ⟨rr, 2, none⟩ = some (.int .i64 ((s1.n : Nat) : Int)) ∧ w'.cell? ⟨rr, 37, none⟩ = some (.int .i64 ((s1.used : Nat) : Int)) ∧ w'.rangeAt rr 3 (markL s1)) w9 := ⟨Below.refl _ _, HF.out.rr_.c2, HF.out.rr_.c37 HF.out.ok.len, HF.out.rr_.mark⟩
            have hsb : ∀ w', Below w9.heap.size w9 w' → Below w9.heap.size w9 w' ∧ w'.cell? ⟨rr, 2, none⟩ = some (.int .i64 ((s1.n : Nat) : Int)) ∧ w'.cell? ⟨rr, 37, none⟩ = some (.int .i64 ((s1.used : Nat) : Int)) ∧ w'.rangeAt rr 3 (markL s1) := fun w' hb => ⟨hb, (HF.out.rr_.below hb).c2, (HF.out.rr_.below hb).c37 HF.out.ok.len, (HF.out.rr_.below hb).mark⟩
            have HSB := Lib.hid hsb
            clear hfine hne hrg9 hbl9 hrun9 hsb H9 H8 H7 H6 H5
            refine wpAny_of_held (S := fun w' => Below w9.heap.size w9 w' ∧ w'.cell? ⟨rr, 2, none⟩ = some (.int .i64 ((s1.n : Nat) : Int)) ∧ w'.cell? ⟨rr, 37, none⟩ = some (.int .i64 ((s1.used : Nat) : Int)) ∧ w'.rangeAt rr 3 (markL s1)) _ _ _ _ ?_
            have hHeld := hS9
            clear hS9
            refine wpAnyH_take (i := 40) (v := ?_) rfl (by kernel_rfl) (by kernel_rfl) (by kernel_rfl) (fun _ _ _ h => h) (Or.inl ⟨by rfl, ?_⟩) (by with_reducible assumption) ?_
            rotate_left
            · intro w hSw; (try dsimp only at hSw); (try go_split_ands); go_simp; (try with_reducible rfl)
            (try simp only [Act.put, List.getElem_toArray, List.getElem_cons_succ, List.getElem_cons_zero, List.setIfInBounds_toArray, List.set_cons_zero, List.set_cons_succ])
            refine wpAnyH_take (i := 43) (v := ?_) rfl (by kernel_rfl) (by kernel_rfl) (by kernel_rfl) (fun _ _ _ h => h) (Or.inl ⟨by rfl, ?_⟩) (by with_reducible assumption) ?_
            rotate_left
            · intro w hSw; (try dsimp only at hSw); (try go_split_ands); go_simp; (try with_reducible rfl)
            (try simp only [Act.put, List.getElem_toArray, List.getElem_cons_succ, List.getElem_cons_zero, List.setIfInBounds_toArray, List.set_cons_zero, List.set_cons_succ])
            refine wpAnyH_take (i := 44) (v := ?_) rfl (by kernel_rfl) (by kernel_rfl) (by kernel_rfl) (fun _ _ _ h => h) (Or.inl ⟨by rfl, ?_⟩) (by with_reducible assumption) ?_
            rotate_left
            · intro w hSw; (try dsimp only at hSw); (try go_split_ands); go_simp; (try with_reducible rfl)
            (try simp only [Act.put, List.getElem_toArray, List.getElem_cons_succ, List.getElem_cons_zero, List.setIfInBounds_toArray, List.set_cons_zero, List.set_cons_succ])
            refine wpAnyH_take (i := 45) (v := ?_) rfl (by kernel_rfl) (by kernel_rfl) (by kernel_rfl) (fun _ _ _ h => h) (Or.inl ⟨by rfl, ?_⟩) (by with_reducible assumption) ?_
            rotate_left
            · intro w hSw; (try dsimp only at hSw); (try go_split_ands); go_simp; (try with_reducible rfl)
            (try simp only [Act.put, List.getElem_toArray, List.getElem_cons_succ, List.getElem_cons_zero, List.setIfInBounds_toArray, List.set_cons_zero, List.set_cons_succ])
            refine wpAnyH_take (i := 46) (v := .agg (markL s1).toArray) rfl (by kernel_rfl) (by kernel_rfl) (by kernel_rfl) (fun _ _ _ h => h) (yieldsIf_load_mid (by rfl) 38 (.tmp 146) (by rfl) rr 3 (by rfl) (markL s1) _ (fun w hS => hS.2.2.2) Tryd.underlying38 rfl (by rw [markL_length HF.out.ok.len]; kernel_rfl)) (by with_reducible assumption) ?_
            (try simp only [Act.put, List.getElem_toArray, List.getElem_cons_succ, List.getElem_cons_zero, List.setIfInBounds_toArray, List.set_cons_zero, List.set_cons_succ])
            refine wpAnyH_ready (rs := [41]) (by kernel_rfl) (by simp) ?_
            refine AllReadyH.cons rfl (fun K9 hK9 => ?_) AllReadyH.nil
            have hhd := head_any (HF.out.rg.below hHeld.1) HF.out.ok.len
            go_simp
            go_wp2_with (go_at_call 26; (with_reducible refine hhd.mono ?_); rintro e wA ⟨rfl, hbA⟩; have hbx := hHeld.1.trans (hbA.mono hHeld.1.size); clear hbA)
            clear hhd
            refine hK9.out _ _ (HSB.out _ hbx) (fun hHeld => ?_)
            clear hK9 K9 hbx
            (try simp only [Act.put, List.getElem_toArray, List.getElem_cons_succ, List.getElem_cons_zero, List.setIfInBounds_toArray, List.set_cons_zero, List.set_cons_succ])
            refine wpAnyH_ready (rs := [42]) (by kernel_rfl) (by simp) ?_
            refine AllReadyH.cons rfl (fun K9 hK9 => ?_) AllReadyH.nil
            have hmk := mark_any wA ((s1.place : Nat) : Int) ((s1.num : Nat) : Int) s1.last HF.out.ok.len
            rw [← markL_eq] at hmk
            go_simp
            go_wp2_with (go_at_call 11; (with_reducible refine hmk.mono ?_); rintro e wB ⟨rfl, hbB⟩; have hbx := hHeld.1.trans (hbB.mono hHeld.1.size); clear hbB)
            clear hmk
            refine hK9.out _ _ (HSB.out _ hbx) (fun hHeld => ?_)
            clear hK9 K9 hbx
            (try simp only [Act.put, List.getElem_toArray, List.getElem_cons_succ, List.getElem_cons_zero, List.setIfInBounds_toArray, List.set_cons_zero, List.set_cons_succ])
            refine wpAnyH_take (i := 47) (v := .bool false) rfl (by kernel_rfl) (by kernel_rfl) (by kernel_rfl) (fun _ _ _ h => h) (yieldsIf_neq_self (by rfl) 38 (.tmp 143) (.tmp 147) (by rfl) (markL s1).toArray (by kernel_rfl) (by rfl) (by rfl) (fun w => rmk_self ((s1.place : Nat) : Int) ((s1.num : Nat) : Int) s1.last HF.out.ok.len w)) (by with_reducible assumption) ?_
            (try simp only [Act.put, List.getElem_toArray, List.getElem_cons_succ, List.getElem_cons_zero, List.setIfInBounds_toArray, List.set_cons_zero, List.set_cons_succ])
            refine wpAnyH_take (i := 48) (v := ?_) rfl (by kernel_rfl) (by kernel_rfl) (by kernel_rfl) (fun _ _ _ h => h) (Or.inl ⟨by rfl, ?_⟩) (by with_reducible assumption) ?_
            rotate_left
            · intro w hSw; (try dsimp only at hSw); (try go_split_ands); go_simp; (try with_reducible rfl)
            (try simp only [Act.put, List.getElem_toArray, List.getElem_cons_succ, List.getElem_cons_zero, List.setIfInBounds_toArray, List.set_cons_zero, List.set_cons_succ])
            refine wpAnyH_take (i := 49) (v := ?_) rfl (by kernel_rfl) (by kernel_rfl) (by kernel_rfl) (fun _ _ _ h => h) (Or.inl ⟨by rfl, ?_⟩) (by with_reducible assumption) ?_
            rotate_left
            · intro w hSw; (try dsimp only at hSw); (try go_split_ands); go_simp; (try with_reducible rfl)
            (try simp only [Act.put, List.getElem_toArray, List.getElem_cons_succ, List.getElem_cons_zero, List.setIfInBounds_toArray, List.set_cons_zero, List.set_cons_succ])
            refine wpAnyH_take (i := 50) (v := ?_) rfl (by kernel_rfl) (by kernel_rfl) (by kernel_rfl) (fun _ _ _ h => h) (Or.inl ⟨by rfl, ?_⟩) (by with_reducible assumption) ?_
            rotate_left
            · intro w hSw; (try dsimp only at hSw); (try go_split_ands); go_simp; (try with_reducible rfl)
            (try simp only [Act.put, List.getElem_toArray, List.getElem_cons_succ, List.getElem_cons_zero, List.setIfInBounds_toArray, List.set_cons_zero, List.set_cons_succ])
            refine wpAnyH_take (i := 52) (v := ?_) rfl (by kernel_rfl) (by kernel_rfl) (by kernel_rfl) (fun _ _ _ h => h) (Or.inl ⟨by rfl, ?_⟩) (by with_reducible assumption) ?_
            rotate_left
            · intro w hSw; (try dsimp only at hSw); (try go_split_ands); go_simp; (try with_reducible rfl)
            (try simp only [Act.put, List.getElem_toArray, List.getElem_cons_succ, List.getElem_cons_zero, List.setIfInBounds_toArray, List.set_cons_zero, List.set_cons_succ])
            refine wpAnyH_take (i := 53) (v := ?_) rfl (by kernel_rfl) (by kernel_rfl) (by kernel_rfl) (fun _ _ _ h => h) (Or.inl ⟨by rfl, ?_⟩) (by with_reducible assumption) ?_
            rotate_left
            · intro w hSw; (try dsimp only at hSw); (try go_split_ands); go_simp; (try with_reducible rfl)
            (try simp only [Act.put, List.getElem_toArray, List.getElem_cons_succ, List.getElem_cons_zero, List.setIfInBounds_toArray, List.set_cons_zero, List.set_cons_succ])
            refine wpAnyH_take (i := 54) (v := ?_) rfl (by kernel_rfl) (by kernel_rfl) (by kernel_rfl) (fun _ _ _ h => h) (Or.inl ⟨by rfl, ?_⟩) (by with_reducible assumption) ?_
            rotate_left
            · intro w hSw; (try dsimp only at hSw); (try go_split_ands); go_simp; (try with_reducible rfl)
            (try simp only [Act.put, List.getElem_toArray, List.getElem_cons_succ, List.getElem_cons_zero, List.setIfInBounds_toArray, List.set_cons_zero, List.set_cons_succ])
            refine wpAnyH_take (i := 55) (v := ?_) rfl (by kernel_rfl) (by kernel_rfl) (by kernel_rfl) (fun _ _ _ h => h) (Or.inl ⟨by rfl, ?_⟩) (by with_reducible assumption) ?_
            rotate_left
            · intro w hSw; (try dsimp only at hSw); (try go_split_ands); go_simp; (try with_reducible rfl)
            (try simp only [Act.put, List.getElem_toArray, List.getElem_cons_succ, List.getElem_cons_zero, List.setIfInBounds_toArray, List.set_cons_zero, List.set_cons_succ])
            refine wpAnyH_take (i := 56) (v := ?_) rfl (by kernel_rfl) (by kernel_rfl) (by kernel_rfl) (fun _ _ _ h => h) (Or.inl ⟨by rfl, ?_⟩) (by with_reducible assumption) ?_
            rotate_left
            · intro w hSw; (try dsimp only at hSw); (try go_split_ands); go_simp; (try with_reducible rfl)
            (try simp only [Act.put, List.getElem_toArray, List.getElem_cons_succ, List.getElem_cons_zero, List.setIfInBounds_toArray, List.set_cons_zero, List.set_cons_succ])
            refine wpAnyH_take (i := 57) (v := ?_) rfl (by kernel_rfl) (by kernel_rfl) (by kernel_rfl) (fun _ _ _ h => h) (Or.inl ⟨by rfl, ?_⟩) (by with_reducible assumption) ?_
            rotate_left
            · intro w hSw; (try dsimp only at hSw); (try go_split_ands); go_simp; (try with_reducible rfl)
            (try simp only [Act.put, List.getElem_toArray, List.getElem_cons_succ, List.getElem_cons_zero, List.setIfInBounds_toArray, List.set_cons_zero, List.set_cons_succ])
            refine wpAnyH_take (i := 58) (v := ?_) rfl (by kernel_rfl) (by kernel_rfl) (by kernel_rfl) (fun _ _ _ h => h) (Or.inl ⟨by rfl, ?_⟩) (by with_reducible assumption) ?_
            rotate_left
            · intro w hSw; (try dsimp only at hSw); (try go_split_ands); go_simp; (try with_reducible rfl)
            (try simp only [Act.put, List.getElem_toArray, List.getElem_cons_succ, List.getElem_cons_zero, List.setIfInBounds_toArray, List.set_cons_zero, List.set_cons_succ])
            refine wpAnyH_take (i := 59) (v := ?_) rfl (by kernel_rfl) (by kernel_rfl) (by kernel_rfl) (fun _ _ _ h => h) (Or.inl ⟨by rfl, ?_⟩) (by with_reducible assumption) ?_
            rotate_left
            · intro w hSw; (try dsimp only at hSw); (try go_split_ands); go_simp; (try with_reducible rfl)
            (try simp only [Act.put, List.getElem_toArray, List.getElem_cons_succ, List.getElem_cons_zero, List.setIfInBounds_toArray, List.set_cons_zero, List.set_cons_succ])
            have hus1 := HF.out.ok.used
            have hn21 := HF.out.ok.n2
            have hwr1 : IntKind.i64.wrap (((s1.n : Nat) : Int) - ((s1.used : Nat) : Int)) = ((s1.n - s1.used : Nat) : Int) := (IntWalk.i64_left _).trans ((IntWalk.wrap64_in _ ⟨by omega, by omega⟩).trans (by omega))
            refine wpAnyH_take (i := 60) (v := ?_) rfl (by kernel_rfl) (by kernel_rfl) (by kernel_rfl) (fun _ _ _ h => h) (Or.inl ⟨by rfl, ?_⟩) (by with_reducible assumption) ?_
            rotate_left
            · intro w hSw; (try dsimp only at hSw); (try go_split_ands); go_simp; (try with_reducible rfl)
            (try simp only [Act.put, List.getElem_toArray, List.getElem_cons_succ, List.getElem_cons_zero, List.setIfInBounds_toArray, List.set_cons_zero, List.set_cons_succ])
            refine wpAnyH_ready (rs := [51]) (by kernel_rfl) (by simp) ?_
            refine AllReadyH.cons rfl (fun K9 hK9 => ?_) AllReadyH.nil
            have hrm := room_any (HF.out.rg.below hHeld.1) HF.out.ok
            go_simp
            go_wp2_with (go_at_call 27; (with_reducible refine hrm.mono ?_); rintro e wC ⟨rfl, k9, hw9⟩; have hbx := hHeld.1.trans ((show Below _ _ wC from hw9 ▸ drawn_below (Below.refl _ _) k9).mono hHeld.1.size); clear hw9)
            clear hrm
            refine hK9.out _ _ (HSB.out _ hbx) (fun hHeld => ?_)
            clear hK9 K9 hbx
            (try simp only [Act.put, List.getElem_toArray, List.getElem_cons_succ, List.getElem_cons_zero, List.setIfInBounds_toArray, List.set_cons_zero, List.set_cons_succ])
            refine wpAnyH_take (i := 61) (v := ?_) rfl (by kernel_rfl) (by kernel_rfl) (by kernel_rfl) (fun _ _ _ h => h) (Or.inl ⟨by rfl, ?_⟩) (by with_reducible assumption) ?_
            rotate_left
            · intro w hSw; (try dsimp only at hSw); (try go_split_ands); go_simp; (try with_reducible rfl)
            (try simp only [Act.put, List.getElem_toArray, List.getElem_cons_succ, List.getElem_cons_zero, List.setIfInBounds_toArray, List.set_cons_zero, List.set_cons_succ])
            refine wpAnyH_take (i := 62) (v := ?_) rfl (by kernel_rfl) (by kernel_rfl) (by kernel_rfl) (fun _ _ _ h => h) (Or.inl ⟨by rfl, ?_⟩) (by with_reducible assumption) ?_
            rotate_left
            · intro w hSw; (try dsimp only at hSw); (try go_split_ands); go_simp; (try with_reducible rfl)
            (try simp only [Act.put, List.getElem_toArray, List.getElem_cons_succ, List.getElem_cons_zero, List.setIfInBounds_toArray, List.set_cons_zero, List.set_cons_succ])
            have HB9 := Lib.hid hHeld.1
            refine wpAnyH_done (by kernel_rfl) ?_ _
            clear hHeld hwr1
            go_wp2_with fail
            go_meet
            exact ⟨s1, d1, rfl, HF.out.below HB9.out⟩
            -- }
          · intro hkey
            by_cases hA : M < 1
            · have i1 : ¬ (1 : Int) ≤ (M : Int) := by omega
              have hF : s.fits M = false := by unfold RS.fits; simp; omega
              -- {
              refine wpTill_takeW (i := 0) (v := ?_) rfl (by kernel_rfl) (by kernel_rfl) (by kernel_rfl) (by kernel_rfl) (by kernel_rfl) (fun _ _ _ h => h) (Or.inl ⟨by rfl, ?_⟩) (by with_reducible assumption) ?_
              rotate_left
              · intro w hSw; (try dsimp only at hSw); (try go_split_ands); go_simp; (try with_reducible rfl)
              (try simp only [Act.put, List.getElem_toArray, List.getElem_cons_succ, List.getElem_cons_zero, List.setIfInBounds_toArray, List.set_cons_zero, List.set_cons_succ])
              refine wpTill_takeW (i := 1) (v := ?_) rfl (by kernel_rfl) (by kernel_rfl) (by kernel_rfl) (by kernel_rfl) (by kernel_rfl) (fun _ _ _ h => h) (Or.inl ⟨by rfl, ?_⟩) (by with_reducible assumption) ?_
              rotate_left
              · intro w hSw; (try dsimp only at hSw); (try go_split_ands); go_simp; (try with_reducible rfl)
              (try simp only [Act.put, List.getElem_toArray, List.getElem_cons_succ, List.getElem_cons_zero, List.setIfInBounds_toArray, List.set_cons_zero, List.set_cons_succ])
              refine wpTill_takeW (i := 2) (v := ?_) rfl (by kernel_rfl) (by kernel_rfl) (by kernel_rfl) (by kernel_rfl) (by kernel_rfl) (fun _ _ _ h => h) (Or.inl ⟨by rfl, ?_⟩) (by with_reducible assumption) ?_
              rotate_left
              · intro w hSw; (try dsimp only at hSw); (try go_split_ands); go_simp; (try with_reducible rfl)
              (try simp only [Act.put, List.getElem_toArray, List.getElem_cons_succ, List.getElem_cons_zero, List.setIfInBounds_toArray, List.set_cons_zero, List.set_cons_succ])
              refine wpTill_takeW (i := 4) (v := ?_) rfl (by kernel_rfl) (by kernel_rfl) (by kernel_rfl) (by kernel_rfl) (by kernel_rfl) (fun _ _ _ h => h) (Or.inl ⟨by rfl, ?_⟩) (by with_reducible assumption) ?_
              rotate_left
              · intro w hSw; (try dsimp only at hSw); (try go_split_ands); go_simp; (try with_reducible rfl)
              (try simp only [Act.put, List.getElem_toArray, List.getElem_cons_succ, List.getElem_cons_zero, List.setIfInBounds_toArray, List.set_cons_zero, List.set_cons_succ])
              refine wpTill_takeW (i := 5) (v := ?_) rfl (by kernel_rfl) (by kernel_rfl) (by kernel_rfl) (by kernel_rfl) (by kernel_rfl) (fun _ _ _ h => h) (Or.inl ⟨by rfl, ?_⟩) (by with_reducible assumption) ?_
              rotate_left
              · intro w hSw; (try dsimp only at hSw); (try go_split_ands); go_simp; (try with_reducible rfl)
              (try simp only [Act.put, List.getElem_toArray, List.getElem_cons_succ, List.getElem_cons_zero, List.setIfInBounds_toArray, List.set_cons_zero, List.set_cons_succ])
              refine wpTill_takeW (i := 6) (v := ?_) rfl (by kernel_rfl) (by kernel_rfl) (by kernel_rfl) (by kernel_rfl) (by kernel_rfl) (fun _ _ _ h => h) (Or.inl ⟨by rfl, ?_⟩) (by with_reducible assumption) ?_
              rotate_left
              · intro w hSw; (try dsimp only at hSw); (try go_split_ands); go_simp; (try with_reducible rfl)
              (try simp only [Act.put, List.getElem_toArray, List.getElem_cons_succ, List.getElem_cons_zero, List.setIfInBounds_toArray, List.set_cons_zero, List.set_cons_succ])
              refine wpTill_ready (rs := [3]) (by kernel_rfl) (by simp) ?_
              refine TillAll.cons rfl (fun K9 hK9 => ?_) TillAll.nil
              have hfit := fits_any (HC.out.run.rg.below hHeld.2.2) HC.out.run.ok M (by omega)
              rw [hF] at hfit
              go_simp
              go_wp2_with (go_at_call 22; (with_reducible refine hfit.mono ?_); rintro e w5 ⟨rfl, k5, hw5⟩; have hbx := hHeld.2.2.trans ((show Below _ _ w5 from hw5 ▸ drawn_below (Below.refl _ _) k5).mono hHeld.2.2.size); clear hw5)
              have HR5 := Lib.hid (HC.out.run.rr_.below hbx)
              refine hK9.out _ _ ⟨HR5.out.c2, HR5.out.c37 HC.out.run.ok.len, hbx⟩ (fun hHeld => ?_)
              clear hK9 K9 hfit hbx HR5
              (try simp only [Act.put, List.getElem_toArray, List.getElem_cons_succ, List.getElem_cons_zero, List.setIfInBounds_toArray, List.set_cons_zero, List.set_cons_succ])
              refine wpTill_takeW (i := 7) (v := ?_) rfl (by kernel_rfl) (by kernel_rfl) (by kernel_rfl) (by kernel_rfl) (by kernel_rfl) (fun _ _ _ h => h) (Or.inl ⟨by rfl, ?_⟩) (by with_reducible assumption) ?_
              rotate_left
              · intro w hSw; (try dsimp only at hSw); (try go_split_ands); go_simp; (try with_reducible rfl)
              (try simp only [Act.put, List.getElem_toArray, List.getElem_cons_succ, List.getElem_cons_zero, List.setIfInBounds_toArray, List.set_cons_zero, List.set_cons_succ])
              refine wpTill_takeW (i := 8) (v := undef) rfl (by kernel_rfl) (by kernel_rfl) (by kernel_rfl) (by kernel_rfl) (by kernel_rfl) (fun _ _ _ h => h) (Or.inr ⟨by rfl, rfl⟩) (by with_reducible assumption) ?_
              (try simp only [Act.put, List.getElem_toArray, List.getElem_cons_succ, List.getElem_cons_zero, List.setIfInBounds_toArray, List.set_cons_zero, List.set_cons_succ])
              refine wpTill_takeW (i := 9) (v := undef) rfl (by kernel_rfl) (by kernel_rfl) (by kernel_rfl) (by kernel_rfl) (by kernel_rfl) (fun _ _ _ h => h) (Or.inr ⟨by rfl, rfl⟩) (by with_reducible assumption) ?_
              (try simp only [Act.put, List.getElem_toArray, List.getElem_cons_succ, List.getElem_cons_zero, List.setIfInBounds_toArray, List.set_cons_zero, List.set_cons_succ])
              refine wpTill_takeW (i := 10) (v := undef) rfl (by kernel_rfl) (by kernel_rfl) (by kernel_rfl) (by kernel_rfl) (by kernel_rfl) (fun _ _ _ h => h) (Or.inr ⟨by rfl, rfl⟩) (by with_reducible assumption) ?_
              (try simp only [Act.put, List.getElem_toArray, List.getElem_cons_succ, List.getElem_cons_zero, List.setIfInBounds_toArray, List.set_cons_zero, List.set_cons_succ])
              refine wpTill_takeW (i := 11) (v := ?_) rfl (by kernel_rfl) (by kernel_rfl) (by kernel_rfl) (by kernel_rfl) (by kernel_rfl) (fun _ _ _ h => h) (Or.inl ⟨by rfl, ?_⟩) (by with_reducible assumption) ?_
              rotate_left
              · intro w hSw; (try dsimp only at hSw); (try go_split_ands); go_simp; (try with_reducible rfl)
              (try simp only [Act.put, List.getElem_toArray, List.getElem_cons_succ, List.getElem_cons_zero, List.setIfInBounds_toArray, List.set_cons_zero, List.set_cons_succ])
              refine wpTill_takeW (i := 12) (v := ?_) rfl (by kernel_rfl) (by kernel_rfl) (by kernel_rfl) (by kernel_rfl) (by kernel_rfl) (fun _ _ _ h => h) (Or.inl ⟨by rfl, ?_⟩) (by with_reducible assumption) ?_
              rotate_left
              · intro w hSw; (try dsimp only at hSw); (try go_split_ands); go_simp; (try with_reducible rfl)
              (try simp only [Act.put, List.getElem_toArray, List.getElem_cons_succ, List.getElem_cons_zero, List.setIfInBounds_toArray, List.set_cons_zero, List.set_cons_succ])
              refine wpTill_takeW (i := 13) (v := undef) rfl (by kernel_rfl) (by kernel_rfl) (by kernel_rfl) (by kernel_rfl) (by kernel_rfl) (fun _ _ _ h => h) (Or.inr ⟨by rfl, rfl⟩) (by with_reducible assumption) ?_
              (try simp only [Act.put, List.getElem_toArray, List.getElem_cons_succ, List.getElem_cons_zero, List.setIfInBounds_toArray, List.set_cons_zero, List.set_cons_succ])
              refine wpTill_takeW (i := 14) (v := undef) rfl (by kernel_rfl) (by kernel_rfl) (by kernel_rfl) (by kernel_rfl) (by kernel_rfl) (fun _ _ _ h => h) (Or.inr ⟨by rfl, rfl⟩) (by with_reducible assumption) ?_
              (try simp only [Act.put, List.getElem_toArray, List.getElem_cons_succ, List.getElem_cons_zero, List.setIfInBounds_toArray, List.set_cons_zero, List.set_cons_succ])
              refine wpTill_takeW (i := 15) (v := undef) rfl (by kernel_rfl) (by kernel_rfl) (by kernel_rfl) (by kernel_rfl) (by kernel_rfl) (fun _ _ _ h => h) (Or.inr ⟨by rfl, rfl⟩) (by with_reducible assumption) ?_
              (try simp only [Act.put, List.getElem_toArray, List.getElem_cons_succ, List.getElem_cons_zero, List.setIfInBounds_toArray, List.set_cons_zero, List.set_cons_succ])
              refine wpTill_takeW (i := 16) (v := undef) rfl (by kernel_rfl) (by kernel_rfl) (by kernel_rfl) (by kernel_rfl) (by kernel_rfl) (fun _ _ _ h => h) (Or.inr ⟨by rfl, rfl⟩) (by with_reducible assumption) ?_
              (try simp only [Act.put, List.getElem_toArray, List.getElem_cons_succ, List.getElem_cons_zero, List.setIfInBounds_toArray, List.set_cons_zero, List.set_cons_succ])
              refine wpTill_takeW (i := 17) (v := undef) rfl (by kernel_rfl) (by kernel_rfl) (by kernel_rfl) (by kernel_rfl) (by kernel_rfl) (fun _ _ _ h => h) (Or.inr ⟨by rfl, rfl⟩) (by with_reducible assumption) ?_
              (try simp only [Act.put, List.getElem_toArray, List.getElem_cons_succ, List.getElem_cons_zero, List.setIfInBounds_toArray, List.set_cons_zero, List.set_cons_succ])
              refine wpTill_takeW (i := 18) (v := undef) rfl (by kernel_rfl) (by kernel_rfl) (by kernel_rfl) (by kernel_rfl) (by kernel_rfl) (fun _ _ _ h => h) (Or.inr ⟨by rfl, rfl⟩) (by with_reducible assumption) ?_
              (try simp only [Act.put, List.getElem_toArray, List.getElem_cons_succ, List.getElem_cons_zero, List.setIfInBounds_toArray, List.set_cons_zero, List.set_cons_succ])
              refine wpTill_takeW (i := 19) (v := undef) rfl (by kernel_rfl) (by kernel_rfl) (by kernel_rfl) (by kernel_rfl) (by kernel_rfl) (fun _ _ _ h => h) (Or.inr ⟨by rfl, rfl⟩) (by with_reducible assumption) ?_
              (try simp only [Act.put, List.getElem_toArray, List.getElem_cons_succ, List.getElem_cons_zero, List.setIfInBounds_toArray, List.set_cons_zero, List.set_cons_succ])
              refine wpTill_takeW (i := 20) (v := undef) rfl (by kernel_rfl) (by kernel_rfl) (by kernel_rfl) (by kernel_rfl) (by kernel_rfl) (fun _ _ _ h => h) (Or.inr ⟨by rfl, rfl⟩) (by with_reducible assumption) ?_
              (try simp only [Act.put, List.getElem_toArray, List.getElem_cons_succ, List.getElem_cons_zero, List.setIfInBounds_toArray, List.set_cons_zero, List.set_cons_succ])
              refine wpTill_takeW (i := 21) (v := undef) rfl (by kernel_rfl) (by kernel_rfl) (by kernel_rfl) (by kernel_rfl) (by kernel_rfl) (fun _ _ _ h => h) (Or.inr ⟨by rfl, rfl⟩) (by with_reducible assumption) ?_
              (try simp only [Act.put, List.getElem_toArray, List.getElem_cons_succ, List.getElem_cons_zero, List.setIfInBounds_toArray, List.set_cons_zero, List.set_cons_succ])
              refine wpTill_takeW (i := 22) (v := undef) rfl (by kernel_rfl) (by kernel_rfl) (by kernel_rfl) (by kernel_rfl) (by kernel_rfl) (fun _ _ _ h => h) (Or.inr ⟨by rfl, rfl⟩) (by with_reducible assumption) ?_
              (try simp only [Act.put, List.getElem_toArray, List.getElem_cons_succ, List.getElem_cons_zero, List.setIfInBounds_toArray, List.set_cons_zero, List.set_cons_succ])
              refine wpTill_takeW (i := 23) (v := undef) rfl (by kernel_rfl) (by kernel_rfl) (by kernel_rfl) (by kernel_rfl) (by kernel_rfl) (fun _ _ _ h => h) (Or.inr ⟨by rfl, rfl⟩) (by with_reducible assumption) ?_
              (try simp only [Act.put, List.getElem_toArray, List.getElem_cons_succ, List.getElem_cons_zero, List.setIfInBounds_toArray, List.set_cons_zero, List.set_cons_succ])
              refine wpTill_takeW (i := 24) (v := undef) rfl (by kernel_rfl) (by kernel_rfl) (by kernel_rfl) (by kernel_rfl) (by kernel_rfl) (fun _ _ _ h => h) (Or.inr ⟨by rfl, rfl⟩) (by with_reducible assumption) ?_
              (try simp only [Act.put, List.getElem_toArray, List.getElem_cons_succ, List.getElem_cons_zero, List.setIfInBounds_toArray, List.set_cons_zero, List.set_cons_succ])
              refine wpTill_takeW (i := 25) (v := undef) rfl (by kernel_rfl) (by kernel_rfl) (by kernel_rfl) (by kernel_rfl) (by kernel_rfl) (fun _ _ _ h => h) (Or.inr ⟨by rfl, rfl⟩) (by with_reducible assumption) ?_
              (try simp only [Act.put, List.getElem_toArray, List.getElem_cons_succ, List.getElem_cons_zero, List.setIfInBounds_toArray, List.set_cons_zero, List.set_cons_succ])
              refine wpTill_takeW (i := 26) (v := ?_) rfl (by kernel_rfl) (by kernel_rfl) (by kernel_rfl) (by kernel_rfl) (by kernel_rfl) (fun _ _ _ h => h) (Or.inl ⟨by rfl, ?_⟩) (by with_reducible assumption) ?_
              rotate_left
              · intro w hSw; (try dsimp only at hSw); (try go_split_ands); go_simp; (try with_reducible rfl)
              (try simp only [Act.put, List.getElem_toArray, List.getElem_cons_succ, List.getElem_cons_zero, List.setIfInBounds_toArray, List.set_cons_zero, List.set_cons_succ])
              refine wpTill_takeW (i := 27) (v := ?_) rfl (by kernel_rfl) (by kernel_rfl) (by kernel_rfl) (by kernel_rfl) (by kernel_rfl) (fun _ _ _ h => h) (Or.inl ⟨by rfl, ?_⟩) (by with_reducible assumption) ?_
              rotate_left
              · intro w hSw; (try dsimp only at hSw); (try go_split_ands); go_simp; (try with_reducible rfl)
              (try simp only [Act.put, List.getElem_toArray, List.getElem_cons_succ, List.getElem_cons_zero, List.setIfInBounds_toArray, List.set_cons_zero, List.set_cons_succ])
              refine wpTill_takeW (i := 28) (v := ?_) rfl (by kernel_rfl) (by kernel_rfl) (by kernel_rfl) (by kernel_rfl) (by kernel_rfl) (fun _ _ _ h => h) (Or.inl ⟨by rfl, ?_⟩) (by with_reducible assumption) ?_
              rotate_left
              · intro w hSw; (try dsimp only at hSw); (try go_split_ands); go_simp; (try with_reducible rfl)
              (try simp only [Act.put, List.getElem_toArray, List.getElem_cons_succ, List.getElem_cons_zero, List.setIfInBounds_toArray, List.set_cons_zero, List.set_cons_succ])
              refine wpTill_last (by kernel_rfl) ?_
              exact wpAny_18 hkey hHeld.2.2 (by kernel_rfl) (by kernel_rfl)
              -- }
            · by_cases hB : 60 < M
              · have i1 : (1 : Int) ≤ (M : Int) := by omega
                have i2 : ¬ (M : Int) ≤ 60 := by omega
                have g2 : decide ((M : Int) ≤ 60) = false := decide_eq_false i2
                have g3 : decide (M ≤ 60) = false := decide_eq_false (by omega)
                have hF : s.fits M = false := by unfold RS.fits; simp; omega
                -- {
                refine wpTill_takeW (i := 0) (v := ?_) rfl (by kernel_rfl) (by kernel_rfl) (by kernel_rfl) (by kernel_rfl) (by kernel_rfl) (fun _ _ _ h => h) (Or.inl ⟨by rfl, ?_⟩) (by with_reducible assumption) ?_
                rotate_left
                · intro w hSw; (try dsimp only at hSw); (try go_split_ands); go_simp; (try with_reducible rfl)
                (try simp only [Act.put, List.getElem_toArray, List.getElem_cons_succ, List.getElem_cons_zero, List.setIfInBounds_toArray, List.set_cons_zero, List.set_cons_succ])
                refine wpTill_takeW (i := 1) (v := ?_) rfl (by kernel_rfl) (by kernel_rfl) (by kernel_rfl) (by kernel_rfl) (by kernel_rfl) (fun _ _ _ h => h) (Or.inl ⟨by rfl, ?_⟩) (by with_reducible assumption) ?_
                rotate_left
                · intro w hSw; (try dsimp only at hSw); (try go_split_ands); go_simp; (try with_reducible rfl)
                (try simp only [Act.put, List.getElem_toArray, List.getElem_cons_succ, List.getElem_cons_zero, List.setIfInBounds_toArray, List.set_cons_zero, List.set_cons_succ])
                refine wpTill_takeW (i := 2) (v := ?_) rfl (by kernel_rfl) (by kernel_rfl) (by kernel_rfl) (by kernel_rfl) (by kernel_rfl) (fun _ _ _ h => h) (Or.inl ⟨by rfl, ?_⟩) (by with_reducible assumption) ?_
                rotate_left
                · intro w hSw; (try dsimp only at hSw); (try go_split_ands); go_simp; (try with_reducible rfl)
                (try simp only [Act.put, List.getElem_toArray, List.getElem_cons_succ, List.getElem_cons_zero, List.setIfInBounds_toArray, List.set_cons_zero, List.set_cons_succ])
                refine wpTill_takeW (i := 4) (v := ?_) rfl (by kernel_rfl) (by kernel_rfl) (by kernel_rfl) (by kernel_rfl) (by kernel_rfl) (fun _ _ _ h => h) (Or.inl ⟨by rfl, ?_⟩) (by with_reducible assumption) ?_
                rotate_left
                · intro w hSw; (try dsimp only at hSw); (try go_split_ands); go_simp; (try with_reducible rfl)
                (try simp only [Act.put, List.getElem_toArray, List.getElem_cons_succ, List.getElem_cons_zero, List.setIfInBounds_toArray, List.set_cons_zero, List.set_cons_succ])
                refine wpTill_takeW (i := 5) (v := ?_) rfl (by kernel_rfl) (by kernel_rfl) (by kernel_rfl) (by kernel_rfl) (by kernel_rfl) (fun _ _ _ h => h) (Or.inl ⟨by rfl, ?_⟩) (by with_reducible assumption) ?_
                rotate_left
                · intro w hSw; (try dsimp only at hSw); (try go_split_ands); go_simp; (try with_reducible rfl)
                (try simp only [Act.put, List.getElem_toArray, List.getElem_cons_succ, List.getElem_cons_zero, List.setIfInBounds_toArray, List.set_cons_zero, List.set_cons_succ])
                refine wpTill_takeW (i := 6) (v := ?_) rfl (by kernel_rfl) (by kernel_rfl) (by kernel_rfl) (by kernel_rfl) (by kernel_rfl) (fun _ _ _ h => h) (Or.inl ⟨by rfl, ?_⟩) (by with_reducible assumption) ?_
                rotate_left
                · intro w hSw; (try dsimp only at hSw); (try go_split_ands); go_simp; (try with_reducible rfl)
                (try simp only [Act.put, List.getElem_toArray, List.getElem_cons_succ, List.getElem_cons_zero, List.setIfInBounds_toArray, List.set_cons_zero, List.set_cons_succ])
                refine wpTill_ready (rs := [3]) (by kernel_rfl) (by simp) ?_
                refine TillAll.cons rfl (fun K9 hK9 => ?_) TillAll.nil
                have hfit := fits_any (HC.out.run.rg.below hHeld.2.2) HC.out.run.ok M (by omega)
                rw [hF] at hfit
                go_simp
                go_wp2_with (go_at_call 22; (with_reducible refine hfit.mono ?_); rintro e w5 ⟨rfl, k5, hw5⟩; have hbx := hHeld.2.2.trans ((show Below _ _ w5 from hw5 ▸ drawn_below (Below.refl _ _) k5).mono hHeld.2.2.size); clear hw5)
                have HR5 := Lib.hid (HC.out.run.rr_.below hbx)
                refine hK9.out _ _ ⟨HR5.out.c2, HR5.out.c37 HC.out.run.ok.len, hbx⟩ (fun hHeld => ?_)
                clear hK9 K9 hfit hbx HR5
                (try simp only [Act.put, List.getElem_toArray, List.getElem_cons_succ, List.getElem_cons_zero, List.setIfInBounds_toArray, List.set_cons_zero, List.set_cons_succ])
                refine wpTill_takeW (i := 7) (v := ?_) rfl (by kernel_rfl) (by kernel_rfl) (by kernel_rfl) (by kernel_rfl) (by kernel_rfl) (fun _ _ _ h => h) (Or.inl ⟨by rfl, ?_⟩) (by with_reducible assumption) ?_
                rotate_left
                · intro w hSw; (try dsimp only at hSw); (try go_split_ands); go_simp; (try with_reducible rfl)
                (try simp only [Act.put, List.getElem_toArray, List.getElem_cons_succ, List.getElem_cons_zero, List.setIfInBounds_toArray, List.set_cons_zero, List.set_cons_succ])
                refine wpTill_takeW (i := 8) (v := ?_) rfl (by kernel_rfl) (by kernel_rfl) (by kernel_rfl) (by kernel_rfl) (by kernel_rfl) (fun _ _ _ h => h) (Or.inl ⟨by rfl, ?_⟩) (by with_reducible assumption) ?_
                rotate_left
                · intro w hSw; (try dsimp only at hSw); (try go_split_ands); go_simp; (try with_reducible rfl)
                (try simp only [Act.put, List.getElem_toArray, List.getElem_cons_succ, List.getElem_cons_zero, List.setIfInBounds_toArray, List.set_cons_zero, List.set_cons_succ])
                refine wpTill_takeW (i := 9) (v := ?_) rfl (by kernel_rfl) (by kernel_rfl) (by kernel_rfl) (by kernel_rfl) (by kernel_rfl) (fun _ _ _ h => h) (Or.inl ⟨by rfl, ?_⟩) (by with_reducible assumption) ?_
                rotate_left
                · intro w hSw; (try dsimp only at hSw); (try go_split_ands); go_simp; (try with_reducible rfl)
                (try simp only [Act.put, List.getElem_toArray, List.getElem_cons_succ, List.getElem_cons_zero, List.setIfInBounds_toArray, List.set_cons_zero, List.set_cons_succ])
                refine wpTill_takeW (i := 10) (v := ?_) rfl (by kernel_rfl) (by kernel_rfl) (by kernel_rfl) (by kernel_rfl) (by kernel_rfl) (fun _ _ _ h => h) (Or.inl ⟨by rfl, ?_⟩) (by with_reducible assumption) ?_
                rotate_left
                · intro w hSw; (try dsimp only at hSw); (try go_split_ands); go_simp; (try with_reducible rfl)
                (try simp only [Act.put, List.getElem_toArray, List.getElem_cons_succ, List.getElem_cons_zero, List.setIfInBounds_toArray, List.set_cons_zero, List.set_cons_succ])
                try rw [g2]
                refine wpTill_takeW (i := 11) (v := ?_) rfl (by kernel_rfl) (by kernel_rfl) (by kernel_rfl) (by kernel_rfl) (by kernel_rfl) (fun _ _ _ h => h) (Or.inl ⟨by rfl, ?_⟩) (by with_reducible assumption) ?_
                rotate_left
                · intro w hSw; (try dsimp only at hSw); (try go_split_ands); go_simp; (try with_reducible rfl)
                (try simp only [Act.put, List.getElem_toArray, List.getElem_cons_succ, List.getElem_cons_zero, List.setIfInBounds_toArray, List.set_cons_zero, List.set_cons_succ])
                refine wpTill_takeW (i := 12) (v := ?_) rfl (by kernel_rfl) (by kernel_rfl) (by kernel_rfl) (by kernel_rfl) (by kernel_rfl) (fun _ _ _ h => h) (Or.inl ⟨by rfl, ?_⟩) (by with_reducible assumption) ?_
                rotate_left
                · intro w hSw; (try dsimp only at hSw); (try go_split_ands); go_simp; (try with_reducible rfl)
                (try simp only [Act.put, List.getElem_toArray, List.getElem_cons_succ, List.getElem_cons_zero, List.setIfInBounds_toArray, List.set_cons_zero, List.set_cons_succ])
                refine wpTill_takeW (i := 13) (v := undef) rfl (by kernel_rfl) (by kernel_rfl) (by kernel_rfl) (by kernel_rfl) (by kernel_rfl) (fun _ _ _ h => h) (Or.inr ⟨by rfl, rfl⟩) (by with_reducible assumption) ?_
                (try simp only [Act.put, List.getElem_toArray, List.getElem_cons_succ, List.getElem_cons_zero, List.setIfInBounds_toArray, List.set_cons_zero, List.set_cons_succ])
                refine wpTill_takeW (i := 14) (v := undef) rfl (by kernel_rfl) (by kernel_rfl) (by kernel_rfl) (by kernel_rfl) (by kernel_rfl) (fun _ _ _ h => h) (Or.inr ⟨by rfl, rfl⟩) (by with_reducible assumption) ?_
                (try simp only [Act.put, List.getElem_toArray, List.getElem_cons_succ, List.getElem_cons_zero, List.setIfInBounds_toArray, List.set_cons_zero, List.set_cons_succ])
                refine wpTill_takeW (i := 15) (v := undef) rfl (by kernel_rfl) (by kernel_rfl) (by kernel_rfl) (by kernel_rfl) (by kernel_rfl) (fun _ _ _ h => h) (Or.inr ⟨by rfl, rfl⟩) (by with_reducible assumption) ?_
                (try simp only [Act.put, List.getElem_toArray, List.getElem_cons_succ, List.getElem_cons_zero, List.setIfInBounds_toArray, List.set_cons_zero, List.set_cons_succ])
                refine wpTill_takeW (i := 16) (v := undef) rfl (by kernel_rfl) (by kernel_rfl) (by kernel_rfl) (by kernel_rfl) (by kernel_rfl) (fun _ _ _ h => h) (Or.inr ⟨by rfl, rfl⟩) (by with_reducible assumption) ?_
                (try simp only [Act.put, List.getElem_toArray, List.getElem_cons_succ, List.getElem_cons_zero, List.setIfInBounds_toArray, List.set_cons_zero, List.set_cons_succ])
                refine wpTill_takeW (i := 17) (v := undef) rfl (by kernel_rfl) (by kernel_rfl) (by kernel_rfl) (by kernel_rfl) (by kernel_rfl) (fun _ _ _ h => h) (Or.inr ⟨by rfl, rfl⟩) (by with_reducible assumption) ?_
                (try simp only [Act.put, List.getElem_toArray, List.getElem_cons_succ, List.getElem_cons_zero, List.setIfInBounds_toArray, List.set_cons_zero, List.set_cons_succ])
                refine wpTill_takeW (i := 18) (v := undef) rfl (by kernel_rfl) (by kernel_rfl) (by kernel_rfl) (by kernel_rfl) (by kernel_rfl) (fun _ _ _ h => h) (Or.inr ⟨by rfl, rfl⟩) (by with_reducible assumption) ?_
                (try simp only [Act.put, List.getElem_toArray, List.getElem_cons_succ, List.getElem_cons_zero, List.setIfInBounds_toArray, List.set_cons_zero, List.set_cons_succ])
                refine wpTill_takeW (i := 19) (v := undef) rfl (by kernel_rfl) (by kernel_rfl) (by kernel_rfl) (by kernel_rfl) (by kernel_rfl) (fun _ _ _ h => h) (Or.inr ⟨by rfl, rfl⟩) (by with_reducible assumption) ?_
                (try simp only [Act.put, List.getElem_toArray, List.getElem_cons_succ, List.getElem_cons_zero, List.setIfInBounds_toArray, List.set_cons_zero, List.set_cons_succ])
                refine wpTill_takeW (i := 20) (v := undef) rfl (by kernel_rfl) (by kernel_rfl) (by kernel_rfl) (by kernel_rfl) (by kernel_rfl) (fun _ _ _ h => h) (Or.inr ⟨by rfl, rfl⟩) (by with_reducible assumption) ?_
                (try simp only [Act.put, List.getElem_toArray, List.getElem_cons_succ, List.getElem_cons_zero, List.setIfInBounds_toArray, List.set_cons_zero, List.set_cons_succ])
                refine wpTill_takeW (i := 21) (v := undef) rfl (by kernel_rfl) (by kernel_rfl) (by kernel_rfl) (by kernel_rfl) (by kernel_rfl) (fun _ _ _ h => h) (Or.inr ⟨by rfl, rfl⟩) (by with_reducible assumption) ?_
                (try simp only [Act.put, List.getElem_toArray, List.getElem_cons_succ, List.getElem_cons_zero, List.setIfInBounds_toArray, List.set_cons_zero, List.set_cons_succ])
                refine wpTill_takeW (i := 22) (v := undef) rfl (by kernel_rfl) (by kernel_rfl) (by kernel_rfl) (by kernel_rfl) (by kernel_rfl) (fun _ _ _ h => h) (Or.inr ⟨by rfl, rfl⟩) (by with_reducible assumption) ?_
                (try simp only [Act.put, List.getElem_toArray, List.getElem_cons_succ, List.getElem_cons_zero, List.setIfInBounds_toArray, List.set_cons_zero, List.set_cons_succ])
                refine wpTill_takeW (i := 23) (v := undef) rfl (by kernel_rfl) (by kernel_rfl) (by kernel_rfl) (by kernel_rfl) (by kernel_rfl) (fun _ _ _ h => h) (Or.inr ⟨by rfl, rfl⟩) (by with_reducible assumption) ?_
                (try simp only [Act.put, List.getElem_toArray, List.getElem_cons_succ, List.getElem_cons_zero, List.setIfInBounds_toArray, List.set_cons_zero, List.set_cons_succ])
                refine wpTill_takeW (i := 24) (v := undef) rfl (by kernel_rfl) (by kernel_rfl) (by kernel_rfl) (by kernel_rfl) (by kernel_rfl) (fun _ _ _ h => h) (Or.inr ⟨by rfl, rfl⟩) (by with_reducible assumption) ?_
                (try simp only [Act.put, List.getElem_toArray, List.getElem_cons_succ, List.getElem_cons_zero, List.setIfInBounds_toArray, List.set_cons_zero, List.set_cons_succ])
                refine wpTill_takeW (i := 25) (v := undef) rfl (by kernel_rfl) (by kernel_rfl) (by kernel_rfl) (by kernel_rfl) (by kernel_rfl) (fun _ _ _ h => h) (Or.inr ⟨by rfl, rfl⟩) (by with_reducible assumption) ?_
                (try simp only [Act.put, List.getElem_toArray, List.getElem_cons_succ, List.getElem_cons_zero, List.setIfInBounds_toArray, List.set_cons_zero, List.set_cons_succ])
                refine wpTill_takeW (i := 26) (v := ?_) rfl (by kernel_rfl) (by kernel_rfl) (by kernel_rfl) (by kernel_rfl) (by kernel_rfl) (fun _ _ _ h => h) (Or.inl ⟨by rfl, ?_⟩) (by with_reducible assumption) ?_
                rotate_left
                · intro w hSw; (try dsimp only at hSw); (try go_split_ands); go_simp; (try with_reducible rfl)
                (try simp only [Act.put, List.getElem_toArray, List.getElem_cons_succ, List.getElem_cons_zero, List.setIfInBounds_toArray, List.set_cons_zero, List.set_cons_succ])
                refine wpTill_takeW (i := 27) (v := ?_) rfl (by kernel_rfl) (by kernel_rfl) (by kernel_rfl) (by kernel_rfl) (by kernel_rfl) (fun _ _ _ h => h) (Or.inl ⟨by rfl, ?_⟩) (by with_reducible assumption) ?_
                rotate_left
                · intro w hSw; (try dsimp only at hSw); (try go_split_ands); go_simp; (try with_reducible rfl)
                (try simp only [Act.put, List.getElem_toArray, List.getElem_cons_succ, List.getElem_cons_zero, List.setIfInBounds_toArray, List.set_cons_zero, List.set_cons_succ])
                refine wpTill_takeW (i := 28) (v := ?_) rfl (by kernel_rfl) (by kernel_rfl) (by kernel_rfl) (by kernel_rfl) (by kernel_rfl) (fun _ _ _ h => h) (Or.inl ⟨by rfl, ?_⟩) (by with_reducible assumption) ?_
                rotate_left
                · intro w hSw; (try dsimp only at hSw); (try go_split_ands); go_simp; (try with_reducible rfl)
                (try simp only [Act.put, List.getElem_toArray, List.getElem_cons_succ, List.getElem_cons_zero, List.setIfInBounds_toArray, List.set_cons_zero, List.set_cons_succ])
                refine wpTill_last (by kernel_rfl) ?_
                exact wpAny_18 hkey hHeld.2.2 (by kernel_rfl) (by kernel_rfl)
                -- }
              · have i1 : (1 : Int) ≤ (M : Int) := by omega
                have i2 : (M : Int) ≤ 60 := by omega
                obtain ⟨T, hT⟩ : ∃ T, T = takes M := ⟨_, rfl⟩
                obtain ⟨F, hF⟩ : ∃ F, s.fits M = F := ⟨_, rfl⟩
                have hF2 : decide (T ≤ s.n - s.used) = F := by rw [← hF, hT]; unfold RS.fits; simp; omega
                have hF3 : decide ((T : Int) ≤ ((s.n - s.used : Nat) : Int)) = F := by rw [← hF2]; simp only [Int.ofNat_le]
                have hTc := fun w => takes_any M (by omega) w
                rw [← hT] at hTc
                have hus := HC.out.run.ok.used
                have hn2 := HC.out.run.ok.n2
                have hwr : IntKind.i64.wrap (((s.n : Nat) : Int) - ((s.used : Nat) : Int)) = ((s.n - s.used : Nat) : Int) := (IntWalk.i64_left _).trans ((IntWalk.wrap64_in _ ⟨by omega, by omega⟩).trans (by omega))
                clear hT
                -- {
                refine wpTill_takeW (i := 0) (v := ?_) rfl (by kernel_rfl) (by kernel_rfl) (by kernel_rfl) (by kernel_rfl) (by kernel_rfl) (fun _ _ _ h => h) (Or.inl ⟨by rfl, ?_⟩) (by with_reducible assumption) ?_
                rotate_left
                · intro w hSw; (try dsimp only at hSw); (try go_split_ands); go_simp; (try with_reducible rfl)
                (try simp only [Act.put, List.getElem_toArray, List.getElem_cons_succ, List.getElem_cons_zero, List.setIfInBounds_toArray, List.set_cons_zero, List.set_cons_succ])
                refine wpTill_takeW (i := 1) (v := ?_) rfl (by kernel_rfl) (by kernel_rfl) (by kernel_rfl) (by kernel_rfl) (by kernel_rfl) (fun _ _ _ h => h) (Or.inl ⟨by rfl, ?_⟩) (by with_reducible assumption) ?_
                rotate_left
                · intro w hSw; (try dsimp only at hSw); (try go_split_ands); go_simp; (try with_reducible rfl)
                (try simp only [Act.put, List.getElem_toArray, List.getElem_cons_succ, List.getElem_cons_zero, List.setIfInBounds_toArray, List.set_cons_zero, List.set_cons_succ])
                refine wpTill_takeW (i := 2) (v := ?_) rfl (by kernel_rfl) (by kernel_rfl) (by kernel_rfl) (by kernel_rfl) (by kernel_rfl) (fun _ _ _ h => h) (Or.inl ⟨by rfl, ?_⟩) (by with_reducible assumption) ?_
                rotate_left
                · intro w hSw; (try dsimp only at hSw); (try go_split_ands); go_simp; (try with_reducible rfl)
                (try simp only [Act.put, List.getElem_toArray, List.getElem_cons_succ, List.getElem_cons_zero, List.setIfInBounds_toArray, List.set_cons_zero, List.set_cons_succ])
                refine wpTill_takeW (i := 4) (v := ?_) rfl (by kernel_rfl) (by kernel_rfl) (by kernel_rfl) (by kernel_rfl) (by kernel_rfl) (fun _ _ _ h => h) (Or.inl ⟨by rfl, ?_⟩) (by with_reducible assumption) ?_
                rotate_left
                · intro w hSw; (try dsimp only at hSw); (try go_split_ands); go_simp; (try with_reducible rfl)
                (try simp only [Act.put, List.getElem_toArray, List.getElem_cons_succ, List.getElem_cons_zero, List.setIfInBounds_toArray, List.set_cons_zero, List.set_cons_succ])
                refine wpTill_takeW (i := 5) (v := ?_) rfl (by kernel_rfl) (by kernel_rfl) (by kernel_rfl) (by kernel_rfl) (by kernel_rfl) (fun _ _ _ h => h) (Or.inl ⟨by rfl, ?_⟩) (by with_reducible assumption) ?_
                rotate_left
                · intro w hSw; (try dsimp only at hSw); (try go_split_ands); go_simp; (try with_reducible rfl)
                (try simp only [Act.put, List.getElem_toArray, List.getElem_cons_succ, List.getElem_cons_zero, List.setIfInBounds_toArray, List.set_cons_zero, List.set_cons_succ])
                refine wpTill_takeW (i := 6) (v := ?_) rfl (by kernel_rfl) (by kernel_rfl) (by kernel_rfl) (by kernel_rfl) (by kernel_rfl) (fun _ _ _ h => h) (Or.inl ⟨by rfl, ?_⟩) (by with_reducible assumption) ?_
                rotate_left
                · intro w hSw; (try dsimp only at hSw); (try go_split_ands); go_simp; (try with_reducible rfl)
                (try simp only [Act.put, List.getElem_toArray, List.getElem_cons_succ, List.getElem_cons_zero, List.setIfInBounds_toArray, List.set_cons_zero, List.set_cons_succ])
                refine wpTill_ready (rs := [3]) (by kernel_rfl) (by simp) ?_
                refine TillAll.cons rfl (fun K9 hK9 => ?_) TillAll.nil
                have hfit := fits_any (HC.out.run.rg.below hHeld.2.2) HC.out.run.ok M (by omega)
                rw [hF] at hfit
                go_simp
                go_wp2_with (go_at_call 22; (with_reducible refine hfit.mono ?_); rintro e w5 ⟨rfl, k5, hw5⟩; have hbx := hHeld.2.2.trans ((show Below _ _ w5 from hw5 ▸ drawn_below (Below.refl _ _) k5).mono hHeld.2.2.size); clear hw5)
                have HR5 := Lib.hid (HC.out.run.rr_.below hbx)
                refine hK9.out _ _ ⟨HR5.out.c2, HR5.out.c37 HC.out.run.ok.len, hbx⟩ (fun hHeld => ?_)
                clear hK9 K9 hfit hbx HR5
                (try simp only [Act.put, List.getElem_toArray, List.getElem_cons_succ, List.getElem_cons_zero, List.setIfInBounds_toArray, List.set_cons_zero, List.set_cons_succ])
                refine wpTill_takeW (i := 7) (v := ?_) rfl (by kernel_rfl) (by kernel_rfl) (by kernel_rfl) (by kernel_rfl) (by kernel_rfl) (fun _ _ _ h => h) (Or.inl ⟨by rfl, ?_⟩) (by with_reducible assumption) ?_
                rotate_left
                · intro w hSw; (try dsimp only at hSw); (try go_split_ands); go_simp; (try with_reducible rfl)
                (try simp only [Act.put, List.getElem_toArray, List.getElem_cons_succ, List.getElem_cons_zero, List.setIfInBounds_toArray, List.set_cons_zero, List.set_cons_succ])
                refine wpTill_takeW (i := 8) (v := ?_) rfl (by kernel_rfl) (by kernel_rfl) (by kernel_rfl) (by kernel_rfl) (by kernel_rfl) (fun _ _ _ h => h) (Or.inl ⟨by rfl, ?_⟩) (by with_reducible assumption) ?_
                rotate_left
                · intro w hSw; (try dsimp only at hSw); (try go_split_ands); go_simp; (try with_reducible rfl)
                (try simp only [Act.put, List.getElem_toArray, List.getElem_cons_succ, List.getElem_cons_zero, List.setIfInBounds_toArray, List.set_cons_zero, List.set_cons_succ])
                refine wpTill_takeW (i := 9) (v := ?_) rfl (by kernel_rfl) (by kernel_rfl) (by kernel_rfl) (by kernel_rfl) (by kernel_rfl) (fun _ _ _ h => h) (Or.inl ⟨by rfl, ?_⟩) (by with_reducible assumption) ?_
                rotate_left
                · intro w hSw; (try dsimp only at hSw); (try go_split_ands); go_simp; (try with_reducible rfl)
                (try simp only [Act.put, List.getElem_toArray, List.getElem_cons_succ, List.getElem_cons_zero, List.setIfInBounds_toArray, List.set_cons_zero, List.set_cons_succ])
                refine wpTill_takeW (i := 10) (v := ?_) rfl (by kernel_rfl) (by kernel_rfl) (by kernel_rfl) (by kernel_rfl) (by kernel_rfl) (fun _ _ _ h => h) (Or.inl ⟨by rfl, ?_⟩) (by with_reducible assumption) ?_
                rotate_left
                · intro w hSw; (try dsimp only at hSw); (try go_split_ands); go_simp; (try with_reducible rfl)
                (try simp only [Act.put, List.getElem_toArray, List.getElem_cons_succ, List.getElem_cons_zero, List.setIfInBounds_toArray, List.set_cons_zero, List.set_cons_succ])
                refine wpTill_takeW (i := 11) (v := ?_) rfl (by kernel_rfl) (by kernel_rfl) (by kernel_rfl) (by kernel_rfl) (by kernel_rfl) (fun _ _ _ h => h) (Or.inl ⟨by rfl, ?_⟩) (by with_reducible assumption) ?_
                rotate_left
                · intro w hSw; (try dsimp only at hSw); (try go_split_ands); go_simp; (try with_reducible rfl)
                (try simp only [Act.put, List.getElem_toArray, List.getElem_cons_succ, List.getElem_cons_zero, List.setIfInBounds_toArray, List.set_cons_zero, List.set_cons_succ])
                refine wpTill_takeW (i := 12) (v := ?_) rfl (by kernel_rfl) (by kernel_rfl) (by kernel_rfl) (by kernel_rfl) (by kernel_rfl) (fun _ _ _ h => h) (Or.inl ⟨by rfl, ?_⟩) (by with_reducible assumption) ?_
                rotate_left
                · intro w hSw; (try dsimp only at hSw); (try go_split_ands); go_simp; (try with_reducible rfl)
                (try simp only [Act.put, List.getElem_toArray, List.getElem_cons_succ, List.getElem_cons_zero, List.setIfInBounds_toArray, List.set_cons_zero, List.set_cons_succ])
                refine wpTill_takeW (i := 13) (v := ?_) rfl (by kernel_rfl) (by kernel_rfl) (by kernel_rfl) (by kernel_rfl) (by kernel_rfl) (fun _ _ _ h => h) (Or.inl ⟨by rfl, ?_⟩) (by with_reducible assumption) ?_
                rotate_left
                · intro w hSw; (try dsimp only at hSw); (try go_split_ands); go_simp; (try with_reducible rfl)
                (try simp only [Act.put, List.getElem_toArray, List.getElem_cons_succ, List.getElem_cons_zero, List.setIfInBounds_toArray, List.set_cons_zero, List.set_cons_succ])
                refine wpTill_takeW (i := 14) (v := ?_) rfl (by kernel_rfl) (by kernel_rfl) (by kernel_rfl) (by kernel_rfl) (by kernel_rfl) (fun _ _ _ h => h) (Or.inl ⟨by rfl, ?_⟩) (by with_reducible assumption) ?_
                rotate_left
                · intro w hSw; (try dsimp only at hSw); (try go_split_ands); go_simp; (try with_reducible rfl)
                (try simp only [Act.put, List.getElem_toArray, List.getElem_cons_succ, List.getElem_cons_zero, List.setIfInBounds_toArray, List.set_cons_zero, List.set_cons_succ])
                refine wpTill_takeW (i := 16) (v := ?_) rfl (by kernel_rfl) (by kernel_rfl) (by kernel_rfl) (by kernel_rfl) (by kernel_rfl) (fun _ _ _ h => h) (Or.inl ⟨by rfl, ?_⟩) (by with_reducible assumption) ?_
                rotate_left
                · intro w hSw; (try dsimp only at hSw); (try go_split_ands); go_simp; (try with_reducible rfl)
                (try simp only [Act.put, List.getElem_toArray, List.getElem_cons_succ, List.getElem_cons_zero, List.setIfInBounds_toArray, List.set_cons_zero, List.set_cons_succ])
                refine wpTill_takeW (i := 17) (v := ?_) rfl (by kernel_rfl) (by kernel_rfl) (by kernel_rfl) (by kernel_rfl) (by kernel_rfl) (fun _ _ _ h => h) (Or.inl ⟨by rfl, ?_⟩) (by with_reducible assumption) ?_
                rotate_left
                · intro w hSw; (try dsimp only at hSw); (try go_split_ands); go_simp; (try with_reducible rfl)
                (try simp only [Act.put, List.getElem_toArray, List.getElem_cons_succ, List.getElem_cons_zero, List.setIfInBounds_toArray, List.set_cons_zero, List.set_cons_succ])
                refine wpTill_takeW (i := 18) (v := ?_) rfl (by kernel_rfl) (by kernel_rfl) (by kernel_rfl) (by kernel_rfl) (by kernel_rfl) (fun _ _ _ h => h) (Or.inl ⟨by rfl, ?_⟩) (by with_reducible assumption) ?_
                rotate_left
                · intro w hSw; (try dsimp only at hSw); (try go_split_ands); go_simp; (try with_reducible rfl)
                (try simp only [Act.put, List.getElem_toArray, List.getElem_cons_succ, List.getElem_cons_zero, List.setIfInBounds_toArray, List.set_cons_zero, List.set_cons_succ])
                refine wpTill_takeW (i := 19) (v := ?_) rfl (by kernel_rfl) (by kernel_rfl) (by kernel_rfl) (by kernel_rfl) (by kernel_rfl) (fun _ _ _ h => h) (Or.inl ⟨by rfl, ?_⟩) (by with_reducible assumption) ?_
                rotate_left
                · intro w hSw; (try dsimp only at hSw); (try go_split_ands); go_simp; (try with_reducible rfl)
                (try simp only [Act.put, List.getElem_toArray, List.getElem_cons_succ, List.getElem_cons_zero, List.setIfInBounds_toArray, List.set_cons_zero, List.set_cons_succ])
                refine wpTill_takeW (i := 20) (v := ?_) rfl (by kernel_rfl) (by kernel_rfl) (by kernel_rfl) (by kernel_rfl) (by kernel_rfl) (fun _ _ _ h => h) (Or.inl ⟨by rfl, ?_⟩) (by with_reducible assumption) ?_
                rotate_left
                · intro w hSw; (try dsimp only at hSw); (try go_split_ands); go_simp; (try with_reducible rfl)
                (try simp only [Act.put, List.getElem_toArray, List.getElem_cons_succ, List.getElem_cons_zero, List.setIfInBounds_toArray, List.set_cons_zero, List.set_cons_succ])
                refine wpTill_takeW (i := 21) (v := ?_) rfl (by kernel_rfl) (by kernel_rfl) (by kernel_rfl) (by kernel_rfl) (by kernel_rfl) (fun _ _ _ h => h) (Or.inl ⟨by rfl, ?_⟩) (by with_reducible assumption) ?_
                rotate_left
                · intro w hSw; (try dsimp only at hSw); (try go_split_ands); go_simp; (try with_reducible rfl)
                (try simp only [Act.put, List.getElem_toArray, List.getElem_cons_succ, List.getElem_cons_zero, List.setIfInBounds_toArray, List.set_cons_zero, List.set_cons_succ])
                refine wpTill_takeW (i := 22) (v := ?_) rfl (by kernel_rfl) (by kernel_rfl) (by kernel_rfl) (by kernel_rfl) (by kernel_rfl) (fun _ _ _ h => h) (Or.inl ⟨by rfl, ?_⟩) (by with_reducible assumption) ?_
                rotate_left
                · intro w hSw; (try dsimp only at hSw); (try go_split_ands); go_simp; (try with_reducible rfl)
                (try simp only [Act.put, List.getElem_toArray, List.getElem_cons_succ, List.getElem_cons_zero, List.setIfInBounds_toArray, List.set_cons_zero, List.set_cons_succ])
                refine wpTill_takeW (i := 23) (v := ?_) rfl (by kernel_rfl) (by kernel_rfl) (by kernel_rfl) (by kernel_rfl) (by kernel_rfl) (fun _ _ _ h => h) (Or.inl ⟨by rfl, ?_⟩) (by with_reducible assumption) ?_
                rotate_left
                · intro w hSw; (try dsimp only at hSw); (try go_split_ands); go_simp; (try with_reducible rfl)
                (try simp only [Act.put, List.getElem_toArray, List.getElem_cons_succ, List.getElem_cons_zero, List.setIfInBounds_toArray, List.set_cons_zero, List.set_cons_succ])
                refine wpTill_takeW (i := 24) (v := ?_) rfl (by kernel_rfl) (by kernel_rfl) (by kernel_rfl) (by kernel_rfl) (by kernel_rfl) (fun _ _ _ h => h) (Or.inl ⟨by rfl, ?_⟩) (by with_reducible assumption) ?_
                rotate_left
                · intro w hSw; (try dsimp only at hSw); (try go_split_ands); go_simp; (try with_reducible rfl)
                (try simp only [Act.put, List.getElem_toArray, List.getElem_cons_succ, List.getElem_cons_zero, List.setIfInBounds_toArray, List.set_cons_zero, List.set_cons_succ])
                refine wpTill_ready (rs := [15]) (by kernel_rfl) (by simp) ?_
                refine TillAll.cons rfl (fun K9 hK9 => ?_) TillAll.nil
                go_simp
                go_wp2_with (go_at_call 23; (with_reducible refine (hTc _).mono ?_); rintro e w' ⟨rfl, hw'⟩; obtain rfl := hw'.symm)
                refine hK9.out _ _ hHeld (fun hHeld => ?_)
                clear hK9 K9
                (try simp only [Act.put, List.getElem_toArray, List.getElem_cons_succ, List.getElem_cons_zero, List.setIfInBounds_toArray, List.set_cons_zero, List.set_cons_succ])
                refine wpTill_takeW (i := 25) (v := ?_) rfl (by kernel_rfl) (by kernel_rfl) (by kernel_rfl) (by kernel_rfl) (by kernel_rfl) (fun _ _ _ h => h) (Or.inl ⟨by rfl, ?_⟩) (by with_reducible assumption) ?_
                rotate_left
                · intro w hSw; (try dsimp only at hSw); (try go_split_ands); go_simp; (try with_reducible rfl)
                (try simp only [Act.put, List.getElem_toArray, List.getElem_cons_succ, List.getElem_cons_zero, List.setIfInBounds_toArray, List.set_cons_zero, List.set_cons_succ])
                refine wpTill_takeW (i := 26) (v := ?_) rfl (by kernel_rfl) (by kernel_rfl) (by kernel_rfl) (by kernel_rfl) (by kernel_rfl) (fun _ _ _ h => h) (Or.inl ⟨by rfl, ?_⟩) (by with_reducible assumption) ?_
                rotate_left
                · intro w hSw; (try dsimp only at hSw); (try go_split_ands); go_simp; (try with_reducible rfl)
                (try simp only [Act.put, List.getElem_toArray, List.getElem_cons_succ, List.getElem_cons_zero, List.setIfInBounds_toArray, List.set_cons_zero, List.set_cons_succ])
                refine wpTill_takeW (i := 27) (v := ?_) rfl (by kernel_rfl) (by kernel_rfl) (by kernel_rfl) (by kernel_rfl) (by kernel_rfl) (fun _ _ _ h => h) (Or.inl ⟨by rfl, ?_⟩) (by with_reducible assumption) ?_
                rotate_left
                · intro w hSw; (try dsimp only at hSw); (try go_split_ands); go_simp; (try with_reducible rfl)
                (try simp only [Act.put, List.getElem_toArray, List.getElem_cons_succ, List.getElem_cons_zero, List.setIfInBounds_toArray, List.set_cons_zero, List.set_cons_succ])
                refine wpTill_takeW (i := 28) (v := ?_) rfl (by kernel_rfl) (by kernel_rfl) (by kernel_rfl) (by kernel_rfl) (by kernel_rfl) (fun _ _ _ h => h) (Or.inl ⟨by rfl, ?_⟩) (by with_reducible assumption) ?_
                rotate_left
                · intro w hSw; (try dsimp only at hSw); (try go_split_ands); go_simp; (try with_reducible rfl)
                (try simp only [Act.put, List.getElem_toArray, List.getElem_cons_succ, List.getElem_cons_zero, List.setIfInBounds_toArray, List.set_cons_zero, List.set_cons_succ])
                clear hTc hwr hF2 hF3 hus hn2
                refine wpTill_last (by kernel_rfl) ?_
                exact wpAny_18 hkey hHeld.2.2 (by kernel_rfl) (by kernel_rfl)
                -- }
        case rest =>
          obtain ⟨s1, d1, rfl, HD⟩ := hcut
          obtain ⟨w5, hw5⟩ : ∃ w : World, w = wc := ⟨_, rfl⟩
          subst hw5
          clear HC HE
          by_cases hjc : (j : Int) = cut
          · subst hjc
            have j8 : IntKind.u8.wrap (j : Int) = (j : Int) := by rw [IntKind.wrap_u8]; omega
            -- {
            have hcut5 := cut_any HD.out.rg HD.out.ok.len (dg7 j) (dg7_length j)
            go_upto_region 22 with (first
              | (refine wpList_build (by rfl) 23 #[(0, .tmp 169), (1, .const (.int .u8 7))] (by rfl) (nv .u8 (dg7 j)) (by exact built_dg7 j) ?_)
              | (go_at_call 28; (with_reducible refine hcut5.mono ?_); rintro e w6 ⟨⟨v6, rfl⟩, h6, hb6⟩; have H6 := Lib.hid (And.intro h6 hb6); clear h6 hb6))
            clear hcut5
            have hne := HD.out.ne
            have hrr6 : IsRg 68 w6 rr kb s1 := IsRg.but HD.out.rr_ H6.out.2 (fun e => hne e.symm)
            have hth : w6.there rr 5 32 := isBlk_there hrr6 5 32 (by rw [ringL_length HD.out.ok.len]; decide)
            have hst := IsRg.setLast hrr6 HD.out.ok.len (dg7_length j)
            have hbt : But (fun k => k = rr) w6 (w6.setCells rr 5 (bv (dg7 j))) := (But.refl (fun k => k = rr) w6).setCells (g := rr) rfl _ _
            have HS := Lib.hid (And.intro hst (And.intro hbt hth))
            clear hst hbt hth
            go_wp2_with (first
              | (refine wpList_build (by rfl) 23 #[(0, .tmp 175), (1, .const (.int .u8 7))] (by rfl) (nv .u8 (dg7 j)) (by exact built_dg7 j) ?_)
              | (refine wpList_store_mid (by rfl) 23 (.tmp 179) (.tmp 176) (by rfl) rr 5 (nv .u8 (dg7 j)) (by rfl) (by rfl) (by rw [nv_size, dg7_length]; exact HS.out.2.2) (by rw [nv_size, dg7_length]; kernel_rfl) (nv_one _ _) ?_; change wpList _ _ _ _ _ (World.setCells w6 rr 5 (bv (dg7 j))); have hS := HS.out; clear HS; generalize World.setCells w6 rr 5 (bv (dg7 j)) = w7 at hS ⊢; have HS7 := Lib.hid hS; have c37 := hS.1.c37 (dg7_length j); have z37 := IsBlk.fz hS.1 37; clear hS))
            have hu : IsRg 68 (w7.setCell ⟨rr, 37, none⟩ (.int .i64 0)) rr kb { s1 with last := dg7 j, used := 0 } := IsRg.setUsed HS7.out.1 (dg7_length j) 0
            have hb2 : But (fun k => k = rr) w6 (w7.setCell ⟨rr, 37, none⟩ (.int .i64 0)) := HS7.out.2.1.setCell (p := ⟨rr, 37, none⟩) rfl _
            have hri : RI (fun k => k = rb ∨ k = rr) B (w7.setCell ⟨rr, 37, none⟩ (.int .i64 0)) db kb d1 d1 := (HD.out.ri.but H6.out.2 (fun k hk => .inl hk)).but hb2 (fun k hk => .inr hk)
            have hbl : Below B w5 (w7.setCell ⟨rr, 37, none⟩ (.int .i64 0)) := (H6.out.2.below HD.out.e.hB (fun k hk => hk ▸ HD.out.hrb)).trans (hb2.below (Nat.le_trans HD.out.e.hB H6.out.2.size) (fun k hk => hk ▸ HD.out.hrr))
            have hrg : IsRg 100 (w7.setCell ⟨rr, 37, none⟩ (.int .i64 0)) rb db { s1 with last := dg7 j, used := 0 } := IsRg.but H6.out.1 hb2 hne
            have hok : RSok { s1 with last := dg7 j, used := 0 } 300 := ⟨HD.out.ok.n1, HD.out.ok.n2, HD.out.ok.fit, HD.out.ok.place, HD.out.ok.num, dg7_length j, dg7_byte (by omega), Nat.zero_le _⟩
            have HF := Lib.hid (show RunI W (w7.setCell ⟨rr, 37, none⟩ (.int .i64 0)) B db kb mb rb rr d1 (kk + 70) place num last { s1 with last := dg7 j, used := 0 } from ⟨HD.out.e.turn (hri.less (fun k hk => hk.elim)) HD.out.e.on HD.out.e.kk hbl, hri, hrg, hu, hok, HD.out.hrb, HD.out.hrr⟩)
            go_round
            case rel => exact ⟨j + 1, kk + 70, d1, _, by omega, by omega, by go_num, HF.out⟩
            case measure => simp [intOf]; omega
            -- }
          · skip
            -- {
            go_wp2_with fail
            go_round
            case rel => exact ⟨j + 1, kk + 70, d1, s1, by omega, by omega, by go_num, HD.out⟩
            case measure => simp [intOf]; omega
            -- }
      · obtain rfl : j = an := by omega
        go_wp2_with fail
        go_meet
        exact ⟨kk, d, HR.out.e⟩
  case rest =>
    obtain ⟨kk, d, HD⟩ := hcut
    rename_i K1 hK1
    refine hK1 _ _ ?_
    exact runs_pages HD
end Go.Proofs.YtkabkehfckbhcaaDoor
