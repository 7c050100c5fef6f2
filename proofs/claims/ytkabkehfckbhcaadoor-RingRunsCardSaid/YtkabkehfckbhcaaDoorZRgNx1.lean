/-
  ring: the reference's next, its end.
-/
import Derived.Test.YtkabkehfckbhcaaDoorZRgRefP
import Derived.Deep.DeepCutAuto
import Derived.Deep.CutBlock
import Derived.Deep.MidRow
import Derived.Deep.LoopGhost
namespace Go.Proofs.YtkabkehfckbhcaaDoor
set_option linter.unusedVariables false
set_option linter.unusedSimpArgs false
open Go.RowKit

/-- A digest laid into a variable. -/
theorem dg_laid {w : World} {pb : Nat} {q : List Nat} (h : IsBlk w pb (nv .u8 q) 23) (hq : q.length = 32) {p : List Nat} (hp : p.length = 32) : IsBlk (w.setCells pb 0 (bv p)) pb (nv .u8 p) 23 ∧ But (fun k => k = pb) w (w.setCells pb 0 (bv p)) ∧ w.there pb 0 32 := by
  have h' : IsBlk w pb (bv q).toArray 23 := h
  refine ⟨?_, (But.refl (fun k => k = pb) w).setCells (g := pb) rfl _ _, isBlk_there h' 0 32 (by rw [bv_length, hq]; decide)⟩
  refine isBlk_setCells (cs' := bv p) h' (fun i => ?_)
  rw [bv_length, bv_length, hp, hq]
  by_cases hi : i < 32
  · have c : i < 32 ∧ 0 ≤ i ∧ i < 0 + 32 := ⟨hi, by omega, by omega⟩
    rw [if_pos c, Nat.sub_zero]
  · have c : ¬ (i < 32 ∧ 0 ≤ i ∧ i < 0 + 32) := by omega
    rw [if_neg c, List.getElem?_eq_none (by rw [bv_length]; omega), List.getElem?_eq_none (by rw [bv_length]; omega)]
set_option maxRecDepth 100000 in
set_option maxHeartbeats 20000000 in
theorem next_end {w w3 w8 : World} {rr kb n kk rc sb pb k T hb lb : Nat} {s : RS} {d : DK} {p : List Nat} {v : Value} (HM : Hid (NxM w w3 rr kb s n kk d rc sb pb p k T)) (hk1 : 1 ≤ k) (HF : Hid (RecQ w3 w8 hb lb v k (recT s d p (T - 1)) (recL s d k k k))) (hlen : (recT s d p (T - 1)).length ≤ 100000) {u1 u7 u9 u10 u11 u14 u15 u16 u17 u18 u19 u20 u21 u22 u23 u24 u25 u26 u27 u28 u29 u30 u31 u32 u33 u34 u35 u36 u37 u38 u39 u40 u41 u42 u43 u44 u45 u46 u47 u48 u49 u50 u51 u52 u53 u54 u55 u56 u57 u58 u59 u60 u61 u62 u63 u64 u65 u66 u67 u68 u69 u70 u71 u72 u73 u74 u75 u76 u77 u78 u79 u80 u81 u82 u83 u84 u85 u86 u87 u88 u89 u90 u91 u92 u93 u94 u95 u96 u97 u98 u99 u100 u101 u102 u103 u104 u105 u106 u107 u108 u109 u110 u111 u112 u113 u114 u115 u116 u117 u118 u119 u120 u121 u122 u123 u124 u125 u126 u127 u128 u129 u130 u131 u132 u133 u134 u135 u136 u137 u138 u139 u140 u141 u142 u143 u144 u145 u146 u147 u148 u149 u150 u151 u152 u153 u154 u155 u156 u157 u158 u159 u160 u161 u162 u163 u164 u165 u166 u167 u168 u169 u170 u171 u172 u173 u174 u175 u176 u177 u178 u179 u180 u181 u182 u183 u184 u185 u186 u187 u188 : Value} :
    Code.wp Tryd.prog (restOf Tryd.f40 29) (bodyPost Tryd.prog Tryd.f40 (NextPost w s d)) ⟨(.pointer (some ⟨rr, 0, none⟩) :: u1 :: .slice none 0 0 :: .pointer (some ⟨rc, 0, none⟩) :: .int .i64 0 :: .pointer (some ⟨sb, 0, none⟩) :: .pointer (some ⟨pb, 0, none⟩) :: u7 :: .int .i64 ((k : Nat) : Int) :: u9 :: u10 :: u11 :: v :: .slice (some ⟨lb, 0, none⟩) k k :: u14 :: u15 :: u16 :: u17 :: u18 :: u19 :: u20 :: u21 :: u22 :: u23 :: u24 :: u25 :: u26 :: u27 :: u28 :: u29 :: u30 :: u31 :: u32 :: u33 :: u34 :: u35 :: u36 :: u37 :: u38 :: u39 :: u40 :: u41 :: u42 :: u43 :: u44 :: u45 :: u46 :: u47 :: u48 :: u49 :: u50 :: u51 :: u52 :: u53 :: u54 :: u55 :: u56 :: u57 :: u58 :: u59 :: u60 :: u61 :: u62 :: u63 :: u64 :: u65 :: u66 :: u67 :: u68 :: u69 :: u70 :: u71 :: u72 :: u73 :: u74 :: u75 :: u76 :: u77 :: u78 :: u79 :: u80 :: u81 :: u82 :: u83 :: u84 :: u85 :: u86 :: u87 :: u88 :: u89 :: u90 :: u91 :: u92 :: u93 :: u94 :: u95 :: u96 :: u97 :: u98 :: u99 :: u100 :: u101 :: u102 :: u103 :: u104 :: u105 :: u106 :: u107 :: u108 :: u109 :: u110 :: u111 :: u112 :: u113 :: u114 :: u115 :: u116 :: u117 :: u118 :: u119 :: u120 :: u121 :: u122 :: u123 :: u124 :: u125 :: u126 :: u127 :: u128 :: u129 :: u130 :: u131 :: u132 :: u133 :: u134 :: u135 :: u136 :: u137 :: u138 :: u139 :: u140 :: u141 :: u142 :: u143 :: u144 :: u145 :: u146 :: u147 :: u148 :: u149 :: u150 :: u151 :: u152 :: u153 :: u154 :: u155 :: u156 :: u157 :: u158 :: u159 :: u160 :: u161 :: u162 :: u163 :: u164 :: u165 :: u166 :: u167 :: u168 :: u169 :: u170 :: u171 :: u172 :: u173 :: u174 :: u175 :: u176 :: u177 :: u178 :: u179 :: u180 :: u181 :: u182 :: u183 :: u184 :: u185 :: u186 :: u187 :: u188 :: []).toArray, []⟩ w8 := by
  conv => arg 2; whnf
  obtain ⟨a, m, c, e, HLN⟩ := HF.out.own.slice
  subst e
  have hsum := sumR_any w8 a m c (recT s d p (T - 1)) HLN (HF.out.own.isB) HF.out.own.capz (by have := HLN.out; omega)
  have hDl : (digest (recT s d p (T - 1))).length = 32 := digest_length _
  have hDb : ∀ x ∈ digest (recT s d p (T - 1)), x < 256 := digest_lt _
  generalize hD : digest (recT s d p (T - 1)) = Dg at *
  have HDL := Lib.hid (And.intro hDl (And.intro hD hDb))
  clear hDl hD hDb
  have hb38 : Below w3.heap.size w3 w8 := by rw [HF.out.h0]; exact HF.out.bel
  have H8 := Lib.hid (And.intro (HM.out.sb3.below hb38 HM.out.sb3.lt) (And.intro (HM.out.rc3.below hb38 HM.out.rc3.lt) (And.intro (HM.out.pb3.below hb38 HM.out.pb3.lt) (HM.out.bel.trans (hb38.mono HM.out.bel.size)))))
  clear hb38
  go_upto_region 30 with (first
    | (go_at_call 33; (with_reducible refine hsum.mono ?_); rintro e w9 ⟨rfl, hb9⟩; have H9 := Lib.hid (And.intro hb9 (H8.out.1.below hb9 H8.out.1.lt)); clear hb9)
    | (refine wpList_store_row (by rfl) 23 (.tmp 5) (.tmp 180) (by rfl) sb (nv .u8 Dg) (by rfl) (by rfl) 23 (nv .u8 (List.replicate 32 0)) (by exact H9.out.2) (by rw [nv_size, HDL.out.1]; kernel_rfl) (by rw [nv_size, nv_size, HDL.out.1]; rfl) (nv_one _ _) ?_))
  change Code.wp _ _ _ _ (w9.setRow sb (nv .u8 Dg))
  have hbt : But (fun j => j = sb) w9 (w9.setRow sb (nv .u8 Dg)) := setRow_but _ _ _
  have hsz : w.heap.size ≤ w9.heap.size := Nat.le_trans H8.out.2.2.2.size H9.out.1.size
  have hbW : Below w.heap.size w (w9.setRow sb (nv .u8 Dg)) := (H8.out.2.2.2.trans (H9.out.1.mono H8.out.2.2.2.size)).trans (hbt.below hsz (fun j hj => hj ▸ HM.out.sbl))
  have hrow9 : RowF (w9.setRow sb (nv .u8 Dg)) hb 93 65 chF (.slice (some ⟨lb, 0, none⟩) k k) (recL s d k k k) := (HF.out.row.below H9.out.1).but hbt (fun j hj e => (HF.out.row.below H9.out.1).no_blk H9.out.2 (by decide) (by rw [hj, e]))
  have H10 := Lib.hid (And.intro (isBlk_setRow H9.out.2 (nv .u8 Dg)) (And.intro (hbt.blk (H8.out.2.1.below H9.out.1 H8.out.2.1.lt) HM.out.ne) (And.intro (hbt.blk (H8.out.2.2.1.below H9.out.1 H8.out.2.2.1.lt) HM.out.pb_ne.1) (And.intro hbW hrow9))))
  clear hbt hsz hbW hrow9 hsum
  generalize w9.setRow sb (nv .u8 Dg) = wA at H10 ⊢
  (try simp only [Act.put, List.getElem_toArray, List.getElem_cons_succ, List.getElem_cons_zero, List.setIfInBounds_toArray, List.set_cons_zero, List.set_cons_succ])
  go_cut [185] (fun b wx => b = .bool (!decide (Dg = (p.drop 10).take 32)) ∧ Hid (IsBlk wx sb (nv .u8 Dg) 23 ∧ IsBlk wx rc (nv .u8 (List.replicate 32 0)) 23 ∧ Below w.heap.size w wx ∧ RowF wx hb 93 65 chF (.slice (some ⟨lb, 0, none⟩) k k) (recL s d k k k)))
  case first =>
    refine wp_region_held_drew (S := fun w' => IsBlk w' sb (nv .u8 Dg) 23 ∧ IsBlk w' pb (nv .u8 p) 48) (by kernel_rfl) ⟨H10.out.1, H10.out.2.2.1⟩ (fun hHeld => ?_)
    refine wpAnyH_take (i := 0) (v := ?_) rfl (by kernel_rfl) (by kernel_rfl) (by kernel_rfl) (fun _ _ _ h => h) (Or.inl ⟨by rfl, ?_⟩) (by with_reducible assumption) ?_
    rotate_left
    · intro w hSw; (try dsimp only at hSw); (try go_split_ands); go_simp; (try with_reducible rfl)
    (try simp only [Act.put, List.getElem_toArray, List.getElem_cons_succ, List.getElem_cons_zero, List.setIfInBounds_toArray, List.set_cons_zero, List.set_cons_succ])
    refine wpAnyH_take (i := 1) (v := .string (strB Dg)) rfl (by kernel_rfl) (by kernel_rfl) (by kernel_rfl) (fun _ _ _ h => h) (Or.inl ⟨by rfl, ?_⟩) (by with_reducible assumption) ?_
    · intro w hSw
      have hc := conv_bytes (w := w) (a := some ⟨sb, 0, none⟩) (l := Dg) (n := 32) (cap := 32) (isBytes_row hSw.1 HDL.out.2.2) HDL.out.1.symm
      go_simp
    (try simp only [Act.put, List.getElem_toArray, List.getElem_cons_succ, List.getElem_cons_zero, List.setIfInBounds_toArray, List.set_cons_zero, List.set_cons_succ])
    refine wpAnyH_take (i := 2) (v := ?_) rfl (by kernel_rfl) (by kernel_rfl) (by kernel_rfl) (fun _ _ _ h => h) (Or.inl ⟨by rfl, ?_⟩) (by with_reducible assumption) ?_
    rotate_left
    · intro w hSw; (try dsimp only at hSw); (try go_split_ands); go_simp; (try with_reducible rfl)
    (try simp only [Act.put, List.getElem_toArray, List.getElem_cons_succ, List.getElem_cons_zero, List.setIfInBounds_toArray, List.set_cons_zero, List.set_cons_succ])
    have hql : ((p.drop 10).take 32).length = 32 := by rw [List.length_take, List.length_drop, HM.out.pl]; rfl
    have hqb : ∀ x ∈ (p.drop 10).take 32, x < 256 := fun x hx => HM.out.pbyte x (List.mem_of_mem_drop (List.mem_of_mem_take hx))
    refine wpAnyH_take (i := 3) (v := .string (strB ((p.drop 10).take 32))) rfl (by kernel_rfl) (by kernel_rfl) (by kernel_rfl) (fun _ _ _ h => h) (Or.inl ⟨by rfl, ?_⟩) (by with_reducible assumption) ?_
    · intro w hSw
      have hc := conv_bytes (w := w) (a := some ⟨pb, 10, none⟩) (l := (p.drop 10).take 32) (n := 32) (cap := 54) (isBytes_blk hSw.2 10 hqb (fun i hi => by rw [hql] at hi; rw [List.getElem?_take, if_pos hi, List.getElem?_drop])) hql.symm
      go_simp
    (try simp only [Act.put, List.getElem_toArray, List.getElem_cons_succ, List.getElem_cons_zero, List.setIfInBounds_toArray, List.set_cons_zero, List.set_cons_succ])
    have hbeq := strB_beq Dg ((p.drop 10).take 32) HDL.out.2.2 hqb
    refine wpAnyH_take (i := 4) (v := ?_) rfl (by kernel_rfl) (by kernel_rfl) (by kernel_rfl) (fun _ _ _ h => h) (Or.inl ⟨by rfl, ?_⟩) (by with_reducible assumption) ?_
    rotate_left
    · intro w hSw; (try dsimp only at hSw); (try go_split_ands); go_simp; (try with_reducible rfl)
    (try simp only [Act.put, List.getElem_toArray, List.getElem_cons_succ, List.getElem_cons_zero, List.setIfInBounds_toArray, List.set_cons_zero, List.set_cons_succ])
    refine wpAnyH_done (by kernel_rfl) ?_ _
    have HL := Lib.hid (And.intro H10.out.1.drew (And.intro H10.out.2.1.drew (And.intro (H10.out.2.2.2.1.drew) (H10.out.2.2.2.2.below ((Below.refl _ _).drew)))))
    clear hHeld
    go_wp2_with fail
    go_meet
    exact ⟨rfl, HL.out⟩
  case rest =>
    obtain ⟨rfl, HN⟩ := hcut
    obtain ⟨w10, hw10⟩ : ∃ w : World, w = wc := ⟨_, rfl⟩
    subst hw10
    have hlk := HM.out.lk
    rw [HDL.out.2.1] at hlk
    have hlay := dg_laid (w := w10.drew) HN.out.2.1.drew (by simp) HDL.out.1
    have hbf : Below w.heap.size w (w10.drew.setCells rc 0 (bv Dg)) := HN.out.2.2.1.drew.trans (hlay.2.1.below HN.out.2.2.1.size (fun j hj => hj ▸ HM.out.rcl))
    have hrow : RowF (w10.drew.setCells rc 0 (bv Dg)) hb 93 65 chF (.slice (some ⟨lb, 0, none⟩) k k) (recL s d k k k) := (HN.out.2.2.2.below ((Below.refl _ _).drew)).but hlay.2.1 (fun j hj e => (HN.out.2.2.2.below ((Below.refl _ _).drew)).no_blk HN.out.2.1.drew (by decide) (by rw [hj, e]))
    have hsb' : IsBlk (w10.drew.setCells rc 0 (bv Dg)) sb (nv .u8 Dg) 23 := hlay.2.1.blk HN.out.1.drew (fun e => HM.out.ne e.symm)
    have HL := Lib.hid (And.intro hlay.1 (And.intro hbf hrow))
    have HTH := Lib.hid hlay.2.2
    clear hlay hbf hrow
    by_cases hE : Dg = (p.drop 10).take 32
    · rw [if_pos hE] at hlk
      rw [decide_eq_true hE, Bool.not_true]
      have HLK := Lib.hid hlk
      clear hlk hE
      go_upto_region 32 with fail
      refine wp_region_held_drew (S := fun w' => IsBlk w' sb (nv .u8 Dg) 23) (by kernel_rfl) HN.out.1.drew (fun hHeld => ?_)
      refine wpAnyH_take (i := 0) (v := ?_) rfl (by kernel_rfl) (by kernel_rfl) (by kernel_rfl) (fun _ _ _ h => h) (Or.inl ⟨by rfl, ?_⟩) (by with_reducible assumption) ?_
      rotate_left
      · intro w hSw; (try dsimp only at hSw); (try go_split_ands); go_simp; (try with_reducible rfl)
      (try simp only [Act.put, List.getElem_toArray, List.getElem_cons_succ, List.getElem_cons_zero, List.setIfInBounds_toArray, List.set_cons_zero, List.set_cons_succ])
      refine wpAnyH_take (i := 1) (v := .agg (bv Dg).toArray) rfl (by kernel_rfl) (by kernel_rfl) (by kernel_rfl) (fun _ _ _ h => h) (yieldsIf_load_mid (by rfl) 23 (.tmp 5) (by rfl) sb 0 (by rfl) (bv Dg) _ (fun w hS => range_blk hS) Tryd.underlying23 rfl (by rw [bv_length, HDL.out.1]; kernel_rfl)) (by with_reducible assumption) ?_
      (try simp only [Act.put, List.getElem_toArray, List.getElem_cons_succ, List.getElem_cons_zero, List.setIfInBounds_toArray, List.set_cons_zero, List.set_cons_succ])
      refine wpAnyH_take (i := 2) (v := ?_) rfl (by kernel_rfl) (by kernel_rfl) (by kernel_rfl) (fun _ _ _ h => h) (Or.inl ⟨by rfl, ?_⟩) (by with_reducible assumption) ?_
      rotate_left
      · intro w hSw; (try dsimp only at hSw); (try go_split_ands); go_simp; (try with_reducible rfl)
      (try simp only [Act.put, List.getElem_toArray, List.getElem_cons_succ, List.getElem_cons_zero, List.setIfInBounds_toArray, List.set_cons_zero, List.set_cons_succ])
      refine wpAnyH_ready (rs := [3]) (by kernel_rfl) (by simp) ?_
      refine AllReadyH.cons rfl (fun K9 hK9 => ?_) AllReadyH.nil
      rw [if_pos (by rfl)]
      simp only [List.getElem_toArray, List.getElem_cons_succ, List.getElem_cons_zero]
      refine wp_store_mid 23 (.tmp 3) (.tmp 188) (by rfl) rc 0 (bv Dg).toArray (by rfl) (by rfl) (by rw [List.size_toArray, bv_length, HDL.out.1]; exact HTH.out) (by rw [List.size_toArray, bv_length, HDL.out.1]; kernel_rfl) (all_oneCell_toArray (bv_one _)) ?_
      refine hK9.out _ _ hsb' (fun hHeld => ?_)
      clear hK9 K9 hsb'
      (try simp only [Act.put, List.getElem_toArray, List.getElem_cons_succ, List.getElem_cons_zero, List.setIfInBounds_toArray, List.set_cons_zero, List.set_cons_succ])
      refine wpAnyH_take (i := 4) (v := ?_) rfl (by kernel_rfl) (by kernel_rfl) (by kernel_rfl) (fun _ _ _ h => h) (Or.inl ⟨by rfl, ?_⟩) (by with_reducible assumption) ?_
      rotate_left
      · intro w hSw; (try dsimp only at hSw); (try go_split_ands); go_simp; (try with_reducible rfl)
      (try simp only [Act.put, List.getElem_toArray, List.getElem_cons_succ, List.getElem_cons_zero, List.setIfInBounds_toArray, List.set_cons_zero, List.set_cons_succ])
      refine wpAnyH_done (by kernel_rfl) ?_ _
      clear hHeld
      change Exit.then _ _ _ _ (w10.drew.setCells rc 0 (bv Dg))
      generalize w10.drew.setCells rc 0 (bv Dg) = wz at HL ⊢
      go_wp2_with fail
      refine next_ret HDL.out.1 HL.out.1 (v := .slice (some ⟨lb, 0, none⟩) k k) (x := .int .i64 0) rfl rfl rfl rfl ⟨HL.out.2.1, _, _, rfl, HDL.out.1, .inr ⟨?_, ?_, ?_⟩⟩
      · rw [HLK.out]; intro e; have := congrArg List.length e; simp at this; omega
      · rw [HLK.out]
        have h1 := HL.out.2.2
        rw [recL_full _ _ _ _ _ (Nat.le_refl _) (Nat.le_refl _)] at h1
        exact h1.mono (by rw [← HF.out.h0]; exact HM.out.bel.size)
      · rw [HLK.out]
    · rw [if_neg hE] at hlk
      rw [decide_eq_false hE, Bool.not_false]
      have HLK := Lib.hid hlk
      clear hlk hE
      go_upto_region 31 with fail
      refine wp_region_held_drew (S := fun w' => IsBlk w' sb (nv .u8 Dg) 23) (by kernel_rfl) HN.out.1.drew (fun hHeld => ?_)
      refine wpAnyH_take (i := 0) (v := .agg (bv Dg).toArray) rfl (by kernel_rfl) (by kernel_rfl) (by kernel_rfl) (fun _ _ _ h => h) (yieldsIf_load_mid (by rfl) 23 (.tmp 5) (by rfl) sb 0 (by rfl) (bv Dg) _ (fun w hS => range_blk hS) Tryd.underlying23 rfl (by rw [bv_length, HDL.out.1]; kernel_rfl)) (by with_reducible assumption) ?_
      (try simp only [Act.put, List.getElem_toArray, List.getElem_cons_succ, List.getElem_cons_zero, List.setIfInBounds_toArray, List.set_cons_zero, List.set_cons_succ])
      refine wpAnyH_take (i := 1) (v := ?_) rfl (by kernel_rfl) (by kernel_rfl) (by kernel_rfl) (fun _ _ _ h => h) (Or.inl ⟨by rfl, ?_⟩) (by with_reducible assumption) ?_
      rotate_left
      · intro w hSw; (try dsimp only at hSw); (try go_split_ands); go_simp; (try with_reducible rfl)
      (try simp only [Act.put, List.getElem_toArray, List.getElem_cons_succ, List.getElem_cons_zero, List.setIfInBounds_toArray, List.set_cons_zero, List.set_cons_succ])
      refine wpAnyH_ready (rs := [2]) (by kernel_rfl) (by simp) ?_
      refine AllReadyH.cons rfl (fun K9 hK9 => ?_) AllReadyH.nil
      rw [if_pos (by rfl)]
      simp only [List.getElem_toArray, List.getElem_cons_succ, List.getElem_cons_zero]
      refine wp_store_mid 23 (.tmp 3) (.tmp 186) (by rfl) rc 0 (bv Dg).toArray (by rfl) (by rfl) (by rw [List.size_toArray, bv_length, HDL.out.1]; exact HTH.out) (by rw [List.size_toArray, bv_length, HDL.out.1]; kernel_rfl) (all_oneCell_toArray (bv_one _)) ?_
      refine hK9.out _ _ hsb' (fun hHeld => ?_)
      clear hK9 K9 hsb'
      (try simp only [Act.put, List.getElem_toArray, List.getElem_cons_succ, List.getElem_cons_zero, List.setIfInBounds_toArray, List.set_cons_zero, List.set_cons_succ])
      refine wpAnyH_take (i := 3) (v := ?_) rfl (by kernel_rfl) (by kernel_rfl) (by kernel_rfl) (fun _ _ _ h => h) (Or.inl ⟨by rfl, ?_⟩) (by with_reducible assumption) ?_
      rotate_left
      · intro w hSw; (try dsimp only at hSw); (try go_split_ands); go_simp; (try with_reducible rfl)
      (try simp only [Act.put, List.getElem_toArray, List.getElem_cons_succ, List.getElem_cons_zero, List.setIfInBounds_toArray, List.set_cons_zero, List.set_cons_succ])
      refine wpAnyH_done (by kernel_rfl) ?_ _
      clear hHeld
      change Exit.then _ _ _ _ (w10.drew.setCells rc 0 (bv Dg))
      generalize w10.drew.setCells rc 0 (bv Dg) = wz at HL ⊢
      go_wp2_with fail
      exact next_ret HDL.out.1 HL.out.1 (v := .slice none 0 0) (x := .int .i64 0) rfl rfl rfl rfl ⟨HL.out.2.1, _, _, rfl, HDL.out.1, .inl ⟨by rw [HLK.out], rfl⟩⟩
end Go.Proofs.YtkabkehfckbhcaaDoor
