/-
  ring: the reference's next, behind the tests of the head.
-/
import Derived.Test.YtkabkehfckbhcaaDoorZRgNx1
namespace Go.Proofs.YtkabkehfckbhcaaDoor
set_option linter.unusedVariables false
set_option linter.unusedSimpArgs false
open Go.RowKit

theorem recT_length {s : RS} {d : DK} {p : List Nat} (h : ∀ i, (s.sector d i).length = 64) (hl : s.last.length = 32) (j : Nat) : (recT s d p j).length ≤ 42 + 64 * j := by
  induction j with
  | zero => rw [recT_zero, List.length_append, List.length_take]; omega
  | succ j ih => rw [recT_succ, List.length_append, h]; omega
theorem drop_four (q : List Nat) (n : Nat) (h : n + 4 ≤ q.length) : (q.drop n).take 4 = [q.getD n 0, q.getD (n + 1) 0, q.getD (n + 2) 0, q.getD (n + 3) 0] := by
  have e : ∀ i, i < 4 → (q.drop n)[i]? = some (q.getD (n + i) 0) := fun i hi => by
    have hs : n + i < q.length := by omega
    rw [List.getElem?_drop, List.getElem?_eq_getElem hs]
    simp [List.getD, List.getElem?_eq_getElem hs]
  apply List.ext_getElem?
  intro i
  rw [List.getElem?_take]
  rcases i with _ | _ | _ | _ | i
  · rw [if_pos (by decide), e 0 (by decide)]; rfl
  · rw [if_pos (by decide), e 1 (by decide)]; rfl
  · rw [if_pos (by decide), e 2 (by decide)]; rfl
  · rw [if_pos (by decide), e 3 (by decide)]; rfl
  · rw [if_neg (by omega)]; rfl
set_option maxRecDepth 100000 in
set_option maxHeartbeats 20000000 in
theorem next_main {w w3 : World} {rr kb n kk rc sb pb k T : Nat} {s : RS} {d : DK} {p : List Nat} (HM : Hid (NxM w w3 rr kb s n kk d rc sb pb p k T)) (hk1 : 1 ≤ k) (hk60 : k ≤ 60) (hT2 : T ≤ 300) {u1 u7 u9 u10 u11 u12 u13 u14 u15 u16 u17 u18 u19 u20 u21 u22 u23 u24 u25 u26 u27 u28 u29 u30 u31 u32 u33 u34 u35 u36 u37 u38 u39 u40 u41 u42 u43 u44 u45 u46 u47 u48 u49 u50 u51 u52 u53 u54 u55 u56 u57 u58 u59 u60 u61 u62 u63 u64 u65 u66 u67 u68 u69 u70 u71 u72 u73 u74 u75 u76 u77 u78 u79 u80 u81 u82 u83 u84 u85 u86 u87 u88 u89 u90 u91 u92 u93 u94 u95 u96 u97 u98 u99 u100 u101 u102 u103 u104 u105 u106 u107 u108 u109 u110 u111 u112 u113 u114 u115 u116 u117 u118 u119 u120 u121 u122 u123 u124 u125 u126 u127 u128 u129 u130 u131 u132 u133 u134 u135 u136 u137 u138 u139 u140 u141 u142 u143 u144 u145 u146 u147 u148 u149 u150 u151 u152 u153 u154 u155 u156 u157 u158 u159 u160 u161 u162 u163 u164 u165 u166 u167 u168 u169 u170 u171 u172 u173 u174 u175 u176 u177 u178 u179 u180 u181 u182 u183 u184 u185 u186 u187 u188 : Value} :
    Code.wp Tryd.prog (restOf Tryd.f40 13) (bodyPost Tryd.prog Tryd.f40 (NextPost w s d)) ⟨(.pointer (some ⟨rr, 0, none⟩) :: u1 :: .slice none 0 0 :: .pointer (some ⟨rc, 0, none⟩) :: .int .i64 0 :: .pointer (some ⟨sb, 0, none⟩) :: .pointer (some ⟨pb, 0, none⟩) :: u7 :: .int .i64 ((k : Nat) : Int) :: u9 :: u10 :: u11 :: u12 :: u13 :: u14 :: u15 :: u16 :: u17 :: u18 :: u19 :: u20 :: u21 :: u22 :: u23 :: u24 :: u25 :: u26 :: u27 :: u28 :: u29 :: u30 :: u31 :: u32 :: u33 :: u34 :: u35 :: u36 :: u37 :: u38 :: u39 :: u40 :: u41 :: u42 :: u43 :: u44 :: u45 :: u46 :: u47 :: u48 :: u49 :: u50 :: u51 :: u52 :: u53 :: u54 :: u55 :: u56 :: u57 :: u58 :: u59 :: u60 :: u61 :: u62 :: u63 :: u64 :: u65 :: u66 :: u67 :: u68 :: u69 :: u70 :: u71 :: u72 :: u73 :: u74 :: u75 :: u76 :: u77 :: u78 :: u79 :: u80 :: u81 :: u82 :: u83 :: u84 :: u85 :: u86 :: u87 :: u88 :: u89 :: u90 :: u91 :: u92 :: u93 :: u94 :: u95 :: u96 :: u97 :: u98 :: u99 :: u100 :: u101 :: u102 :: u103 :: u104 :: u105 :: u106 :: u107 :: u108 :: u109 :: u110 :: u111 :: u112 :: u113 :: u114 :: u115 :: u116 :: u117 :: u118 :: u119 :: u120 :: u121 :: u122 :: u123 :: u124 :: u125 :: u126 :: u127 :: u128 :: u129 :: u130 :: u131 :: u132 :: u133 :: u134 :: u135 :: u136 :: u137 :: u138 :: u139 :: u140 :: u141 :: u142 :: u143 :: u144 :: u145 :: u146 :: u147 :: u148 :: u149 :: u150 :: u151 :: u152 :: u153 :: u154 :: u155 :: u156 :: u157 :: u158 :: u159 :: u160 :: u161 :: u162 :: u163 :: u164 :: u165 :: u166 :: u167 :: u168 :: u169 :: u170 :: u171 :: u172 :: u173 :: u174 :: u175 :: u176 :: u177 :: u178 :: u179 :: u180 :: u181 :: u182 :: u183 :: u184 :: u185 :: u186 :: u187 :: u188 :: []).toArray, []⟩ w3 := by
  conv => arg 2; whnf
  have e15 := tdiv16 k
  obtain ⟨Q, hQ⟩ : ∃ Q, Q = (k + 15) / 16 := ⟨_, rfl⟩
  rw [← hQ] at e15
  have hQ0 : Q ≤ 10 := by omega
  have HQ := Lib.hid hQ
  clear hQ
  obtain ⟨hb, hhb⟩ : ∃ hb, hb = w3.heap.size := ⟨_, rfl⟩
  have hrl := isBytes_range HM.out.h3.isrr.last HM.out.hx.ok.byte
  have HB := Lib.hid (And.intro hhb hrl)
  have HTE := Lib.hid HM.out.Te
  clear hhb hrl
  go_upto_region 15 with (at_builtin; refine wpList_app' rfl (.const (.slice none 0 0)) (.tmp 92) rfl hb (.slice none 0 0) [] rfl (Own.nil _ _) (some ⟨rr, 5, none⟩) 32 32 s.last rfl HM.out.hx.ok.len.symm HB.out.2 (by intro e; cases e) (by rw [HM.out.hx.ok.len]; decide) (by rw [HB.out.1]; exact Nat.le_refl _) ?_; intro v4 w4 ho4 hb4 hg4 hv4; simp only [List.nil_append] at ho4; have H4 := Lib.hid (And.intro ho4 hb4); clear ho4 hb4 hg4 hv4)
  obtain ⟨a4, n4, c4, e4, HL4⟩ := H4.out.1.slice
  subst e4
  have hb34 : Below w3.heap.size w3 w4 := by rw [← HB.out.1]; exact H4.out.2
  have hp4 := HM.out.pb3.below hb34 HM.out.pb3.lt
  have hbl4 : IsBytes w4 (some ⟨pb, 0, none⟩) (p.take 10) := isBytes_blk hp4 0 (fun c hc => HM.out.pbyte c (List.mem_of_mem_take hc)) (fun i hi => by rw [Nat.zero_add, List.getElem?_take]; rw [List.length_take] at hi; rw [if_pos (by omega)])
  have hpl : (p.take 10).length = 10 := by rw [List.length_take, HM.out.pl]; rfl
  have HP4 := Lib.hid (And.intro hbl4 hpl)
  clear hbl4 hpl hp4 hb34
  go_upto_region 16 with (at_builtin; refine wpList_app' rfl (.tmp 94) (.tmp 95) rfl hb (.slice a4 n4 c4) s.last rfl H4.out.1 (some ⟨pb, 0, none⟩) 10 64 (p.take 10) rfl HP4.out.2.symm HP4.out.1 (by intro e; cases e) (by rw [HM.out.hx.ok.len, HP4.out.2]; decide) (by have := H4.out.2.size; have := HB.out.1; omega) ?_; intro v5 w5 ho5 hb5 hg5 hv5; have H5 := Lib.hid (And.intro ho5 (H4.out.2.trans hb5)); clear ho5 hb5 hg5 hv5)
  obtain ⟨it, z, hi1, hi2, hi3, hi4, hi5⟩ := rch_typ
  have HI := Lib.hid (And.intro hi1 (And.intro hi2 (And.intro hi3 (And.intro hi4 hi5))))
  clear hi1 hi2 hi3 hi4 hi5
  go_upto_region 17 with (refine wpList_make_full w5 (by rfl) (.tmp 97) (.tmp 97) 44 (by rfl) w5.heap.size 93 it z 65 Tryd.underlying44 HI.out.1 HI.out.2.1 HI.out.2.2.1 .i64 .i64 _ _ k (by rfl) (by rfl) rfl rfl (by rw [HI.out.2.2.2.1]; omega) (by unfold maxLen; omega) (Nat.le_refl _) ?_; intro w6 q1 q2; have HMK := Lib.hid (And.intro q1 q2); clear q1 q2)
  have hrow : RowF w6 w5.heap.size 93 65 chF (.slice (some ⟨w5.heap.size, 0, none⟩) k k) (List.replicate k (0, zeroPg)) := RowF.made (by rfl) (by decide) HI.out.2.2.2.2 HMK.out.1
  have hb56 : Below w5.heap.size w5 w6 := (Below.refl _ _).grown HMK.out.2 (Nat.le_refl _) (fun k hk => by cases hk)
  have hs5 : hb ≤ w5.heap.size := by have := H5.out.2.size; have := HB.out.1; omega
  have hR6 : RecQ w3 w6 hb w5.heap.size v5 k (recT s d p 0) (recL s d k 0 0) := by
    rw [recT_zero, recL_none]
    exact ⟨(But.of_below (S := fun _ => False) hb56 (Nat.le_refl _)).own H5.out.1 (fun _ _ => id), hrow.mono hs5, H5.out.2.trans (hb56.mono hs5), HB.out.1.symm⟩
  have HR6 := Lib.hid hR6
  generalize w5.heap.size = lb at *
  clear hR6 hrow hb56 hs5 HMK HI H5 HP4 H4
  go_upto_block 2 with fail
  go_cut [12, 14] (fun v _ wx => Hid (RecQ w3 wx hb lb v k (recT s d p (T - 1)) (recL s d k k k)))
  case first =>
    have hT := fun w => takes_any k (by omega) w
    rw [← HTE.out] at hT
    have hT1 : 1 ≤ T := by rw [HTE.out]; exact takes_pos _
    go_wp2_with fail
    go_loopw [12, 14] (fun v i wr => ∃ j : Nat, j + 1 ≤ T ∧ i = .int .i64 ((j : Int) + 1) ∧ Hid (RecQ w3 wr hb lb v k (recT s d p j) (recL s d k (16 * j) (j - Q)))) (fun _ i _ => T - (intOf i).toNat)
    case atStart => exact ⟨0, by omega, rfl, by rw [Nat.zero_sub]; exact HR6.out⟩
    case round =>
      obtain ⟨j, hj, rfl, HR⟩ := hrel
      by_cases hjl : j + 1 < T
      · have jT : (j : Int) + 1 < (T : Int) := by omega
        go_upto_region 20 with (go_at_call 23; (with_reducible refine (hT _).mono ?_); rintro e w' ⟨rfl, hw'⟩; obtain rfl := hw'.symm)
        obtain ⟨q, hq⟩ : ∃ q, q = s.sector d (j + 1) := ⟨_, rfl⟩
        have hqs := HM.out.hx.sec (j + 1)
        rw [← hq] at hqs
        have HQS := Lib.hid (And.intro hq (And.intro hqs.2.1 hqs.2.2))
        clear hq hqs
        have hb3r : Below w3.heap.size w3 wr := by rw [HR.out.h0]; exact HR.out.bel
        have hrr := HM.out.h3.below hb3r
        have hat := rat_any hrr (j + 1)
        rw [← HQS.out.1, show ((s.place + (j + 1) : Nat) : Int) = (s.place : Int) + ((j : Int) + 1) by omega] at hat
        unfold pgV at hat
        have c3 := hrr.isrr.c3
        have hpl := HM.out.hx.ok.place
        have hn2 := HM.out.hx.ok.n2
        clear hrr hb3r
        go_upto_region 21 with (first
          | (go_at_call 51; (with_reducible refine hat.mono ?_); rintro e w7 ⟨rfl, hb7⟩; have H7 := Lib.hid hb7; clear hb7)
          | (refine wpList_alloc_info (by rfl) 48 (by rfl) (.agg (nv .u8 zeroPg)) (nv .u8 zeroPg) (by kernel_rfl) rfl ?_)
          | (refine wpList_store_row (by rfl) 48 (.tmp 15) (.tmp 115) (by rfl) _ (nv .u8 q) (by rfl) (by rfl) 48 (nv .u8 zeroPg) (heap_alloc_new _ _) (info_pg _ HQS.out.2.1) (by rw [nv_size, nv_size, HQS.out.2.1]; rfl) (nv_one _ _) ?_))
        clear hat c3
        have hv := pg_var w7 q
        generalize (w7.alloc (.cells (nv .u8 zeroPg) 48)).setRow w7.heap.size (nv .u8 q) = w8 at hv ⊢
        have hb8 : Below wr.heap.size wr w8 := H7.out.trans (hv.2.mono H7.out.size)
        have hR8 := HR.out.below hb8
        have hlq : lb < w7.heap.size := Nat.lt_of_lt_of_le HR.out.lt H7.out.size
        have hown7 : ∀ b, Value.ownBlock _ = some b → b < w7.heap.size := fun b hb => Nat.lt_of_lt_of_le (HR.out.own.lt b hb) H7.out.size
        obtain ⟨a8, n8, c8, e8, HL8⟩ := hR8.own.slice
        subst e8
        have H8 := Lib.hid (And.intro hv.1 (And.intro hR8 (And.intro hlq hown7)))
        clear hv hb8 hR8 hlq hown7
        generalize w7.heap.size = qb at H8 ⊢
        have hbl8 : IsBytes w8 (some ⟨qb, 0, none⟩) q := isBytes_blk (m := q) H8.out.1 0 HQS.out.2.2 (fun i hi => by rw [Nat.zero_add])
        have hLT : (recT s d p j).length ≤ 100000 := by
          have := recT_length (s := s) (d := d) (p := p) (fun i => (HM.out.hx.sec i).2.1) HM.out.hx.ok.len j
          omega
        have HBL := Lib.hid (And.intro hbl8 hLT)
        clear hbl8 hLT
        go_upto_region 22 with (at_builtin; refine wpList_app' rfl (.tmp 117) (.tmp 118) rfl hb (.slice a8 n8 c8) (recT s d p j) rfl H8.out.2.1.own (some ⟨qb, 0, none⟩) 64 64 q rfl HQS.out.2.1.symm HBL.out.1 (by intro e; cases e) (by have := HBL.out.2; rw [HQS.out.2.1]; omega) H8.out.2.1.hbw ?_; intro v9 w9 ho9 hb9 hg9 hv9; have hr9 := H8.out.2.1.app ho9 hb9 hg9; have hq9 : IsBlk w9 qb (nv .u8 q) 48 := H8.out.1.grown hg9 (fun e => by have h1 := H8.out.2.2.2 qb e; omega); rw [HQS.out.1, ← recT_succ] at hr9; have H9 := Lib.hid (And.intro hr9 hq9); clear ho9 hb9 hg9 hv9 hr9 hq9)
        by_cases hQj : Q ≤ j
        · -- {
          obtain ⟨c, rfl⟩ : ∃ c, j = Q + c := ⟨j - Q, by omega⟩
          have hTe := HTE.out
          unfold takes at hTe
          have hck : c < k := by have := HQ.out; omega
          have hch := chAt_snd s d k c
          rw [← HQ.out, ← HQS.out.1] at hch
          have hcc : Q + c - Q = c := by omega
          have hcc2 : Q + c + 1 - Q = c + 1 := by omega
          have hf := H9.out
          rw [hcc, recL_over s d k (16 * (Q + c)) (16 * (Q + c + 1)) c (by have := HQ.out; omega) (by have := HQ.out; omega)] at hf
          have HY := Lib.hid (recL_get s d k (16 * (Q + c + 1)) c c hck)
          have hth := hf.1.there HY.out
          have hst := hf.1.setWhat HY.out q HQS.out.2.1
          have hwt := recL_what s d k (16 * (Q + c + 1)) c hck
          rw [hch] at hwt
          rw [hwt] at hst
          have HS := Lib.hid (And.intro hst (And.intro (there_part hth.2 (i := 1) (m := 64) (by decide)) hf.2))
          have hcT : Hid (Q + c + 1 + 1 ≤ T ∧ Q + c + 1 - Q = c + 1) := Lib.hid ⟨by omega, hcc2⟩
          clear hch hcc hcc2 hf hth hst hTe hwt
          have hcc3 : Q + c + 1 - Q - 1 = c := by omega
          go_wp2_with (first
            | (refine wpList_load_row (by rfl) 48 (.tmp 15) (by rfl) qb (by rfl) 48 (nv .u8 q) (0, 0) _ HS.out.2.2 Tryd.underlying48 rfl (info_pg _ HQS.out.2.1) ?_)
            | (refine wpList_store_mid (by rfl) 48 (.tmp 130) (.tmp 128) (by rfl) lb (c * 65 + 1) (nv .u8 q) (by rfl) (by rfl) (by rw [nv_size, HQS.out.2.1]; exact HS.out.2.1) (info_pg _ HQS.out.2.1) (nv_one _ _) ?_))
          go_round
          case rel => exact ⟨Q + c + 1, hcT.out.1, by go_num, by rw [hcT.out.2]; exact HS.out.1⟩
          case measure => simp [intOf]; omega
          -- }
        · -- {
          have hQI : ¬ (Q : Int) < (j : Int) + 1 := by omega
          have hf := H9.out
          rw [show j - Q = 0 by omega] at hf
          have H10 := Lib.hid hf
          clear hf H9
          go_wp2_with fail
          go_loopw [17] (fun i wr2 => ∃ c : Nat, c ≤ 16 ∧ i = .int .i64 c ∧ Hid (RecQ w3 wr2 hb lb v9 k (recT s d p (j + 1)) (recL s d k (16 * j + c) 0) ∧ IsBlk wr2 qb (nv .u8 q) 48)) (fun i _ => 16 - (intOf i).toNat)
          case atStart => exact ⟨0, by omega, rfl, H10.out⟩
          case round =>
            obtain ⟨c, hc, rfl, HL⟩ := hrel
            by_cases hc16 : c < 16
            · have j1 : (c : Int) < 16 := by omega
              by_cases hck : 16 * j + c < k
              · have j2 : 16 * (j : Int) + (c : Int) < (k : Int) := by omega
                go_upto_region 28 with fail
                obtain ⟨b0, hb0⟩ : ∃ b, b = q.getD (4 * c) 0 := ⟨_, rfl⟩
                obtain ⟨b1, hb1⟩ : ∃ b, b = q.getD (4 * c + 1) 0 := ⟨_, rfl⟩
                obtain ⟨b2, hb2⟩ : ∃ b, b = q.getD (4 * c + 2) 0 := ⟨_, rfl⟩
                obtain ⟨b3, hb3⟩ : ∃ b, b = q.getD (4 * c + 3) 0 := ⟨_, rfl⟩
                have hlt : ∀ i, q.getD i 0 < 256 := fun i => by
                  rcases Nat.lt_or_ge i q.length with h | h
                  · rw [List.getD, List.getElem?_eq_getElem h]; exact HQS.out.2.2 _ (List.getElem_mem h)
                  · rw [List.getD, List.getElem?_eq_none h]; decide
                have q0 := HL.out.2.cell (4 * c) (nv_get .u8 q (4 * c) (by rw [HQS.out.2.1]; omega))
                have q1 := HL.out.2.cell (4 * c + 1) (nv_get .u8 q (4 * c + 1) (by rw [HQS.out.2.1]; omega))
                have q2 := HL.out.2.cell (4 * c + 2) (nv_get .u8 q (4 * c + 2) (by rw [HQS.out.2.1]; omega))
                have q3 := HL.out.2.cell (4 * c + 3) (nv_get .u8 q (4 * c + 3) (by rw [HQS.out.2.1]; omega))
                have l0 := hlt (4 * c)
                have l1 := hlt (4 * c + 1)
                have l2 := hlt (4 * c + 2)
                have l3 := hlt (4 * c + 3)
                rw [← hb0] at q0 l0
                rw [← hb1] at q1 l1
                rw [← hb2] at q2 l2
                rw [← hb3] at q3 l3
                have HBS := Lib.hid (And.intro hb0 (And.intro hb1 (And.intro hb2 hb3)))
                clear hlt hb0 hb1 hb2 hb3
                have x0 : 4 * (c : Int) < 64 := by omega
                have x1 : 4 * (c : Int) + 1 < 64 := by omega
                have x2 : 4 * (c : Int) + 2 < 64 := by omega
                have x3 : 4 * (c : Int) + 3 < 64 := by omega
                have y0 : (0 : Int) ≤ 4 * (c : Int) := by omega
                have y1 : (0 : Int) ≤ 4 * (c : Int) + 1 := by omega
                have y2 : (0 : Int) ≤ 4 * (c : Int) + 2 := by omega
                have y3 : (0 : Int) ≤ 4 * (c : Int) + 3 := by omega
                have t0 : (4 * (c : Int)).toNat = 4 * c := by omega
                have t1 : (4 * (c : Int) + 1).toNat = 4 * c + 1 := by omega
                have t2 : (4 * (c : Int) + 2).toNat = 4 * c + 2 := by omega
                have t3 : (4 * (c : Int) + 3).toNat = 4 * c + 3 := by omega
                have v1 : IntKind.i64.wrap (4 * (c : Int) + 1) = 4 * (c : Int) + 1 := IntWalk.i64_in _ ⟨by omega, by omega⟩
                have v2 : IntKind.i64.wrap (4 * (c : Int) + 2) = 4 * (c : Int) + 2 := IntWalk.i64_in _ ⟨by omega, by omega⟩
                have v3 : IntKind.i64.wrap (4 * (c : Int) + 3) = 4 * (c : Int) + 3 := IntWalk.i64_in _ ⟨by omega, by omega⟩
                have wj : IntKind.i64.wrap (j : Int) = (j : Int) := IntWalk.i64_in _ ⟨by omega, by omega⟩
                have w16 : IntKind.i64.wrap (16 * (j : Int)) = 16 * (j : Int) := IntWalk.i64_in _ ⟨by omega, by omega⟩
                have w16c : IntKind.i64.wrap (16 * (j : Int) + (c : Int)) = 16 * (j : Int) + (c : Int) := IntWalk.i64_in _ ⟨by omega, by omega⟩
                have wb0 : IntKind.i64.wrap (b0 : Int) = (b0 : Int) := IntWalk.i64_in _ ⟨by omega, by omega⟩
                have wb1 : IntKind.i64.wrap (b1 : Int) = (b1 : Int) := IntWalk.i64_in _ ⟨by omega, by omega⟩
                have wb2 : IntKind.i64.wrap (b2 : Int) = (b2 : Int) := IntWalk.i64_in _ ⟨by omega, by omega⟩
                have wb3 : IntKind.i64.wrap (b3 : Int) = (b3 : Int) := IntWalk.i64_in _ ⟨by omega, by omega⟩
                have wm1 : IntKind.i64.wrap ((b1 : Int) * 256) = (b1 : Int) * 256 := IntWalk.i64_in _ ⟨by omega, by omega⟩
                have wm2 : IntKind.i64.wrap ((b2 : Int) * 65536) = (b2 : Int) * 65536 := IntWalk.i64_in _ ⟨by omega, by omega⟩
                have wm3 : IntKind.i64.wrap ((b3 : Int) * 16777216) = (b3 : Int) * 16777216 := IntWalk.i64_in _ ⟨by omega, by omega⟩
                have ws1 : IntKind.i64.wrap ((b0 : Int) + (b1 : Int) * 256) = (b0 : Int) + (b1 : Int) * 256 := IntWalk.i64_in _ ⟨by omega, by omega⟩
                have ws2 : IntKind.i64.wrap ((b0 : Int) + (b1 : Int) * 256 + (b2 : Int) * 65536) = (b0 : Int) + (b1 : Int) * 256 + (b2 : Int) * 65536 := IntWalk.i64_in _ ⟨by omega, by omega⟩
                have ws3 : IntKind.i64.wrap ((b0 : Int) + (b1 : Int) * 256 + (b2 : Int) * 65536 + (b3 : Int) * 16777216) = (b0 : Int) + (b1 : Int) * 256 + (b2 : Int) * 65536 + (b3 : Int) * 16777216 := IntWalk.i64_in _ ⟨by omega, by omega⟩
                refine wp_region_till 31 (S := fun w' => w'.cell? ⟨qb, 4 * c, none⟩ = some (.int .u8 ((b0 : Nat) : Int)) ∧ w'.cell? ⟨qb, 4 * c + 1, none⟩ = some (.int .u8 ((b1 : Nat) : Int)) ∧ w'.cell? ⟨qb, 4 * c + 2, none⟩ = some (.int .u8 ((b2 : Nat) : Int)) ∧ w'.cell? ⟨qb, 4 * c + 3, none⟩ = some (.int .u8 ((b3 : Nat) : Int))) (by kernel_rfl) ⟨q0, q1, q2, q3⟩ (fun hHeld => ?_)
                clear q0 q1 q2 q3
                refine wpTill_take (i := 0) (v := ?_) rfl (by kernel_rfl) (by kernel_rfl) (by kernel_rfl) (by kernel_rfl) (fun _ _ _ h => h) (Or.inl ⟨by rfl, ?_⟩) (by with_reducible assumption) ?_
                rotate_left
                · intro w hSw; (try dsimp only at hSw); (try go_split_ands); go_simp; (try with_reducible rfl)
                (try simp only [Act.put, List.getElem_toArray, List.getElem_cons_succ, List.getElem_cons_zero, List.setIfInBounds_toArray, List.set_cons_zero, List.set_cons_succ])
                refine wpTill_take (i := 1) (v := ?_) rfl (by kernel_rfl) (by kernel_rfl) (by kernel_rfl) (by kernel_rfl) (fun _ _ _ h => h) (Or.inl ⟨by rfl, ?_⟩) (by with_reducible assumption) ?_
                rotate_left
                · intro w hSw; (try dsimp only at hSw); (try go_split_ands); go_simp; (try with_reducible rfl)
                (try simp only [Act.put, List.getElem_toArray, List.getElem_cons_succ, List.getElem_cons_zero, List.setIfInBounds_toArray, List.set_cons_zero, List.set_cons_succ])
                refine wpTill_take (i := 2) (v := ?_) rfl (by kernel_rfl) (by kernel_rfl) (by kernel_rfl) (by kernel_rfl) (fun _ _ _ h => h) (Or.inl ⟨by rfl, ?_⟩) (by with_reducible assumption) ?_
                rotate_left
                · intro w hSw; (try dsimp only at hSw); (try go_split_ands); go_simp; (try with_reducible rfl)
                (try simp only [Act.put, List.getElem_toArray, List.getElem_cons_succ, List.getElem_cons_zero, List.setIfInBounds_toArray, List.set_cons_zero, List.set_cons_succ])
                refine wpTill_take (i := 3) (v := ?_) rfl (by kernel_rfl) (by kernel_rfl) (by kernel_rfl) (by kernel_rfl) (fun _ _ _ h => h) (Or.inl ⟨by rfl, ?_⟩) (by with_reducible assumption) ?_
                rotate_left
                · intro w hSw; (try dsimp only at hSw); (try go_split_ands); go_simp; (try with_reducible rfl)
                (try simp only [Act.put, List.getElem_toArray, List.getElem_cons_succ, List.getElem_cons_zero, List.setIfInBounds_toArray, List.set_cons_zero, List.set_cons_succ])
                refine wpTill_take (i := 4) (v := ?_) rfl (by kernel_rfl) (by kernel_rfl) (by kernel_rfl) (by kernel_rfl) (fun _ _ _ h => h) (Or.inl ⟨by rfl, ?_⟩) (by with_reducible assumption) ?_
                rotate_left
                · intro w hSw; (try dsimp only at hSw); (try go_split_ands); go_simp; (try with_reducible rfl)
                (try simp only [Act.put, List.getElem_toArray, List.getElem_cons_succ, List.getElem_cons_zero, List.setIfInBounds_toArray, List.set_cons_zero, List.set_cons_succ])
                refine wpTill_take (i := 5) (v := ?_) rfl (by kernel_rfl) (by kernel_rfl) (by kernel_rfl) (by kernel_rfl) (fun _ _ _ h => h) (Or.inl ⟨by rfl, ?_⟩) (by with_reducible assumption) ?_
                rotate_left
                · intro w hSw; (try dsimp only at hSw); (try go_split_ands); go_simp; (try with_reducible rfl)
                (try simp only [Act.put, List.getElem_toArray, List.getElem_cons_succ, List.getElem_cons_zero, List.setIfInBounds_toArray, List.set_cons_zero, List.set_cons_succ])
                refine wpTill_take (i := 6) (v := ?_) rfl (by kernel_rfl) (by kernel_rfl) (by kernel_rfl) (by kernel_rfl) (fun _ _ _ h => h) (Or.inl ⟨by rfl, ?_⟩) (by with_reducible assumption) ?_
                rotate_left
                · intro w hSw; (try dsimp only at hSw); (try go_split_ands); go_simp; (try with_reducible rfl)
                (try simp only [Act.put, List.getElem_toArray, List.getElem_cons_succ, List.getElem_cons_zero, List.setIfInBounds_toArray, List.set_cons_zero, List.set_cons_succ])
                refine wpTill_take (i := 7) (v := ?_) rfl (by kernel_rfl) (by kernel_rfl) (by kernel_rfl) (by kernel_rfl) (fun _ _ _ h => h) (Or.inl ⟨by rfl, ?_⟩) (by with_reducible assumption) ?_
                rotate_left
                · intro w hSw; (try dsimp only at hSw); (try go_split_ands); go_simp; (try with_reducible rfl)
                (try simp only [Act.put, List.getElem_toArray, List.getElem_cons_succ, List.getElem_cons_zero, List.setIfInBounds_toArray, List.set_cons_zero, List.set_cons_succ])
                refine wpTill_take (i := 8) (v := ?_) rfl (by kernel_rfl) (by kernel_rfl) (by kernel_rfl) (by kernel_rfl) (fun _ _ _ h => h) (Or.inl ⟨by rfl, ?_⟩) (by with_reducible assumption) ?_
                rotate_left
                · intro w hSw; (try dsimp only at hSw); (try go_split_ands); go_simp; (try with_reducible rfl)
                (try simp only [Act.put, List.getElem_toArray, List.getElem_cons_succ, List.getElem_cons_zero, List.setIfInBounds_toArray, List.set_cons_zero, List.set_cons_succ])
                refine wpTill_take (i := 9) (v := ?_) rfl (by kernel_rfl) (by kernel_rfl) (by kernel_rfl) (by kernel_rfl) (fun _ _ _ h => h) (Or.inl ⟨by rfl, ?_⟩) (by with_reducible assumption) ?_
                rotate_left
                · intro w hSw; (try dsimp only at hSw); (try go_split_ands); go_simp; (try with_reducible rfl)
                (try simp only [Act.put, List.getElem_toArray, List.getElem_cons_succ, List.getElem_cons_zero, List.setIfInBounds_toArray, List.set_cons_zero, List.set_cons_succ])
                refine wpTill_take (i := 10) (v := ?_) rfl (by kernel_rfl) (by kernel_rfl) (by kernel_rfl) (by kernel_rfl) (fun _ _ _ h => h) (Or.inl ⟨by rfl, ?_⟩) (by with_reducible assumption) ?_
                rotate_left
                · intro w hSw; (try dsimp only at hSw); (try go_split_ands); go_simp; (try with_reducible rfl)
                (try simp only [Act.put, List.getElem_toArray, List.getElem_cons_succ, List.getElem_cons_zero, List.setIfInBounds_toArray, List.set_cons_zero, List.set_cons_succ])
                refine wpTill_take (i := 11) (v := ?_) rfl (by kernel_rfl) (by kernel_rfl) (by kernel_rfl) (by kernel_rfl) (fun _ _ _ h => h) (Or.inl ⟨by rfl, ?_⟩) (by with_reducible assumption) ?_
                rotate_left
                · intro w hSw; (try dsimp only at hSw); (try go_split_ands); go_simp; (try with_reducible rfl)
                (try simp only [Act.put, List.getElem_toArray, List.getElem_cons_succ, List.getElem_cons_zero, List.setIfInBounds_toArray, List.set_cons_zero, List.set_cons_succ])
                refine wpTill_take (i := 12) (v := ?_) rfl (by kernel_rfl) (by kernel_rfl) (by kernel_rfl) (by kernel_rfl) (fun _ _ _ h => h) (Or.inl ⟨by rfl, ?_⟩) (by with_reducible assumption) ?_
                rotate_left
                · intro w hSw; (try dsimp only at hSw); (try go_split_ands); go_simp; (try with_reducible rfl)
                (try simp only [Act.put, List.getElem_toArray, List.getElem_cons_succ, List.getElem_cons_zero, List.setIfInBounds_toArray, List.set_cons_zero, List.set_cons_succ])
                refine wpTill_take (i := 13) (v := ?_) rfl (by kernel_rfl) (by kernel_rfl) (by kernel_rfl) (by kernel_rfl) (fun _ _ _ h => h) (Or.inl ⟨by rfl, ?_⟩) (by with_reducible assumption) ?_
                rotate_left
                · intro w hSw; (try dsimp only at hSw); (try go_split_ands); go_simp; (try with_reducible rfl)
                (try simp only [Act.put, List.getElem_toArray, List.getElem_cons_succ, List.getElem_cons_zero, List.setIfInBounds_toArray, List.set_cons_zero, List.set_cons_succ])
                refine wpTill_take (i := 14) (v := ?_) rfl (by kernel_rfl) (by kernel_rfl) (by kernel_rfl) (by kernel_rfl) (fun _ _ _ h => h) (Or.inl ⟨by rfl, ?_⟩) (by with_reducible assumption) ?_
                rotate_left
                · intro w hSw; (try dsimp only at hSw); (try go_split_ands); go_simp; (try with_reducible rfl)
                (try simp only [Act.put, List.getElem_toArray, List.getElem_cons_succ, List.getElem_cons_zero, List.setIfInBounds_toArray, List.set_cons_zero, List.set_cons_succ])
                refine wpTill_take (i := 15) (v := ?_) rfl (by kernel_rfl) (by kernel_rfl) (by kernel_rfl) (by kernel_rfl) (fun _ _ _ h => h) (Or.inl ⟨by rfl, ?_⟩) (by with_reducible assumption) ?_
                rotate_left
                · intro w hSw; (try dsimp only at hSw); (try go_split_ands); go_simp; (try with_reducible rfl)
                (try simp only [Act.put, List.getElem_toArray, List.getElem_cons_succ, List.getElem_cons_zero, List.setIfInBounds_toArray, List.set_cons_zero, List.set_cons_succ])
                refine wpTill_take (i := 16) (v := ?_) rfl (by kernel_rfl) (by kernel_rfl) (by kernel_rfl) (by kernel_rfl) (fun _ _ _ h => h) (Or.inl ⟨by rfl, ?_⟩) (by with_reducible assumption) ?_
                rotate_left
                · intro w hSw; (try dsimp only at hSw); (try go_split_ands); go_simp; (try with_reducible rfl)
                (try simp only [Act.put, List.getElem_toArray, List.getElem_cons_succ, List.getElem_cons_zero, List.setIfInBounds_toArray, List.set_cons_zero, List.set_cons_succ])
                refine wpTill_take (i := 17) (v := ?_) rfl (by kernel_rfl) (by kernel_rfl) (by kernel_rfl) (by kernel_rfl) (fun _ _ _ h => h) (Or.inl ⟨by rfl, ?_⟩) (by with_reducible assumption) ?_
                rotate_left
                · intro w hSw; (try dsimp only at hSw); (try go_split_ands); go_simp; (try with_reducible rfl)
                (try simp only [Act.put, List.getElem_toArray, List.getElem_cons_succ, List.getElem_cons_zero, List.setIfInBounds_toArray, List.set_cons_zero, List.set_cons_succ])
                refine wpTill_take (i := 18) (v := ?_) rfl (by kernel_rfl) (by kernel_rfl) (by kernel_rfl) (by kernel_rfl) (fun _ _ _ h => h) (Or.inl ⟨by rfl, ?_⟩) (by with_reducible assumption) ?_
                rotate_left
                · intro w hSw; (try dsimp only at hSw); (try go_split_ands); go_simp; (try with_reducible rfl)
                (try simp only [Act.put, List.getElem_toArray, List.getElem_cons_succ, List.getElem_cons_zero, List.setIfInBounds_toArray, List.set_cons_zero, List.set_cons_succ])
                refine wpTill_take (i := 19) (v := ?_) rfl (by kernel_rfl) (by kernel_rfl) (by kernel_rfl) (by kernel_rfl) (fun _ _ _ h => h) (Or.inl ⟨by rfl, ?_⟩) (by with_reducible assumption) ?_
                rotate_left
                · intro w hSw; (try dsimp only at hSw); (try go_split_ands); go_simp; (try with_reducible rfl)
                (try simp only [Act.put, List.getElem_toArray, List.getElem_cons_succ, List.getElem_cons_zero, List.setIfInBounds_toArray, List.set_cons_zero, List.set_cons_succ])
                refine wpTill_take (i := 20) (v := ?_) rfl (by kernel_rfl) (by kernel_rfl) (by kernel_rfl) (by kernel_rfl) (fun _ _ _ h => h) (Or.inl ⟨by rfl, ?_⟩) (by with_reducible assumption) ?_
                rotate_left
                · intro w hSw; (try dsimp only at hSw); (try go_split_ands); go_simp; (try with_reducible rfl)
                (try simp only [Act.put, List.getElem_toArray, List.getElem_cons_succ, List.getElem_cons_zero, List.setIfInBounds_toArray, List.set_cons_zero, List.set_cons_succ])
                refine wpTill_take (i := 21) (v := ?_) rfl (by kernel_rfl) (by kernel_rfl) (by kernel_rfl) (by kernel_rfl) (fun _ _ _ h => h) (Or.inl ⟨by rfl, ?_⟩) (by with_reducible assumption) ?_
                rotate_left
                · intro w hSw; (try dsimp only at hSw); (try go_split_ands); go_simp; (try with_reducible rfl)
                (try simp only [Act.put, List.getElem_toArray, List.getElem_cons_succ, List.getElem_cons_zero, List.setIfInBounds_toArray, List.set_cons_zero, List.set_cons_succ])
                refine wpTill_take (i := 22) (v := ?_) rfl (by kernel_rfl) (by kernel_rfl) (by kernel_rfl) (by kernel_rfl) (fun _ _ _ h => h) (Or.inl ⟨by rfl, ?_⟩) (by with_reducible assumption) ?_
                rotate_left
                · intro w hSw; (try dsimp only at hSw); (try go_split_ands); go_simp; (try with_reducible rfl)
                (try simp only [Act.put, List.getElem_toArray, List.getElem_cons_succ, List.getElem_cons_zero, List.setIfInBounds_toArray, List.set_cons_zero, List.set_cons_succ])
                refine wpTill_take (i := 23) (v := ?_) rfl (by kernel_rfl) (by kernel_rfl) (by kernel_rfl) (by kernel_rfl) (fun _ _ _ h => h) (Or.inl ⟨by rfl, ?_⟩) (by with_reducible assumption) ?_
                rotate_left
                · intro w hSw; (try dsimp only at hSw); (try go_split_ands); go_simp; (try with_reducible rfl)
                (try simp only [Act.put, List.getElem_toArray, List.getElem_cons_succ, List.getElem_cons_zero, List.setIfInBounds_toArray, List.set_cons_zero, List.set_cons_succ])
                refine wpTill_take (i := 24) (v := ?_) rfl (by kernel_rfl) (by kernel_rfl) (by kernel_rfl) (by kernel_rfl) (fun _ _ _ h => h) (Or.inl ⟨by rfl, ?_⟩) (by with_reducible assumption) ?_
                rotate_left
                · intro w hSw; (try dsimp only at hSw); (try go_split_ands); go_simp; (try with_reducible rfl)
                (try simp only [Act.put, List.getElem_toArray, List.getElem_cons_succ, List.getElem_cons_zero, List.setIfInBounds_toArray, List.set_cons_zero, List.set_cons_succ])
                refine wpTill_take (i := 25) (v := ?_) rfl (by kernel_rfl) (by kernel_rfl) (by kernel_rfl) (by kernel_rfl) (fun _ _ _ h => h) (Or.inl ⟨by rfl, ?_⟩) (by with_reducible assumption) ?_
                rotate_left
                · intro w hSw; (try dsimp only at hSw); (try go_split_ands); go_simp; (try with_reducible rfl)
                (try simp only [Act.put, List.getElem_toArray, List.getElem_cons_succ, List.getElem_cons_zero, List.setIfInBounds_toArray, List.set_cons_zero, List.set_cons_succ])
                refine wpTill_take (i := 26) (v := ?_) rfl (by kernel_rfl) (by kernel_rfl) (by kernel_rfl) (by kernel_rfl) (fun _ _ _ h => h) (Or.inl ⟨by rfl, ?_⟩) (by with_reducible assumption) ?_
                rotate_left
                · intro w hSw; (try dsimp only at hSw); (try go_split_ands); go_simp; (try with_reducible rfl)
                (try simp only [Act.put, List.getElem_toArray, List.getElem_cons_succ, List.getElem_cons_zero, List.setIfInBounds_toArray, List.set_cons_zero, List.set_cons_succ])
                refine wpTill_take (i := 27) (v := ?_) rfl (by kernel_rfl) (by kernel_rfl) (by kernel_rfl) (by kernel_rfl) (fun _ _ _ h => h) (Or.inl ⟨by rfl, ?_⟩) (by with_reducible assumption) ?_
                rotate_left
                · intro w hSw; (try dsimp only at hSw); (try go_split_ands); go_simp; (try with_reducible rfl)
                (try simp only [Act.put, List.getElem_toArray, List.getElem_cons_succ, List.getElem_cons_zero, List.setIfInBounds_toArray, List.set_cons_zero, List.set_cons_succ])
                refine wpTill_take (i := 28) (v := ?_) rfl (by kernel_rfl) (by kernel_rfl) (by kernel_rfl) (by kernel_rfl) (fun _ _ _ h => h) (Or.inl ⟨by rfl, ?_⟩) (by with_reducible assumption) ?_
                rotate_left
                · intro w hSw; (try dsimp only at hSw); (try go_split_ands); go_simp; (try with_reducible rfl)
                (try simp only [Act.put, List.getElem_toArray, List.getElem_cons_succ, List.getElem_cons_zero, List.setIfInBounds_toArray, List.set_cons_zero, List.set_cons_succ])
                refine wpTill_take (i := 29) (v := ?_) rfl (by kernel_rfl) (by kernel_rfl) (by kernel_rfl) (by kernel_rfl) (fun _ _ _ h => h) (Or.inl ⟨by rfl, ?_⟩) (by with_reducible assumption) ?_
                rotate_left
                · intro w hSw; (try dsimp only at hSw); (try go_split_ands); go_simp; (try with_reducible rfl)
                (try simp only [Act.put, List.getElem_toArray, List.getElem_cons_succ, List.getElem_cons_zero, List.setIfInBounds_toArray, List.set_cons_zero, List.set_cons_succ])
                refine wpTill_take (i := 30) (v := ?_) rfl (by kernel_rfl) (by kernel_rfl) (by kernel_rfl) (by kernel_rfl) (fun _ _ _ h => h) (Or.inl ⟨by rfl, ?_⟩) (by with_reducible assumption) ?_
                rotate_left
                · intro w hSw; (try dsimp only at hSw); (try go_split_ands); go_simp; (try with_reducible rfl)
                (try simp only [Act.put, List.getElem_toArray, List.getElem_cons_succ, List.getElem_cons_zero, List.setIfInBounds_toArray, List.set_cons_zero, List.set_cons_succ])
                refine wpTill_last (by kernel_rfl) ?_
                clear hHeld x0 x1 x2 x3 y0 y1 y2 y3 t0 t1 t2 t3 v1 v2 v3 wj w16 w16c wb0 wb1 wb2 wb3 wm1 wm2 wm3 ws1 ws2 ws3
                have HY := Lib.hid (recL_get s d k (16 * j + c) 0 (16 * j + c) hck)
                have ht10 := HL.out.1.there HY.out
                have cz := range_chAt ht10.1
                have fz := (ht10.2 0 (by decide)).2
                rw [Nat.add_zero] at fz
                have tj : (16 * (j : Int) + (c : Int)).toNat = 16 * j + c := by omega
                have yj : (0 : Int) ≤ 16 * (j : Int) + (c : Int) := by omega
                have hch := chAt_fst s d k j c hc16
                rw [← HQS.out.1, drop_four q (4 * c) (by rw [HQS.out.2.1]; omega), ← HBS.out.1, ← HBS.out.2.1, ← HBS.out.2.2.1, ← HBS.out.2.2.2] at hch
                have hX : ((leN [b0, b1, b2, b3] : Nat) : Int) = (b0 : Int) + (b1 : Int) * 256 + (b2 : Int) * 65536 + (b3 : Int) * 16777216 := by simp only [leN]; omega
                rw [hX] at hch
                have hset := (HL.out.1.below ((Below.refl wr.heap.size wr).drew)).setAt HY.out ((b0 : Int) + (b1 : Int) * 256 + (b2 : Int) * 65536 + (b3 : Int) * 16777216)
                rw [← hch, recL_at _ _ _ _ _ hck, hch] at hset
                have hne : qb ≠ lb := by have := H8.out.2.2.1; omega
                have HS := Lib.hid (And.intro hset ((HL.out.2.drew).setOther ⟨lb, (16 * j + c) * 65, none⟩ (.int .i64 ((b0 : Int) + (b1 : Int) * 256 + (b2 : Int) * 65536 + (b3 : Int) * 16777216)) hne))
                clear ht10 hch hX hset hne
                refine wpAny_take (i := 31) (v := ?_) rfl (by kernel_rfl) (by kernel_rfl) (by kernel_rfl) (fun _ _ _ h => h) (Or.inl ⟨by rfl, ?_⟩) ?_
                rotate_left
                · intro w; go_simp; (try with_reducible rfl)
                (try simp only [Act.put, List.getElem_toArray, List.getElem_cons_succ, List.getElem_cons_zero, List.setIfInBounds_toArray, List.set_cons_zero, List.set_cons_succ])
                refine wpAny_take (i := 32) (v := ?_) rfl (by kernel_rfl) (by kernel_rfl) (by kernel_rfl) (fun _ _ _ h => h) (Or.inl ⟨by rfl, ?_⟩) ?_
                rotate_left
                · intro w; go_simp; (try with_reducible rfl)
                (try simp only [Act.put, List.getElem_toArray, List.getElem_cons_succ, List.getElem_cons_zero, List.setIfInBounds_toArray, List.set_cons_zero, List.set_cons_succ])
                refine wpAny_ready (rs := [33]) (by kernel_rfl) (by simp) ?_
                refine AllReady.cons rfl (fun K9 hK9 => ?_) AllReady.nil
                go_simp
                refine hK9 _ _ ?_
                clear hK9 K9 cz fz
                (try simp only [Act.put, List.getElem_toArray, List.getElem_cons_succ, List.getElem_cons_zero, List.setIfInBounds_toArray, List.set_cons_zero, List.set_cons_succ])
                refine wpAny_done (by kernel_rfl) ?_ _
                go_wp2_with fail
                go_round
                case rel => exact ⟨c + 1, by omega, by go_num, HS.out⟩
                case measure => simp [intOf]; omega
              · have j2 : ¬ 16 * (j : Int) + (c : Int) < (k : Int) := by omega
                have hf := HL.out.1
                rw [recL_over s d k (16 * j + c) (16 * (j + 1)) 0 (by omega) (by omega)] at hf
                have HF := Lib.hid hf
                clear hf
                go_wp2_with fail
                go_round
                case rel => exact ⟨j + 1, by omega, by go_num, by rw [show j + 1 - Q = 0 by omega]; exact HF.out⟩
                case measure => simp [intOf]; omega
            · obtain rfl : c = 16 := by omega
              have hf := HL.out.1
              rw [show 16 * j + 16 = 16 * (j + 1) by omega] at hf
              have HF := Lib.hid hf
              clear hf
              go_wp2_with fail
              go_round
              case rel => exact ⟨j + 1, by omega, by go_num, by rw [show j + 1 - Q = 0 by omega]; exact HF.out⟩
              case measure => simp [intOf]; omega
          -- }
      · obtain rfl : T = j + 1 := by omega
        have hfin := HR.out
        have hTe := HTE.out
        have hQe := HQ.out
        unfold takes at hTe
        rw [recL_over s d k (16 * j) k _ (by omega) (Nat.le_refl _), show j - Q = k by omega] at hfin
        have HF := Lib.hid hfin
        clear hfin hTe hQe
        go_wp2_with (go_at_call 23; (with_reducible refine (hT _).mono ?_); rintro e w' ⟨rfl, hw'⟩; obtain rfl := hw'.symm)
        go_meet
        exact HF.out
  case rest =>
    rename_i K1 hK1
    refine hK1 _ _ ?_
    exact next_end HM hk1 hcut (by
      have := recT_length (s := s) (d := d) (p := p) (fun i => (HM.out.hx.sec i).2.1) HM.out.hx.ok.len (T - 1)
      omega)
end Go.Proofs.YtkabkehfckbhcaaDoor
