/-
  ring: RingRuns: its end; the pages compared.
-/
import Derived.Test.YtkabkehfckbhcaaDoorZRgOpZ
import Derived.Test.YtkabkehfckbhcaaDoorZRgRunA
namespace Go.Proofs.YtkabkehfckbhcaaDoor
set_option linter.unusedVariables false
set_option linter.unusedSimpArgs false
open Go.RowKit

set_option maxRecDepth 100000 in
set_option maxHeartbeats 4000000 in
theorem runs_end {W w : World} {B db kb mb : Nat} {d : DK} {kk : Nat} {n place : Int} {num : Nat} {last : List Nat} (H : Hid (EndI W w B db kb mb d 300 kk place num last)) {u0 u1 u2 u4 u5 u6 u8 u10 u12 u13 u14 u15 u16 u17 u18 u19 u20 u21 u22 u23 u24 u25 u26 u27 u28 u29 u30 u31 u32 u33 u34 u35 u36 u37 u38 u39 u40 u41 u42 u43 u44 u45 u46 u47 u48 u49 u50 u51 u52 u53 u54 u55 u56 u57 u58 u59 u60 u61 u62 u63 u64 u65 u66 u67 u68 u69 u70 u71 u72 u73 u74 u75 u76 u77 u78 u79 u80 u81 u82 u83 u84 u85 u86 u87 u88 u89 u90 u91 u92 u93 u94 u95 u96 u97 u98 u99 u100 u101 u102 u103 u104 u105 u106 u107 u108 u109 u110 u111 u112 u113 u114 u115 u116 u117 u118 u119 u120 u121 u122 u123 u124 u125 u126 u127 u128 u129 u130 u131 u132 u133 u134 u135 u136 u137 u138 u139 u140 u141 u142 u143 u144 u145 u146 u147 u148 u149 u150 u151 u152 u153 u154 u155 u156 u157 u158 u159 u160 u161 u162 u163 u164 u165 u166 u167 u168 u169 u170 u171 u172 u173 u174 u175 u176 u177 u178 u179 u180 u181 u182 u183 u184 u185 u186 u187 u188 u189 u190 u191 u192 u193 u194 u195 u196 u197 u198 u199 u200 u201 u202 u203 u204 u205 u206 u207 u208 u209 u210 u211 u212 u213 u214 u215 u216 u217 u218 u219 u220 u221 u222 u223 u224 u225 u226 u227 : Value} :
    Code.wp Tryd.prog (restOf Tryd.f4 32) (bodyPost Tryd.prog Tryd.f4 (lawPost W)) ⟨(u0 :: u1 :: u2 :: .pointer (some ⟨mb, 0, none⟩) :: u4 :: u5 :: u6 :: .int .i64 n :: u8 :: .pointer (some ⟨db, 0, none⟩) :: u10 :: .pointer (some ⟨kb, 0, none⟩) :: u12 :: u13 :: u14 :: u15 :: u16 :: u17 :: u18 :: u19 :: u20 :: u21 :: u22 :: u23 :: u24 :: u25 :: u26 :: u27 :: u28 :: u29 :: u30 :: u31 :: u32 :: u33 :: u34 :: u35 :: u36 :: u37 :: u38 :: u39 :: u40 :: u41 :: u42 :: u43 :: u44 :: u45 :: u46 :: u47 :: u48 :: u49 :: u50 :: u51 :: u52 :: u53 :: u54 :: u55 :: u56 :: u57 :: u58 :: u59 :: u60 :: u61 :: u62 :: u63 :: u64 :: u65 :: u66 :: u67 :: u68 :: u69 :: u70 :: u71 :: u72 :: u73 :: u74 :: u75 :: u76 :: u77 :: u78 :: u79 :: u80 :: u81 :: u82 :: u83 :: u84 :: u85 :: u86 :: u87 :: u88 :: u89 :: u90 :: u91 :: u92 :: u93 :: u94 :: u95 :: u96 :: u97 :: u98 :: u99 :: u100 :: u101 :: u102 :: u103 :: u104 :: u105 :: u106 :: u107 :: u108 :: u109 :: u110 :: u111 :: u112 :: u113 :: u114 :: u115 :: u116 :: u117 :: u118 :: u119 :: u120 :: u121 :: u122 :: u123 :: u124 :: u125 :: u126 :: u127 :: u128 :: u129 :: u130 :: u131 :: u132 :: u133 :: u134 :: u135 :: u136 :: u137 :: u138 :: u139 :: u140 :: u141 :: u142 :: u143 :: u144 :: u145 :: u146 :: u147 :: u148 :: u149 :: u150 :: u151 :: u152 :: u153 :: u154 :: u155 :: u156 :: u157 :: u158 :: u159 :: u160 :: u161 :: u162 :: u163 :: u164 :: u165 :: u166 :: u167 :: u168 :: u169 :: u170 :: u171 :: u172 :: u173 :: u174 :: u175 :: u176 :: u177 :: u178 :: u179 :: u180 :: u181 :: u182 :: u183 :: u184 :: u185 :: u186 :: u187 :: u188 :: u189 :: u190 :: u191 :: u192 :: u193 :: u194 :: u195 :: u196 :: u197 :: u198 :: u199 :: u200 :: u201 :: u202 :: u203 :: u204 :: u205 :: u206 :: u207 :: u208 :: u209 :: u210 :: u211 :: u212 :: u213 :: u214 :: u215 :: u216 :: u217 :: u218 :: u219 :: u220 :: u221 :: u222 :: u223 :: u224 :: u225 :: u226 :: u227 :: []).toArray, []⟩ w := by
  conv => arg 2; whnf
  have hop := open_any (H.out.ri.dk.base (Nat.zero_le _)) H.out.on (by decide) H.out.mok 3 n place
  have hrop := fun w' (h : EndI W w' B db kb mb d 300 kk place num last) => ropen_any h.rd h.on (by decide) h.kk h.mok 3 n place
  have hfine := openL_fine H.out.on H.out.mok 3 n place
  generalize openL d 3 n place num last ((300 : Nat) : Int) = L at *
  generalize openE 3 n place ((300 : Nat) : Int) = E at *
  have HL := Lib.hid hfine
  have H0 := Lib.hid (And.intro (show w.heap[mb]? = some (.cells (.int .i64 place :: .int .u64 ((num : Nat) : Int) :: bv last).toArray 25 (0, 0)) from H.out.mbk) (mkv_info place ((num : Nat) : Int) last H.out.mok.len))
  unfold markV at hop
  clear hfine
  go_upto_region 33 with (first
    | (refine wpList_load_row (by rfl) 25 (.tmp 3) (by rfl) mb (by rfl) 25 _ (0, 0) _ H0.out.1 Tryd.underlying25 (by rfl) H0.out.2 ?_)
    | (go_at_call 18; (with_reducible refine hop.mono ?_); rintro e w1 ⟨p1, v1, ev1, rfl, hn1, ⟨vs1, hr1⟩, hb1⟩; have H1 := Lib.hid (And.intro hn1 (And.intro hr1 (H.out.below hb1))); clear hn1 hr1 hb1))
  clear hop
  have hma := mark_any w1 place ((num : Nat) : Int) last H.out.mok.len
  unfold markV at hma hrop
  have H2 := Lib.hid (And.intro (show w1.heap[mb]? = some (.cells (.int .i64 place :: .int .u64 ((num : Nat) : Int) :: bv last).toArray 25 (0, 0)) from H1.out.2.2.mbk) H0.out.2)
  go_upto_region 34 with (first
    | (refine wpList_load_row (by rfl) 25 (.tmp 3) (by rfl) mb (by rfl) 25 _ (0, 0) _ H2.out.1 Tryd.underlying25 (by rfl) H2.out.2 ?_)
    | (go_at_call 11; (with_reducible refine hma.mono ?_); rintro e w2 ⟨rfl, hb2⟩; have H3 := Lib.hid (And.intro (H1.out.1.below hb2) (And.intro (H1.out.2.1.below hb2) (H1.out.2.2.below hb2))); clear hb2)
    | (go_at_call 19; (with_reducible refine (hrop _ H3.out.2.2).mono ?_); rintro e w3 ⟨p3, v3, rfl, ⟨vs3, hr3⟩, hb3⟩; have H4 := Lib.hid (And.intro (H3.out.1.below hb3) (And.intro (H3.out.2.1.below hb3) (And.intro hr3 (H3.out.2.2.below hb3)))); clear hr3 hb3))
  clear hma hrop
  have hnum := num_is ev1 E w3 H4.out.2.2.2.et H4.out.1
  go_wp2_with (first
    | (go_at_call 20; (with_reducible refine hnum.mono ?_); rintro e w4 ⟨rfl, hb4⟩; have H5 := Lib.hid (And.intro (H4.out.2.1.below hb4) (And.intro (H4.out.2.2.1.below hb4) (H4.out.2.2.2.below hb4))); clear hb4)
    | (go_at_call 21; (with_reducible refine (same_any _ H5.out.1 H5.out.2.1 HL.out.1 HL.out.2).mono ?_); rintro e w5 ⟨rfl, hb5⟩; have H6 := Lib.hid (H5.out.2.2.below hb5); clear hb5))
  go_ret
  exact ⟨rfl, H6.out.bel⟩
set_option maxRecDepth 100000 in
set_option maxHeartbeats 4000000 in
theorem runs_pages {W w : World} {B db kb mb : Nat} {d : DK} {kk : Nat} {n place : Int} {num : Nat} {last : List Nat} (H : Hid (EndI W w B db kb mb d 300 kk place num last)) {u0 u1 u2 u4 u5 u6 u8 u10 u12 u13 u14 u15 u16 u17 u18 u19 u20 u21 u22 u23 u24 u25 u26 u27 u28 u29 u30 u31 u32 u33 u34 u35 u36 u37 u38 u39 u40 u41 u42 u43 u44 u45 u46 u47 u48 u49 u50 u51 u52 u53 u54 u55 u56 u57 u58 u59 u60 u61 u62 u63 u64 u65 u66 u67 u68 u69 u70 u71 u72 u73 u74 u75 u76 u77 u78 u79 u80 u81 u82 u83 u84 u85 u86 u87 u88 u89 u90 u91 u92 u93 u94 u95 u96 u97 u98 u99 u100 u101 u102 u103 u104 u105 u106 u107 u108 u109 u110 u111 u112 u113 u114 u115 u116 u117 u118 u119 u120 u121 u122 u123 u124 u125 u126 u127 u128 u129 u130 u131 u132 u133 u134 u135 u136 u137 u138 u139 u140 u141 u142 u143 u144 u145 u146 u147 u148 u149 u150 u151 u152 u153 u154 u155 u156 u157 u158 u159 u160 u161 u162 u163 u164 u165 u166 u167 u168 u169 u170 u171 u172 u173 u174 u175 u176 u177 u178 u179 u180 u181 u182 u183 u184 u185 u186 u187 u188 u189 u190 u191 u192 u193 u194 u195 u196 u197 u198 u199 u200 u201 u202 u203 u204 u205 u206 u207 u208 u209 u210 u211 u212 u213 u214 u215 u216 u217 u218 u219 u220 u221 u222 u223 u224 u225 u226 u227 : Value} :
    Code.wp Tryd.prog (restOf Tryd.f4 24) (bodyPost Tryd.prog Tryd.f4 (lawPost W)) ⟨(u0 :: u1 :: u2 :: .pointer (some ⟨mb, 0, none⟩) :: u4 :: u5 :: u6 :: .int .i64 n :: u8 :: .pointer (some ⟨db, 0, none⟩) :: u10 :: .pointer (some ⟨kb, 0, none⟩) :: u12 :: u13 :: u14 :: u15 :: u16 :: u17 :: u18 :: u19 :: u20 :: u21 :: u22 :: u23 :: u24 :: u25 :: u26 :: u27 :: u28 :: u29 :: u30 :: u31 :: u32 :: u33 :: u34 :: u35 :: u36 :: u37 :: u38 :: u39 :: u40 :: u41 :: u42 :: u43 :: u44 :: u45 :: u46 :: u47 :: u48 :: u49 :: u50 :: u51 :: u52 :: u53 :: u54 :: u55 :: u56 :: u57 :: u58 :: u59 :: u60 :: u61 :: u62 :: u63 :: u64 :: u65 :: u66 :: u67 :: u68 :: u69 :: u70 :: u71 :: u72 :: u73 :: u74 :: u75 :: u76 :: u77 :: u78 :: u79 :: u80 :: u81 :: u82 :: u83 :: u84 :: u85 :: u86 :: u87 :: u88 :: u89 :: u90 :: u91 :: u92 :: u93 :: u94 :: u95 :: u96 :: u97 :: u98 :: u99 :: u100 :: u101 :: u102 :: u103 :: u104 :: u105 :: u106 :: u107 :: u108 :: u109 :: u110 :: u111 :: u112 :: u113 :: u114 :: u115 :: u116 :: u117 :: u118 :: u119 :: u120 :: u121 :: u122 :: u123 :: u124 :: u125 :: u126 :: u127 :: u128 :: u129 :: u130 :: u131 :: u132 :: u133 :: u134 :: u135 :: u136 :: u137 :: u138 :: u139 :: u140 :: u141 :: u142 :: u143 :: u144 :: u145 :: u146 :: u147 :: u148 :: u149 :: u150 :: u151 :: u152 :: u153 :: u154 :: u155 :: u156 :: u157 :: u158 :: u159 :: u160 :: u161 :: u162 :: u163 :: u164 :: u165 :: u166 :: u167 :: u168 :: u169 :: u170 :: u171 :: u172 :: u173 :: u174 :: u175 :: u176 :: u177 :: u178 :: u179 :: u180 :: u181 :: u182 :: u183 :: u184 :: u185 :: u186 :: u187 :: u188 :: u189 :: u190 :: u191 :: u192 :: u193 :: u194 :: u195 :: u196 :: u197 :: u198 :: u199 :: u200 :: u201 :: u202 :: u203 :: u204 :: u205 :: u206 :: u207 :: u208 :: u209 :: u210 :: u211 :: u212 :: u213 :: u214 :: u215 :: u216 :: u217 :: u218 :: u219 :: u220 :: u221 :: u222 :: u223 :: u224 :: u225 :: u226 :: u227 :: []).toArray, []⟩ w := by
  conv => arg 2; whnf
  go_upto_block 2 with fail
  go_cut [183] (fun _ wx => Hid (EndI W wx B db kb mb d 300 kk place num last))
  case first =>
    go_wp2_with fail
    go_loopw [183] (fun i wr => ∃ j : Nat, j ≤ 300 ∧ i = .int .i64 j ∧ Hid (EndI W wr B db kb mb d 300 kk place num last)) (fun i _ => 300 - (intOf i).toNat)
    case atStart => exact ⟨0, by omega, rfl, H.out⟩
    case round =>
      obtain ⟨j, hj, rfl, HR⟩ := hrel
      by_cases hjl : j < 300
      · have j1 : (j : Int) < 300 := by omega
        have hrx := HR.out.ri.dk.read (j : Int)
        obtain ⟨p, hp⟩ : ∃ p, p = d.read (j : Int) := ⟨_, rfl⟩
        have hpl := (onB_read HR.out.on hjl).2.1
        rw [← hp] at hpl hrx
        have HP := Lib.hid (And.intro hpl hp)
        clear hpl hp
        go_upto_region 28 with (first
          | (go_at_call 17; (with_reducible refine hrx.mono ?_); rintro e w5 ⟨v5, rfl, -, hb5⟩; have H5 := Lib.hid hb5; clear hb5)
          | (refine wpList_alloc_info (by rfl) 48 (by rfl) (.agg (nv .u8 zeroPg)) (nv .u8 zeroPg) (by kernel_rfl) rfl ?_)
          | (refine wpList_store_row (by rfl) 48 (.tmp 23) (.tmp 190) (by rfl) _ (nv .u8 p) (by rfl) (by rfl) 48 (nv .u8 zeroPg) (heap_alloc_new _ _) (info_pg _ HP.out.1) (by rw [nv_size, nv_size, HP.out.1]; rfl) (nv_one _ _) ?_))
        have hv1 := pg_var w5 p
        generalize (w5.alloc (.cells (nv .u8 zeroPg) 48)).setRow w5.heap.size (nv .u8 p) = w6 at hv1 ⊢
        have hb6 := H5.out.trans (hv1.2.mono H5.out.size)
        have H6 := Lib.hid (And.intro hv1.1 (HR.out.below hb6))
        clear hv1 hb6 hrx H5
        generalize w5.heap.size = b1 at *
        have hry : Calls Tryd.prog 29 #[.pointer (some ⟨kb, 0, none⟩), .int .i64 (j : Int)] w6 fun e w' => e = .returned (.tuple #[pgV p, .int .i64 ((d.readE (j : Int) : Nat) : Int)]) ∧ Below w6.heap.size w6 w' := by
          obtain ⟨B', fb, cap, av, wv, hrd⟩ := H6.out.2.rd
          rw [HP.out.2]
          exact ref_read hrd (j : Int) (by have := H6.out.2.on.pl; have := H6.out.2.kk; omega)
        go_upto_region 29 with (first
          | (go_at_call 29; (with_reducible refine hry.mono ?_); rintro e w7 ⟨rfl, hb7⟩; have H7 := Lib.hid hb7; clear hb7)
          | (refine wpList_alloc_info (by rfl) 48 (by rfl) (.agg (nv .u8 zeroPg)) (nv .u8 zeroPg) (by kernel_rfl) rfl ?_)
          | (refine wpList_store_row (by rfl) 48 (.tmp 25) (.tmp 196) (by rfl) _ (nv .u8 p) (by rfl) (by rfl) 48 (nv .u8 zeroPg) (heap_alloc_new _ _) (info_pg _ HP.out.1) (by rw [nv_size, nv_size, HP.out.1]; rfl) (nv_one _ _) ?_))
        have hv2 := pg_var w7 p
        generalize (w7.alloc (.cells (nv .u8 zeroPg) 48)).setRow w7.heap.size (nv .u8 p) = w8 at hv2 ⊢
        have hb8 := H7.out.trans (hv2.2.mono H7.out.size)
        have H8 := Lib.hid (And.intro (H6.out.1.below hb8 H6.out.1.lt) (And.intro hv2.1 (H6.out.2.below hb8)))
        clear hv2 hb8 hry H7
        generalize w7.heap.size = b2 at *
        go_wp2_with (first
          | (refine wpList_load_row (by rfl) 48 (.tmp 23) (by rfl) b1 (by rfl) 48 (nv .u8 p) (0, 0) _ H8.out.1 Tryd.underlying48 rfl (info_pg _ HP.out.1) ?_)
          | (refine wpList_load_row (by rfl) 48 (.tmp 25) (by rfl) b2 (by rfl) 48 (nv .u8 p) (0, 0) _ H8.out.2.1 Tryd.underlying48 rfl (info_pg _ HP.out.1) ?_)
          | (refine wpList_neq_pg (by rfl) (.tmp 198) (.tmp 199) (by rfl) p p HP.out.1 HP.out.1 (by rfl) (by rfl) ?_; rw [beq_self_eq_true, Bool.not_true]))
        go_round
        case rel => exact ⟨j + 1, by omega, by go_num, H8.out.2.2⟩
        case measure => simp [intOf]; omega
      · obtain rfl : j = 300 := by omega
        go_wp2_with fail
        go_meet
        exact HR.out
  case rest =>
    rename_i K1 hK1
    refine hK1 _ _ ?_
    exact runs_end hcut
end Go.Proofs.YtkabkehfckbhcaaDoor
