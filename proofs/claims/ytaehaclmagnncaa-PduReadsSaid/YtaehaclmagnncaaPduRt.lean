-- slots 178
/-
  pdu: the reference's Next, whole (2).
-/
import Derived.Test.YtaehaclmagnncaaPduRs
namespace Go.Proofs.Ytaehaclmagnncaa
set_option linter.unusedVariables false
set_option linter.unusedSimpArgs false
open Go.RowKit
attribute [local go_sem ↓] Go.wp_at_zero Go.wp_at_succ

set_option maxRecDepth 100000 in
set_option maxHeartbeats 2000000 in
theorem rxt_8 {w wx : World} {B rb R g n cap an dn hd : Nat} {l : List Nat} {h d : Bool} (hx : Ny w wx B rb R (.slice (some ⟨g, 0, none⟩) n cap) l) (hH : Head l n an dn hd) (h48 : 48 ≤ n) (hdm : dn < 16777216) (hnc : n ≤ cap) (hlm : cap ≤ 9223372036854775807) (hl47 : n ≤ 140737488355328) (hB : B ≤ w.heap.size) {u3 u4 u5 u7 u11 u12 u13 u14 u15 u16 u17 u18 u19 u20 u21 u22 u23 u24 u25 u26 u27 u28 u29 u30 u31 u32 u33 u34 u35 u36 u37 u38 u39 u40 u41 u42 u43 u44 u45 u46 u47 u48 u49 u50 u51 u52 u53 u54 u55 u56 u57 u58 u59 u60 u61 u62 u63 u64 u65 u66 u67 u68 u69 u70 u71 u72 u73 u74 u75 u76 u77 u78 u79 u80 u81 u82 u83 u84 u85 u86 u87 u88 u89 u90 u91 u92 u93 u94 u95 u96 u97 u98 u99 u100 u101 u102 u103 u104 u105 u106 u107 u108 u109 u110 u111 u112 u113 u114 u115 u116 u117 u118 u119 u120 u121 u122 u123 u124 u125 u126 u127 u128 u129 u130 u131 u132 u133 u134 u135 u136 u137 u138 u139 u140 u141 u142 u143 u144 u145 u146 u147 u148 u149 u150 u151 u152 u153 u154 u155 u156 u157 u158 u159 u160 u161 u162 u163 u164 u165 u166 u167 u168 u169 u170 u171 u172 u173 u174 u175 u176 u177 : Value} :
    Code.wp Try.prog (restOf Try.f17 8) (bodyPost Try.prog Try.f17 (NextRr w B rb l h d)) ⟨(.pointer (some ⟨rb, 0, none⟩) :: .bool h :: .bool d :: u3 :: u4 :: u5 :: .pointer (some ⟨R, 0, none⟩) :: u7 :: .slice (some ⟨g, 0, none⟩) n cap :: .int .i64 (dn : Nat) :: .int .i64 (hd : Nat) :: u11 :: u12 :: u13 :: u14 :: u15 :: u16 :: u17 :: u18 :: u19 :: u20 :: u21 :: u22 :: u23 :: u24 :: u25 :: u26 :: u27 :: u28 :: u29 :: u30 :: u31 :: u32 :: u33 :: u34 :: u35 :: u36 :: u37 :: u38 :: u39 :: u40 :: u41 :: u42 :: u43 :: u44 :: u45 :: u46 :: u47 :: u48 :: u49 :: u50 :: u51 :: u52 :: u53 :: u54 :: u55 :: u56 :: u57 :: u58 :: u59 :: u60 :: u61 :: u62 :: u63 :: u64 :: u65 :: u66 :: u67 :: u68 :: u69 :: u70 :: u71 :: u72 :: u73 :: u74 :: u75 :: u76 :: u77 :: u78 :: u79 :: u80 :: u81 :: u82 :: u83 :: u84 :: u85 :: u86 :: u87 :: u88 :: u89 :: u90 :: u91 :: u92 :: u93 :: u94 :: u95 :: u96 :: u97 :: u98 :: u99 :: u100 :: u101 :: u102 :: u103 :: u104 :: u105 :: u106 :: u107 :: u108 :: u109 :: u110 :: u111 :: u112 :: u113 :: u114 :: u115 :: u116 :: u117 :: u118 :: u119 :: u120 :: u121 :: u122 :: u123 :: u124 :: u125 :: u126 :: u127 :: u128 :: u129 :: u130 :: u131 :: u132 :: u133 :: u134 :: u135 :: u136 :: u137 :: u138 :: u139 :: u140 :: u141 :: u142 :: u143 :: u144 :: u145 :: u146 :: u147 :: u148 :: u149 :: u150 :: u151 :: u152 :: u153 :: u154 :: u155 :: u156 :: u157 :: u158 :: u159 :: u160 :: u161 :: u162 :: u163 :: u164 :: u165 :: u166 :: u167 :: u168 :: u169 :: u170 :: u171 :: u172 :: u173 :: u174 :: u175 :: u176 :: u177 :: []).toArray, []⟩ wx := by
  have hln := hH.ln
  have hla := hH.la
  have e0 := hx.rd.own.cells 0 (by omega)
  have e4 := hx.rd.own.cells 4 (by omega)
  have b0 := hx.rd.own.lt256 0
  have b4 := hx.rd.own.lt256 4
  have hbd : badHead l = (decide (128 ≤ l.getD 0 0) || decide (32 < ahsN l) || decide (256 < dataN l)) := rfl
  rw [hla, hH.ld] at hbd
  unfold ahsN at hla
  obtain ⟨c0, hc0⟩ : ∃ c, c = l.getD 0 0 := ⟨_, rfl⟩
  obtain ⟨c4, hc4⟩ : ∃ c, c = l.getD 4 0 := ⟨_, rfl⟩
  rw [← hc0] at e0 b0 hbd
  rw [← hc4] at e4 b4 hla
  have HX := Lib.hid hx
  have HH := Lib.hid (And.intro hH hc0)
  have v7 : (0 : Int) < (n : Int) := by omega
  have v8 : (4 : Int) < (n : Int) := by omega
  have v9 : 0 < n := by omega
  have v10 : 4 < n := by omega
  have hbr : badHead l = true → findP l h d = .broken := fun hb => by unfold findP; rw [if_neg (by omega), hb]; rfl
  have HBR := Lib.hid hbr
  clear hx hH hc0 hc4 hln hbr
  by_cases t0 : 128 ≤ c0
  · have g1 : decide ((128 : Int) ≤ (c0 : Int)) = true := by simp; omega
    have g2 : decide (128 ≤ c0) = true := by simp; omega
    have HF := Lib.hid (HBR.out (by rw [hbd]; simp [t0]))
    clear t0 hbd hla
    conv => arg 2; whnf
    refine wp_seq_k (fun K hK => ?_)
    have HK := Lib.hid hK
    clear hK
    go_wp2_with fail
    refine (brokenR_any HX.out.rd).mono ?_
    rintro e W10 ⟨rfl, hs9, hb9⟩
    have HSb := Lib.hid (And.intro hs9 hb9)
    clear hs9 hb9
    have HRes : Hid (IsBlk W10 R pdZ 28) := Lib.hid (HSb.out.2.blk HX.out.res (fun e => blk_ne HX.out.rd.blk HX.out.res (by decide) e.symm))
    go_wp2_with (refine wpList_store_row (by rfl) 28 (.tmp 6) (.tmp 54) (by rfl) R pdZ (by rfl) (by rfl) 28 pdZ (by exact HRes.out) (by kernel_rfl) (by rfl) pdZ_one ?_)
    exact bodyPost_ret (v := .tuple #[.agg pdZ, .int .i64 3]) (results_cell_tmp Try.results17 _ _ R 28 pdZ _ (by rfl) (isBlk_setRow HRes.out _) _ (by rfl) Try.underlying28 rfl (by kernel_rfl)) rfl (HX.out.broken HF.out HSb.out.1 HSb.out.2)
  have g1 : decide ((128 : Int) ≤ (c0 : Int)) = false := by simp; omega
  have g2 : decide (128 ≤ c0) = false := by simp; omega
  by_cases t1 : 8 < c4
  · have g3 : decide ((8 : Int) < (c4 : Int)) = true := by simp; omega
    have g4 : decide (8 < c4) = true := by simp; omega
    have HF := Lib.hid (HBR.out (by rw [hbd]; simp; omega))
    clear t0 t1 hbd hla
    conv => arg 2; whnf
    refine wp_seq_k (fun K hK => ?_)
    have HK := Lib.hid hK
    clear hK
    go_wp2_with fail
    refine (brokenR_any HX.out.rd).mono ?_
    rintro e W10 ⟨rfl, hs9, hb9⟩
    have HSb := Lib.hid (And.intro hs9 hb9)
    clear hs9 hb9
    have HRes : Hid (IsBlk W10 R pdZ 28) := Lib.hid (HSb.out.2.blk HX.out.res (fun e => blk_ne HX.out.rd.blk HX.out.res (by decide) e.symm))
    go_wp2_with (refine wpList_store_row (by rfl) 28 (.tmp 6) (.tmp 54) (by rfl) R pdZ (by rfl) (by rfl) 28 pdZ (by exact HRes.out) (by kernel_rfl) (by rfl) pdZ_one ?_)
    exact bodyPost_ret (v := .tuple #[.agg pdZ, .int .i64 3]) (results_cell_tmp Try.results17 _ _ R 28 pdZ _ (by rfl) (isBlk_setRow HRes.out _) _ (by rfl) Try.underlying28 rfl (by kernel_rfl)) rfl (HX.out.broken HF.out HSb.out.1 HSb.out.2)
  have g3 : decide ((8 : Int) < (c4 : Int)) = false := by simp; omega
  have g4 : decide (8 < c4) = false := by simp; omega
  by_cases t2 : 256 < dn
  · have g5 : decide ((256 : Int) < (dn : Int)) = true := by simp; omega
    have g6 : decide (256 < dn) = true := by simp; omega
    have HF := Lib.hid (HBR.out (by rw [hbd]; simp; omega))
    clear t0 t1 t2 hbd hla
    conv => arg 2; whnf
    refine wp_seq_k (fun K hK => ?_)
    have HK := Lib.hid hK
    clear hK
    go_wp2_with fail
    refine (brokenR_any HX.out.rd).mono ?_
    rintro e W10 ⟨rfl, hs9, hb9⟩
    have HSb := Lib.hid (And.intro hs9 hb9)
    clear hs9 hb9
    have HRes : Hid (IsBlk W10 R pdZ 28) := Lib.hid (HSb.out.2.blk HX.out.res (fun e => blk_ne HX.out.rd.blk HX.out.res (by decide) e.symm))
    go_wp2_with (refine wpList_store_row (by rfl) 28 (.tmp 6) (.tmp 54) (by rfl) R pdZ (by rfl) (by rfl) 28 pdZ (by exact HRes.out) (by kernel_rfl) (by rfl) pdZ_one ?_)
    exact bodyPost_ret (v := .tuple #[.agg pdZ, .int .i64 3]) (results_cell_tmp Try.results17 _ _ R 28 pdZ _ (by rfl) (isBlk_setRow HRes.out _) _ (by rfl) Try.underlying28 rfl (by kernel_rfl)) rfl (HX.out.broken HF.out HSb.out.1 HSb.out.2)
  have g5 : decide ((256 : Int) < (dn : Int)) = false := by simp; omega
  have g6 : decide (256 < dn) = false := by simp; omega
  have hb2 : badHead l = false := by rw [hbd]; simp; omega
  have q1 : c0 < 128 := by omega
  have q2 : an ≤ 32 := by omega
  have q3 : dn ≤ 256 := by omega
  have HB2 := Lib.hid hb2
  clear t0 t1 t2 hbd hla hb2
  conv => arg 2; whnf
  refine wp_seq_k (fun K hK => ?_)
  have HK := Lib.hid hK
  clear hK
  go_wp2_with fail
  refine HK.out _ _ ?_
  exact rxt_10 HX.out HH.out.1 h48 q2 q3 (by rw [← HH.out.2]; exact q1) HB2.out hnc hlm hl47 hB

set_option maxRecDepth 100000 in
set_option maxHeartbeats 2000000 in
theorem rxt_6 {w wx : World} {B rb R g n cap : Nat} {l : List Nat} {h d : Bool} (hx : Ny w wx B rb R (.slice (some ⟨g, 0, none⟩) n cap) l) (hln : l.length = n) (h48 : 48 ≤ n) (hnc : n ≤ cap) (hlm : cap ≤ 9223372036854775807) (hl47 : n ≤ 140737488355328) (hB : B ≤ w.heap.size) {u3 u4 u5 u7 u9 u10 u11 u12 u13 u14 u15 u16 u17 u18 u19 u20 u21 u22 u23 u24 u25 u26 u27 u28 u29 u30 u31 u32 u33 u34 u35 u36 u37 u38 u39 u40 u41 u42 u43 u44 u45 u46 u47 u48 u49 u50 u51 u52 u53 u54 u55 u56 u57 u58 u59 u60 u61 u62 u63 u64 u65 u66 u67 u68 u69 u70 u71 u72 u73 u74 u75 u76 u77 u78 u79 u80 u81 u82 u83 u84 u85 u86 u87 u88 u89 u90 u91 u92 u93 u94 u95 u96 u97 u98 u99 u100 u101 u102 u103 u104 u105 u106 u107 u108 u109 u110 u111 u112 u113 u114 u115 u116 u117 u118 u119 u120 u121 u122 u123 u124 u125 u126 u127 u128 u129 u130 u131 u132 u133 u134 u135 u136 u137 u138 u139 u140 u141 u142 u143 u144 u145 u146 u147 u148 u149 u150 u151 u152 u153 u154 u155 u156 u157 u158 u159 u160 u161 u162 u163 u164 u165 u166 u167 u168 u169 u170 u171 u172 u173 u174 u175 u176 u177 : Value} :
    Code.wp Try.prog (restOf Try.f17 6) (bodyPost Try.prog Try.f17 (NextRr w B rb l h d)) ⟨(.pointer (some ⟨rb, 0, none⟩) :: .bool h :: .bool d :: u3 :: u4 :: u5 :: .pointer (some ⟨R, 0, none⟩) :: u7 :: .slice (some ⟨g, 0, none⟩) n cap :: u9 :: u10 :: u11 :: u12 :: u13 :: u14 :: u15 :: u16 :: u17 :: u18 :: u19 :: u20 :: u21 :: u22 :: u23 :: u24 :: u25 :: u26 :: u27 :: u28 :: u29 :: u30 :: u31 :: u32 :: u33 :: u34 :: u35 :: u36 :: u37 :: u38 :: u39 :: u40 :: u41 :: u42 :: u43 :: u44 :: u45 :: u46 :: u47 :: u48 :: u49 :: u50 :: u51 :: u52 :: u53 :: u54 :: u55 :: u56 :: u57 :: u58 :: u59 :: u60 :: u61 :: u62 :: u63 :: u64 :: u65 :: u66 :: u67 :: u68 :: u69 :: u70 :: u71 :: u72 :: u73 :: u74 :: u75 :: u76 :: u77 :: u78 :: u79 :: u80 :: u81 :: u82 :: u83 :: u84 :: u85 :: u86 :: u87 :: u88 :: u89 :: u90 :: u91 :: u92 :: u93 :: u94 :: u95 :: u96 :: u97 :: u98 :: u99 :: u100 :: u101 :: u102 :: u103 :: u104 :: u105 :: u106 :: u107 :: u108 :: u109 :: u110 :: u111 :: u112 :: u113 :: u114 :: u115 :: u116 :: u117 :: u118 :: u119 :: u120 :: u121 :: u122 :: u123 :: u124 :: u125 :: u126 :: u127 :: u128 :: u129 :: u130 :: u131 :: u132 :: u133 :: u134 :: u135 :: u136 :: u137 :: u138 :: u139 :: u140 :: u141 :: u142 :: u143 :: u144 :: u145 :: u146 :: u147 :: u148 :: u149 :: u150 :: u151 :: u152 :: u153 :: u154 :: u155 :: u156 :: u157 :: u158 :: u159 :: u160 :: u161 :: u162 :: u163 :: u164 :: u165 :: u166 :: u167 :: u168 :: u169 :: u170 :: u171 :: u172 :: u173 :: u174 :: u175 :: u176 :: u177 :: []).toArray, []⟩ wx := by
  have q5 : ¬ cap = 5 := by omega
  have hc5 : IsBytes wx (some ⟨g, 5, none⟩) (sub l 5 3) := by
    obtain ⟨a', cap', he, hb', -⟩ := hx.rd.own.form
    injection he with he1 he2 he3
    rw [← he1] at hb'
    have := isBytes_cut hb' cap 5 8 (by omega) (by omega) (by omega)
    unfold cutA at this
    rw [if_neg q5] at this
    simpa [Go.WideShapes.add_plain, sub] using this
  have hl5 : (sub l 5 3).length = 3 := by unfold sub; rw [List.length_take, List.length_drop]; omega
  have HN := Lib.hid (num_any (some ⟨g, 5, none⟩) (sub l 5 3) 3 (cap - 5) wx hl5 hc5 (by omega))
  have hlt := numB_lt (sub l 5 3) hc5.1 3 (by omega)
  rw [List.take_of_length_le (by omega)] at hlt
  have e4 := hx.rd.own.cells 4 (by omega)
  have b4 := hx.rd.own.lt256 4
  obtain ⟨c4, hc4⟩ : ∃ c, c = l.getD 4 0 := ⟨_, rfl⟩
  obtain ⟨dn, hdn⟩ : ∃ c, c = numB (sub l 5 3) := ⟨_, rfl⟩
  rw [← hc4] at e4 b4
  rw [← hdn] at HN hlt
  have hlt2 : dn < 16777216 := hlt
  have ww : IntKind.i64.wrap (dn : Int) = (dn : Int) := IntWalk.i64_in _ (by omega)
  obtain ⟨hd, hhd⟩ : ∃ hd : Nat, 48 + 4 * (c4 : Int) = (hd : Int) := ⟨48 + 4 * c4, by omega⟩
  have hH : Head l n (4 * c4) dn hd := ⟨hln, by rw [hc4]; rfl, by rw [hdn]; rfl, by omega⟩
  have HX := Lib.hid (And.intro hx hH)
  have v8 : (4 : Int) < (n : Int) := by omega
  have v10 : 4 < n := by omega
  have v11 : (8 : Int) ≤ (cap : Int) := by omega
  have v12 : 8 ≤ cap := by omega
  clear hx hln hc5 hl5 hlt hc4 hdn hH
  conv => arg 2; whnf
  refine wp_seq_k (fun K hK => ?_)
  have HK := Lib.hid hK
  clear hK
  go_wp2_with fail
  refine HN.out.mono ?_
  rintro e1 W2 ⟨rfl, rfl⟩
  go_wp2_with fail
  refine HK.out _ _ ?_
  refine wp_seq_k (fun K2 hK2 => ?_)
  have HK2 := Lib.hid hK2
  clear hK2
  go_wp2_with fail
  refine HK2.out _ _ ?_
  exact rxt_8 HX.out.1 HX.out.2 h48 hlt2 hnc hlm hl47 hB

set_option maxRecDepth 100000 in
set_option maxHeartbeats 2000000 in
theorem nextR_any {w : World} {B rb : Nat} {v : Value} {l : List Nat} (hr : IsRr w B rb v l false) (hB : B ≤ w.heap.size) (hl47 : l.length ≤ 140737488355328) (h d : Bool) : Calls Try.prog 17 #[.pointer (some ⟨rb, 0, none⟩), .bool h, .bool d] w (NextRr w B rb l h d) := by
  obtain ⟨n, hn⟩ : ∃ n, n = l.length := ⟨_, rfl⟩
  have hlt := hr.blk.lt
  have HNy : Hid (Ny w (w.alloc (.cells pdZ 28)) B rb w.heap.size v l) := Lib.hid ⟨hr.below ((Below.refl _ _).alloc (Nat.le_refl _) _), IsBlk.new _ _ _, (But.refl _ _).alloc _, Nat.le_refl _, fun k hk => .inr ⟨_, hr.blk.cell 0 rfl, hk⟩⟩
  by_cases hl : l.length < 48
  · obtain ⟨a, cap, rfl, -⟩ := hr.own.form
    have hf : findP l h d = .nothing := by unfold findP; rw [if_pos hl]
    rw [← hn] at hl
    have c0 := hr.blk.cell 0 (v := .slice a l.length cap) rfl
    rw [← hn] at c0
    have c1 := hr.blk.cell 1 (v := .bool false) rfl
    have g1 : decide (n < 48) = true := by simp [hl]
    have g2 : decide ((n : Int) < 48) = true := by simp; omega
    have HF := Lib.hid hf
    clear hr hn hf hl
    go_enter Try.func17, Try.ntmps17
    go_wp2_with fail
    refine bodyPost_ret (v := .tuple #[.agg pdZ, .int .i64 0]) (results_cell_tmp Try.results17 _ _ w.heap.size 28 pdZ _ (by rfl) (IsBlk.new _ _ _) _ (by rfl) Try.underlying28 rfl (by kernel_rfl)) rfl ?_
    refine ⟨pdZ, .slice a l.length cap, by rw [HF.out]; rfl, ?_, ?_, HNy.out.but, HNy.out.nv⟩
    · rw [(nothing_told HF.out).1]; exact pdv_zero _
    · rw [(nothing_told HF.out).2, HF.out]; exact HNy.out.rd
  · obtain ⟨g, cap, rfl, -, -, -, -, hnc, hcm⟩ := hr.own.block (by rintro rfl; simp at hl)
    have hcm2 : cap ≤ 9223372036854775807 := by unfold maxLen at hcm; omega
    have c0 := hr.blk.cell 0 (v := .slice (some ⟨g, 0, none⟩) l.length cap) rfl
    rw [← hn] at c0 hl hnc hl47 HNy
    have c1 := hr.blk.cell 1 (v := .bool false) rfl
    have g1 : decide (n < 48) = false := by simp; omega
    have g2 : decide ((n : Int) < 48) = false := by simp; omega
    have HLN := Lib.hid hn
    clear hr hn hcm
    go_enter Try.func17, Try.ntmps17
    go_upto_region 4 with fail
    rename_i K6 hK6 K4 hK4
    have HK6 := Lib.hid hK6
    clear hK6
    go_wp2_with fail
    refine HK6.out _ _ ?_
    exact rxt_6 HNy.out HLN.out.symm (by omega) (by omega) hcm2 hl47 hB
set_option maxRecDepth 100000 in
theorem nextR_broken {w : World} {B rb : Nat} {v : Value} {l : List Nat} (hr : IsRr w B rb v l true) (h d : Bool) : Calls Try.prog 17 #[.pointer (some ⟨rb, 0, none⟩), .bool h, .bool d] w fun e w' => e = .returned (.tuple #[.agg pdZ, .int .i64 3]) ∧ Below w.heap.size w w' := by
  have c1 := hr.blk.cell 1 (v := .bool true) rfl
  have hlt := hr.blk.lt
  clear hr
  go_enter Try.func17, Try.ntmps17
  go_wp2_with fail
  exact bodyPost_ret (v := .tuple #[.agg pdZ, .int .i64 3]) (results_cell_tmp Try.results17 _ _ w.heap.size 28 pdZ _ (by rfl) (IsBlk.new _ _ _) _ (by rfl) Try.underlying28 rfl (by kernel_rfl)) rfl ⟨rfl, (Below.refl _ _).alloc (Nat.le_refl _) _⟩
end Go.Proofs.Ytaehaclmagnncaa
