/-
  ring: RingOpens: its end.
-/
import Derived.Test.YtkabkehfckbhcaaDoorZRgOpP
import Derived.Test.YtkabkehfckbhcaaDoorZRgNone
namespace Go.Proofs.YtkabkehfckbhcaaDoor
set_option linter.unusedVariables false
set_option linter.unusedSimpArgs false
open Go.RowKit

def lawPost (W : World) : Ending → World → Prop := fun e w' => e = .returned (.bool true) ∧ Below W.heap.size W w'
/-- What stands when both sides are opened. -/
structure EndI (W w : World) (B db kb mb : Nat) (d : DK) (sz kk : Nat) (place : Int) (num : Nat) (last : List Nat) : Prop where
  ri : RI NoX B w db kb d d
  on : OnB sz kk d
  kk : kk ≤ 100000
  mok : MarkOk num last
  mbk : IsBlk w mb (.int .i64 place :: .int .u64 ((num : Nat) : Int) :: bv last).toArray 25
  bel : Below W.heap.size W w
  hg : HasET W
  hB : B ≤ w.heap.size
  hmb : mb < B
  hWB : W.heap.size ≤ B
section
variable {W w w' : World} {B db kb mb : Nat} {d : DK} {sz kk : Nat} {place : Int} {num : Nat} {last : List Nat}
theorem EndI.below (h : EndI W w B db kb mb d sz kk place num last) (hb : Below w.heap.size w w') : EndI W w' B db kb mb d sz kk place num last :=
  ⟨h.ri.below hb, h.on, h.kk, h.mok, h.mbk.below hb h.mbk.lt, h.bel.trans (hb.mono h.bel.size), h.hg, Nat.le_trans h.hB hb.size, h.hmb, h.hWB⟩
theorem EndI.et (h : EndI W w B db kb mb d sz kk place num last) : HasET w := h.hg.below h.bel
theorem EndI.rd (h : EndI W w B db kb mb d sz kk place num last) : ∃ B fb cap av wv, IsRd w B kb fb cap av wv d := by
  obtain ⟨fb, cap, av, wv, h⟩ := h.ri.rd
  exact ⟨B, fb, cap, av, wv, h⟩
/-- Both disks have turned alike. -/
theorem EndI.turn (h : EndI W w B db kb mb d sz kk place num last) {d' : DK} {kk' : Nat} (hr : RI NoX B w' db kb d' d') (hon : OnB sz kk' d') (hk : kk' ≤ 100000) (hb : Below B w w') : EndI W w' B db kb mb d' sz kk' place num last :=
  ⟨hr, hon, hk, h.mok, h.mbk.below hb h.hmb, h.bel.trans (hb.mono h.hWB), h.hg, Nat.le_trans h.hB hb.size, h.hmb, h.hWB⟩
end
set_option maxRecDepth 100000 in
set_option maxHeartbeats 4000000 in
theorem opens_end {W w : World} {B db kb mb : Nat} {d : DK} {kk : Nat} {place : Int} {num : Nat} {last : List Nat} (H : Hid (EndI W w B db kb mb d 200 kk place num last)) {u0 u1 u2 u4 u5 u6 u9 u11 u12 u13 u14 u15 u16 u17 u18 u19 u20 u21 u22 u23 u24 u25 u26 u27 u28 u29 u30 u31 u32 u33 u34 u35 u36 u37 u38 u39 u40 u41 u42 u43 u44 u45 u46 u47 u48 u49 u50 u51 u52 u53 u54 u55 u56 u57 u58 u59 u60 u61 u62 u63 u64 u65 u66 u67 u68 u69 u70 u71 u72 u73 u74 u75 u76 u77 u78 u79 u80 u81 u82 u83 u84 u85 u86 u87 u88 u89 u90 u91 u92 u93 u94 u95 u96 u97 u98 u99 u100 u101 u102 u103 u104 u105 u106 u107 u108 u109 u110 u111 u112 u113 u114 u115 u116 u117 u118 u119 u120 u121 u122 u123 u124 u125 u126 u127 u128 u129 u130 u131 u132 u133 u134 u135 u136 u137 u138 u139 u140 u141 u142 u143 u144 u145 u146 u147 u148 u149 u150 u151 u152 u153 u154 u155 u156 u157 u158 u159 u160 u161 u162 u163 u164 u165 u166 u167 u168 u169 u170 u171 : Value} :
    Code.wp Tryd.prog (restOf Tryd.f3 32) (bodyPost Tryd.prog Tryd.f3 (lawPost W)) ⟨(u0 :: u1 :: u2 :: .pointer (some ⟨mb, 0, none⟩) :: u4 :: u5 :: u6 :: .int .i64 128 :: .pointer (some ⟨db, 0, none⟩) :: u9 :: .pointer (some ⟨kb, 0, none⟩) :: u11 :: u12 :: u13 :: u14 :: u15 :: u16 :: u17 :: u18 :: u19 :: u20 :: u21 :: u22 :: u23 :: u24 :: u25 :: u26 :: u27 :: u28 :: u29 :: u30 :: u31 :: u32 :: u33 :: u34 :: u35 :: u36 :: u37 :: u38 :: u39 :: u40 :: u41 :: u42 :: u43 :: u44 :: u45 :: u46 :: u47 :: u48 :: u49 :: u50 :: u51 :: u52 :: u53 :: u54 :: u55 :: u56 :: u57 :: u58 :: u59 :: u60 :: u61 :: u62 :: u63 :: u64 :: u65 :: u66 :: u67 :: u68 :: u69 :: u70 :: u71 :: u72 :: u73 :: u74 :: u75 :: u76 :: u77 :: u78 :: u79 :: u80 :: u81 :: u82 :: u83 :: u84 :: u85 :: u86 :: u87 :: u88 :: u89 :: u90 :: u91 :: u92 :: u93 :: u94 :: u95 :: u96 :: u97 :: u98 :: u99 :: u100 :: u101 :: u102 :: u103 :: u104 :: u105 :: u106 :: u107 :: u108 :: u109 :: u110 :: u111 :: u112 :: u113 :: u114 :: u115 :: u116 :: u117 :: u118 :: u119 :: u120 :: u121 :: u122 :: u123 :: u124 :: u125 :: u126 :: u127 :: u128 :: u129 :: u130 :: u131 :: u132 :: u133 :: u134 :: u135 :: u136 :: u137 :: u138 :: u139 :: u140 :: u141 :: u142 :: u143 :: u144 :: u145 :: u146 :: u147 :: u148 :: u149 :: u150 :: u151 :: u152 :: u153 :: u154 :: u155 :: u156 :: u157 :: u158 :: u159 :: u160 :: u161 :: u162 :: u163 :: u164 :: u165 :: u166 :: u167 :: u168 :: u169 :: u170 :: u171 :: []).toArray, []⟩ w := by
  conv => arg 2; whnf
  have hop := open_any (H.out.ri.dk.base (Nat.zero_le _)) H.out.on (by decide) H.out.mok 0 128 place
  have hrop := fun w' (h : EndI W w' B db kb mb d 200 kk place num last) => ropen_any h.rd h.on (by decide) h.kk h.mok 0 128 place
  have hfine := openL_fine H.out.on H.out.mok 0 128 place
  generalize openL d 0 128 place num last ((200 : Nat) : Int) = L at *
  generalize openE 0 128 place ((200 : Nat) : Int) = E at *
  have HL := Lib.hid hfine
  have H0 := Lib.hid (And.intro (show w.heap[mb]? = some (.cells (.int .i64 place :: .int .u64 ((num : Nat) : Int) :: bv last).toArray 25 (0, 0)) from H.out.mbk) (mkv_info place ((num : Nat) : Int) last H.out.mok.len))
  unfold markV at hop
  clear hfine
  go_upto_region 33 with (first
    | (refine wpList_load_row (by rfl) 25 (.tmp 3) (by rfl) mb (by rfl) 25 _ (0, 0) _ H0.out.1 Tryd.underlying25 (by rfl) H0.out.2 ?_)
    | (go_at_call 18; (with_reducible refine hop.mono ?_); rintro e w1 ⟨p1, v1, ev1, rfl, hn1, ⟨vs1, hr1⟩, hb1⟩; have H1 := Lib.hid (And.intro hn1 (And.intro hr1 (H.out.below hb1))); clear hn1 hr1 hb1))
  clear hop
  have hma := mark_any w1 place ((num : Nat) : Int) last H.out.mok.len
  unfold markV at hma hrop
  have H2 := Lib.hid (And.intro (show w1.heap[mb]? = some (.cells (.int .i64 place :: .int .u64 ((num : Nat) : Int) :: bv last).toArray 25 (0, 0)) from H1.out.2.2.mbk) H0.out.2)
  go_upto_region 34 with (first
    | (refine wpList_load_row (by rfl) 25 (.tmp 3) (by rfl) mb (by rfl) 25 _ (0, 0) _ H2.out.1 Tryd.underlying25 (by rfl) H2.out.2 ?_)
    | (go_at_call 11; (with_reducible refine hma.mono ?_); rintro e w2 ⟨rfl, hb2⟩; have H3 := Lib.hid (And.intro (H1.out.1.below hb2) (And.intro (H1.out.2.1.below hb2) (H1.out.2.2.below hb2))); clear hb2)
    | (go_at_call 19; (with_reducible refine (hrop _ H3.out.2.2).mono ?_); rintro e w3 ⟨p3, v3, rfl, ⟨vs3, hr3⟩, hb3⟩; have H4 := Lib.hid (And.intro (H3.out.1.below hb3) (And.intro (H3.out.2.1.below hb3) (And.intro hr3 (H3.out.2.2.below hb3)))); clear hr3 hb3))
  clear hma hrop
  have hnum := num_is ev1 E w3 H4.out.2.2.2.et H4.out.1
  go_wp2_with (first
    | (go_at_call 20; (with_reducible refine hnum.mono ?_); rintro e w4 ⟨rfl, hb4⟩; have H5 := Lib.hid (And.intro (H4.out.2.1.below hb4) (And.intro (H4.out.2.2.1.below hb4) (H4.out.2.2.2.below hb4))); clear hb4)
    | (go_at_call 21; (with_reducible refine (same_any _ H5.out.1 H5.out.2.1 HL.out.1 HL.out.2).mono ?_); rintro e w5 ⟨rfl, hb5⟩; have H6 := Lib.hid (H5.out.2.2.below hb5); clear hb5))
  go_ret
  exact ⟨rfl, H6.out.bel⟩
end Go.Proofs.YtkabkehfckbhcaaDoor
