-- slots 178
/-
  pdu: the reference's Next, from the end (2).
-/
import Derived.Test.YtaehaclmagnncaaPduRf
namespace Go.Proofs.Ytaehaclmagnncaa
set_option linter.unusedVariables false
set_option linter.unusedSimpArgs false
open Go.RowKit
attribute [local go_sem ↓] Go.wp_at_zero Go.wp_at_succ

theorem rxt_33 {w wx : World} {B rb R q g n cap at_ dn : Nat} {v : Value} {l m : List Nat} {aa : Option Addr} {ac : Nat} {p : PD} {h d : Bool} (hx : Py w wx B rb R q v m aa ac none 0 p) (hb : IsBytes wx (some ⟨g, 0, none⟩) l) (hn : l.length = n) (hnc : n ≤ cap) (hat : at_ + dn ≤ n) (hlm : cap ≤ 9223372036854775807) (hdn : dn ≤ 256) (hd : p.data = []) (hf : findP l h d = .whole) (hp : pduP l h d = { p with data := sub l at_ dn }) (hm : restP l h d = m) {u0 u1 u2 u3 u4 u5 u7 u10 u12 u14 u15 u16 u17 u18 u19 u20 u21 u22 u23 u24 u25 u26 u27 u28 u29 u30 u31 u32 u33 u34 u35 u36 u37 u38 u39 u40 u41 u42 u43 u44 u45 u46 u47 u48 u49 u50 u51 u52 u53 u54 u55 u56 u57 u58 u59 u60 u61 u62 u63 u64 u65 u66 u67 u68 u69 u70 u71 u72 u73 u74 u75 u76 u77 u78 u79 u80 u81 u82 u83 u84 u85 u86 u87 u88 u89 u90 u91 u92 u93 u94 u95 u96 u97 u98 u99 u100 u101 u102 u103 u104 u105 u106 u107 u108 u109 u110 u111 u112 u113 u114 u115 u116 u117 u118 u119 u120 u121 u122 u123 u124 u125 u126 u127 u128 u129 u130 u131 u132 u133 u134 u135 u136 u137 u138 u139 u140 u141 u142 u143 u144 u145 u146 u147 u148 u149 u150 u151 u152 u153 u154 u155 u156 u157 u158 u159 u160 u161 u162 u163 u164 u165 u166 u167 u168 u169 u170 u171 u172 u173 u174 u175 u176 u177 : Value} :
    Code.wp Try.prog (restOf Try.f17 33) (bodyPost Try.prog Try.f17 (NextRr w B rb l h d)) ⟨(u0 :: u1 :: u2 :: u3 :: u4 :: u5 :: .pointer (some ⟨R, 0, none⟩) :: u7 :: .slice (some ⟨g, 0, none⟩) n cap :: .int .i64 (dn : Nat) :: u10 :: .int .i64 (at_ : Nat) :: u12 :: .pointer (some ⟨q, 0, none⟩) :: u14 :: u15 :: u16 :: u17 :: u18 :: u19 :: u20 :: u21 :: u22 :: u23 :: u24 :: u25 :: u26 :: u27 :: u28 :: u29 :: u30 :: u31 :: u32 :: u33 :: u34 :: u35 :: u36 :: u37 :: u38 :: u39 :: u40 :: u41 :: u42 :: u43 :: u44 :: u45 :: u46 :: u47 :: u48 :: u49 :: u50 :: u51 :: u52 :: u53 :: u54 :: u55 :: u56 :: u57 :: u58 :: u59 :: u60 :: u61 :: u62 :: u63 :: u64 :: u65 :: u66 :: u67 :: u68 :: u69 :: u70 :: u71 :: u72 :: u73 :: u74 :: u75 :: u76 :: u77 :: u78 :: u79 :: u80 :: u81 :: u82 :: u83 :: u84 :: u85 :: u86 :: u87 :: u88 :: u89 :: u90 :: u91 :: u92 :: u93 :: u94 :: u95 :: u96 :: u97 :: u98 :: u99 :: u100 :: u101 :: u102 :: u103 :: u104 :: u105 :: u106 :: u107 :: u108 :: u109 :: u110 :: u111 :: u112 :: u113 :: u114 :: u115 :: u116 :: u117 :: u118 :: u119 :: u120 :: u121 :: u122 :: u123 :: u124 :: u125 :: u126 :: u127 :: u128 :: u129 :: u130 :: u131 :: u132 :: u133 :: u134 :: u135 :: u136 :: u137 :: u138 :: u139 :: u140 :: u141 :: u142 :: u143 :: u144 :: u145 :: u146 :: u147 :: u148 :: u149 :: u150 :: u151 :: u152 :: u153 :: u154 :: u155 :: u156 :: u157 :: u158 :: u159 :: u160 :: u161 :: u162 :: u163 :: u164 :: u165 :: u166 :: u167 :: u168 :: u169 :: u170 :: u171 :: u172 :: u173 :: u174 :: u175 :: u176 :: u177 :: []).toArray, []⟩ wx := by
  have hml : (sub l at_ dn).length = dn := by unfold sub; rw [List.length_take, List.length_drop]; omega
  have hby : IsBytes wx (cutA (some ⟨g, 0, none⟩) cap at_) (sub l at_ dn) := by
    have := isBytes_cut hb cap at_ (at_ + dn) (by omega) (by omega) (by omega)
    rw [Nat.add_sub_cancel_left] at this
    exact this
  by_cases hc : cap = at_
  · exact rxt_33p hx hby hml (by omega) hlm hdn hc hd hf hp hm
  · exact rxt_33n hx hby hml (by omega) hlm hdn hc hd hf hp hm
set_option maxRecDepth 100000 in
set_option maxHeartbeats 2000000 in
/-- The test of the data's sum. -/
theorem rxt_31 {w wx : World} {B rb R q g n cap at_ dn e : Nat} {v : Value} {l m : List Nat} {aa : Option Addr} {ac : Nat} {p : PD} {h d : Bool} (hx : Py w wx B rb R q v m aa ac none 0 p) (hb : IsBytes wx (some ⟨g, 0, none⟩) l) (hn : l.length = n) (hnc : n ≤ cap) (hlm : cap ≤ 9223372036854775807) (hl47 : n ≤ 140737488355328) (hdn : dn ≤ 256) (hT : Told l h d at_ dn e p) (hm : restP l h d = m) {u0 u1 u3 u4 u5 u7 u10 u14 u15 u16 u17 u18 u19 u20 u21 u22 u23 u24 u25 u26 u27 u28 u29 u30 u31 u32 u33 u34 u35 u36 u37 u38 u39 u40 u41 u42 u43 u44 u45 u46 u47 u48 u49 u50 u51 u52 u53 u54 u55 u56 u57 u58 u59 u60 u61 u62 u63 u64 u65 u66 u67 u68 u69 u70 u71 u72 u73 u74 u75 u76 u77 u78 u79 u80 u81 u82 u83 u84 u85 u86 u87 u88 u89 u90 u91 u92 u93 u94 u95 u96 u97 u98 u99 u100 u101 u102 u103 u104 u105 u106 u107 u108 u109 u110 u111 u112 u113 u114 u115 u116 u117 u118 u119 u120 u121 u122 u123 u124 u125 u126 u127 u128 u129 u130 u131 u132 u133 u134 u135 u136 u137 u138 u139 u140 u141 u142 u143 u144 u145 u146 u147 u148 u149 u150 u151 u152 u153 u154 u155 u156 u157 u158 u159 u160 u161 u162 u163 u164 u165 u166 u167 u168 u169 u170 u171 u172 u173 u174 u175 u176 u177 : Value} :
    Code.wp Try.prog (restOf Try.f17 31) (bodyPost Try.prog Try.f17 (NextRr w B rb l h d)) ⟨(u0 :: u1 :: .bool d :: u3 :: u4 :: u5 :: .pointer (some ⟨R, 0, none⟩) :: u7 :: .slice (some ⟨g, 0, none⟩) n cap :: .int .i64 (dn : Nat) :: u10 :: .int .i64 (at_ : Nat) :: .int .i64 (e : Nat) :: .pointer (some ⟨q, 0, none⟩) :: u14 :: u15 :: u16 :: u17 :: u18 :: u19 :: u20 :: u21 :: u22 :: u23 :: u24 :: u25 :: u26 :: u27 :: u28 :: u29 :: u30 :: u31 :: u32 :: u33 :: u34 :: u35 :: u36 :: u37 :: u38 :: u39 :: u40 :: u41 :: u42 :: u43 :: u44 :: u45 :: u46 :: u47 :: u48 :: u49 :: u50 :: u51 :: u52 :: u53 :: u54 :: u55 :: u56 :: u57 :: u58 :: u59 :: u60 :: u61 :: u62 :: u63 :: u64 :: u65 :: u66 :: u67 :: u68 :: u69 :: u70 :: u71 :: u72 :: u73 :: u74 :: u75 :: u76 :: u77 :: u78 :: u79 :: u80 :: u81 :: u82 :: u83 :: u84 :: u85 :: u86 :: u87 :: u88 :: u89 :: u90 :: u91 :: u92 :: u93 :: u94 :: u95 :: u96 :: u97 :: u98 :: u99 :: u100 :: u101 :: u102 :: u103 :: u104 :: u105 :: u106 :: u107 :: u108 :: u109 :: u110 :: u111 :: u112 :: u113 :: u114 :: u115 :: u116 :: u117 :: u118 :: u119 :: u120 :: u121 :: u122 :: u123 :: u124 :: u125 :: u126 :: u127 :: u128 :: u129 :: u130 :: u131 :: u132 :: u133 :: u134 :: u135 :: u136 :: u137 :: u138 :: u139 :: u140 :: u141 :: u142 :: u143 :: u144 :: u145 :: u146 :: u147 :: u148 :: u149 :: u150 :: u151 :: u152 :: u153 :: u154 :: u155 :: u156 :: u157 :: u158 :: u159 :: u160 :: u161 :: u162 :: u163 :: u164 :: u165 :: u166 :: u167 :: u168 :: u169 :: u170 :: u171 :: u172 :: u173 :: u174 :: u175 :: u176 :: u177 :: []).toArray, []⟩ wx := by
  have hat : at_ + dn ≤ n := by have h1 := hT.le; have h2 := hT.len; omega
  have hd0 := hT.data
  by_cases hno : (d && decide (0 < dn)) = false
  · have hw := hT.whole (by rw [hno]; rfl)
    have HX := Lib.hid (And.intro hx (And.intro hb (And.intro hn (And.intro hw (And.intro hd0 hm)))))
    cases d with
    | false =>
      clear hx hb hn hT hm hno hw hd0
      conv => arg 2; whnf
      refine wp_seq_k (fun K hK => ?_)
      have HK := Lib.hid hK
      clear hK
      go_wp2_with fail
      refine HK.out _ _ ?_
      exact rxt_33 HX.out.1 HX.out.2.1 HX.out.2.2.1 hnc hat hlm hdn HX.out.2.2.2.2.1 HX.out.2.2.2.1.1 HX.out.2.2.2.1.2 HX.out.2.2.2.2.2
    | true =>
      have h0 : dn = 0 := by simp at hno; omega
      have g1 : decide ((0 : Int) < (dn : Int)) = false := by simp; omega
      have g2 : decide (0 < dn) = false := by simp; omega
      clear hx hb hn hT hm hno hw hd0 h0
      conv => arg 2; whnf
      refine wp_seq_k (fun K hK => ?_)
      have HK := Lib.hid hK
      clear hK
      go_wp2_with fail
      refine HK.out _ _ ?_
      exact rxt_33 HX.out.1 HX.out.2.1 HX.out.2.2.1 hnc hat hlm hdn HX.out.2.2.2.2.1 HX.out.2.2.2.1.1 HX.out.2.2.2.1.2 HX.out.2.2.2.2.2
  · obtain ⟨rfl, h0⟩ : d = true ∧ 0 < dn := by simp at hno; exact ⟨hno.1, by omega⟩
    have g1 : decide ((0 : Int) < (dn : Int)) = true := by simp; omega
    have g2 : decide (0 < dn) = true := by simp; omega
    have q4 := hT.four rfl h0
    have q2 := hT.len
    rw [hn] at q2
    have hne : ¬ cap = at_ := by omega
    have hlen : (sub l at_ (e - at_)).length = e - at_ := by unfold sub; rw [List.length_take, List.length_drop]; omega
    have hc := isBytes_cut hb cap at_ e (by omega) (by omega) (by omega)
    unfold cutA at hc
    rw [if_neg hne] at hc
    simp only [Option.map_some, Go.WideShapes.add_plain, Nat.zero_add] at hc
    have HFt := Lib.hid (fitsR_any (some ⟨g, at_, none⟩) (sub l at_ (e - at_)) (e - at_) (cap - at_) wx hc hlen (by omega) (by omega) (by omega))
    obtain ⟨ft, hft⟩ : ∃ b, b = fitsB (sub l at_ (e - at_)) := ⟨_, rfl⟩
    rw [← hft] at HFt
    have HQ := Lib.hid (And.intro hft h0)
    have HX := Lib.hid (And.intro hx (And.intro hb (And.intro hn (And.intro hT (And.intro hd0 hm)))))
    clear hx hb hn hT hm hno hd0 hft h0 hlen hc
    have z1 : (at_ : Int) ≤ (e : Int) := by omega
    have z2 : (e : Int) ≤ (cap : Int) := by omega
    have z3 : at_ ≤ e := by omega
    have z4 : e ≤ cap := by omega
    conv => arg 2; whnf
    refine wp_seq_k (fun K hK => ?_)
    have HK := Lib.hid hK
    clear hK
    go_wp2_with fail
    refine HFt.out.mono ?_
    rintro e1 W2 ⟨rfl, hb2⟩
    have HB := Lib.hid (And.intro (HX.out.1.below hb2) (HX.out.2.1.of_below hb2))
    clear hb2 HFt
    cases ft with
    | true =>
      go_wp2_with fail
      refine HK.out _ _ ?_
      have hw := HX.out.2.2.2.1.whole (by rw [← HQ.out.1]; simp)
      exact rxt_33 HB.out.1 HB.out.2 HX.out.2.2.1 hnc hat hlm hdn HX.out.2.2.2.2.1 hw.1 hw.2 HX.out.2.2.2.2.2
    | false =>
      have hw := HX.out.2.2.2.1.bad (by rw [← HQ.out.1]; simp; exact HQ.out.2)
      have HW := Lib.hid hw
      clear hw
      go_wp2_with (first
        | (refine wpList_load_row (by rfl) 28 (.tmp 13) (by rfl) q (by rfl) 28 (pdC p aa ac none 0) (0, 0) _ (by exact HB.out.1.blk) Try.underlying28 rfl (by kernel_rfl) ?_)
        | (refine wpList_store_row (by rfl) 28 (.tmp 6) (.tmp 166) (by rfl) R (pdC p aa ac none 0) (by rfl) (by rfl) 28 pdZ (by exact HB.out.1.res) (by kernel_rfl) (by rfl) (pdC_one p aa ac none 0) ?_))
      refine bodyPost_ret (v := .tuple #[.agg (pdC p aa ac none 0), .int .i64 2]) (results_cell_tmp Try.results17 _ _ R 28 (pdC p aa ac none 0) _ (by rfl) (isBlk_setRow HB.out.1.res _) _ (by rfl) Try.underlying28 rfl (by kernel_rfl)) rfl ?_
      exact HB.out.1.done HW.out.1 HW.out.2 HX.out.2.2.2.2.2 (by decide)

set_option maxRecDepth 100000 in
set_option maxHeartbeats 1000000 in
theorem rxt_30 {w wx : World} {B rb R q g n cap at_ dn e : Nat} {l : List Nat} {aa : Option Addr} {ac : Nat} {p : PD} {h d : Bool} (hx : Py w wx B rb R q (.slice (some ⟨g, 0, none⟩) n cap) l aa ac none 0 p) (hn : l.length = n) (hnc : n ≤ cap) (hlm : cap ≤ 9223372036854775807) (hl47 : n ≤ 140737488355328) (hB : B ≤ w.heap.size) (hdn : dn ≤ 256) (hT : Told l h d at_ dn e p) {u1 u3 u4 u5 u7 u10 u14 u15 u16 u17 u18 u19 u20 u21 u22 u23 u24 u25 u26 u27 u28 u29 u30 u31 u32 u33 u34 u35 u36 u37 u38 u39 u40 u41 u42 u43 u44 u45 u46 u47 u48 u49 u50 u51 u52 u53 u54 u55 u56 u57 u58 u59 u60 u61 u62 u63 u64 u65 u66 u67 u68 u69 u70 u71 u72 u73 u74 u75 u76 u77 u78 u79 u80 u81 u82 u83 u84 u85 u86 u87 u88 u89 u90 u91 u92 u93 u94 u95 u96 u97 u98 u99 u100 u101 u102 u103 u104 u105 u106 u107 u108 u109 u110 u111 u112 u113 u114 u115 u116 u117 u118 u119 u120 u121 u122 u123 u124 u125 u126 u127 u128 u129 u130 u131 u132 u133 u134 u135 u136 u137 u138 u139 u140 u141 u142 u143 u144 u145 u146 u147 u148 u149 u150 u151 u152 u153 u154 u155 u156 u157 u158 u159 u160 u161 u162 u163 u164 u165 u166 u167 u168 u169 u170 u171 u172 u173 u174 u175 u176 u177 : Value} :
    Code.wp Try.prog (restOf Try.f17 30) (bodyPost Try.prog Try.f17 (NextRr w B rb l h d)) ⟨(.pointer (some ⟨rb, 0, none⟩) :: u1 :: .bool d :: u3 :: u4 :: u5 :: .pointer (some ⟨R, 0, none⟩) :: u7 :: .slice (some ⟨g, 0, none⟩) n cap :: .int .i64 (dn : Nat) :: u10 :: .int .i64 (at_ : Nat) :: .int .i64 (e : Nat) :: .pointer (some ⟨q, 0, none⟩) :: u14 :: u15 :: u16 :: u17 :: u18 :: u19 :: u20 :: u21 :: u22 :: u23 :: u24 :: u25 :: u26 :: u27 :: u28 :: u29 :: u30 :: u31 :: u32 :: u33 :: u34 :: u35 :: u36 :: u37 :: u38 :: u39 :: u40 :: u41 :: u42 :: u43 :: u44 :: u45 :: u46 :: u47 :: u48 :: u49 :: u50 :: u51 :: u52 :: u53 :: u54 :: u55 :: u56 :: u57 :: u58 :: u59 :: u60 :: u61 :: u62 :: u63 :: u64 :: u65 :: u66 :: u67 :: u68 :: u69 :: u70 :: u71 :: u72 :: u73 :: u74 :: u75 :: u76 :: u77 :: u78 :: u79 :: u80 :: u81 :: u82 :: u83 :: u84 :: u85 :: u86 :: u87 :: u88 :: u89 :: u90 :: u91 :: u92 :: u93 :: u94 :: u95 :: u96 :: u97 :: u98 :: u99 :: u100 :: u101 :: u102 :: u103 :: u104 :: u105 :: u106 :: u107 :: u108 :: u109 :: u110 :: u111 :: u112 :: u113 :: u114 :: u115 :: u116 :: u117 :: u118 :: u119 :: u120 :: u121 :: u122 :: u123 :: u124 :: u125 :: u126 :: u127 :: u128 :: u129 :: u130 :: u131 :: u132 :: u133 :: u134 :: u135 :: u136 :: u137 :: u138 :: u139 :: u140 :: u141 :: u142 :: u143 :: u144 :: u145 :: u146 :: u147 :: u148 :: u149 :: u150 :: u151 :: u152 :: u153 :: u154 :: u155 :: u156 :: u157 :: u158 :: u159 :: u160 :: u161 :: u162 :: u163 :: u164 :: u165 :: u166 :: u167 :: u168 :: u169 :: u170 :: u171 :: u172 :: u173 :: u174 :: u175 :: u176 :: u177 :: []).toArray, []⟩ wx := by
  have he : e ≤ n := by have := hT.len; omega
  obtain ⟨k, hk⟩ : ∃ k, k = n - e := ⟨_, rfl⟩
  have hml : (l.drop e).length = k := by rw [List.length_drop]; omega
  have hbl : IsBytes wx (some ⟨g, 0, none⟩) l := by
    obtain ⟨a', cap', e1, hb', -⟩ := hx.rd.own.form
    injection e1 with e11 e12 e13
    rw [e11]; exact hb'
  have hby : IsBytes wx (cutA (some ⟨g, 0, none⟩) cap e) (l.drop e) := by
    have := isBytes_cut hbl cap e l.length (by omega) (Nat.le_refl _) (by omega)
    rw [List.take_of_length_le (by rw [List.length_drop]; omega)] at this
    exact this
  have hcn : cutA (some ⟨g, 0, none⟩) cap e = none → cap - e = 0 := cutA_none (by simp)
  have hgr : g ≠ rb := fun h => hx.rd.own.ne_blk hx.rd.blk (by decide) (by rw [← h]; rfl)
  have hrst := hT.rest
  generalize hA : cutA (some ⟨g, 0, none⟩) cap e = A at *
  generalize hM : l.drop e = M at *
  have HX := Lib.hid (And.intro hx (And.intro hbl (And.intro hn (And.intro hT (And.intro hrst hgr)))))
  have HY := Lib.hid (And.intro hby (And.intro hcn (And.intro hml (And.intro hA hk))))
  clear hx hT hrst hby hcn hml hA hk hM hn hbl hgr
  conv => arg 2; whnf
  refine wp_seq_k (fun K hK => ?_)
  have HK := Lib.hid hK
  clear hK
  go_wp2_with (first
    | (refine wpList_cut' (by rfl) (.tmp 147) (some (.tmp 148)) none (by rfl) (t := 23) (e := 5) (by kernel_rfl) (by kernel_rfl) (a := some ⟨g, 0, none⟩) (len := n) (cap := cap) (by rfl) e n k (by exact HY.out.2.2.2.2.symm) (by exact bounds_l e (by omega)) ?_; rw [HY.out.2.2.2.1])
    | (at_builtin; refine wpList_app' rfl (.const (.slice none 0 0)) (.tmp 149) rfl wx.heap.size (.slice none 0 0) [] rfl (Own.nil _ _) A k (cap - e) M rfl HY.out.2.2.1.symm HY.out.1 HY.out.2.1 (by have := HY.out.2.2.1; have := HY.out.2.2.2.2; simp; omega) (Nat.le_refl _) ?_; intro v' w1 ho1 hb1 hg1 hv1; have hx1 := HX.out.1.below hb1; have c0 := hx1.rd.blk.cell 0 (v := .slice (some ⟨g, 0, none⟩) n cap) rfl; have fz := hx1.rd.blk.fz; have HX1 := Lib.hid (And.intro hx1 (And.intro (ho1.mono HX.out.1.but.size) (HX.out.2.1.of_below hb1))); obtain ⟨va, vn, vc, rfl, hvn⟩ := ho1.slice; clear hx1 ho1 hb1 hg1 hv1 hvn))
  refine HK.out _ _ ?_
  have hb2 : IsBytes (w1.setCell ⟨rb, 0, none⟩ (.slice va vn vc)) (some ⟨g, 0, none⟩) l := ((But.refl (fun k => k = rb) w1).setCell (p := ⟨rb, 0, none⟩) rfl _).bytes HX1.out.2.2 (fun x hx _ => by cases hx; exact HX.out.2.2.2.2.2)
  exact rxt_31 (HX1.out.1.rest HX1.out.2.1 hB) hb2 HX.out.2.2.1 hnc hlm hl47 hdn HX.out.2.2.2.1 HX.out.2.2.2.2.1
end Go.Proofs.Ytaehaclmagnncaa
