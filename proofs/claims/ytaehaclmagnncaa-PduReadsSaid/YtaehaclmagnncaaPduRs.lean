-- slots 178
/-
  pdu: the reference's Next, whole.
-/
import Derived.Test.YtaehaclmagnncaaPduRq
namespace Go.Proofs.Ytaehaclmagnncaa
set_option linter.unusedVariables false
set_option linter.unusedSimpArgs false
open Go.RowKit
attribute [local go_sem ↓] Go.wp_at_zero Go.wp_at_succ

set_option maxRecDepth 100000 in
set_option maxHeartbeats 2000000 in
theorem rxt_20 {w wx : World} {B rb R g n cap an dn at_ hd : Nat} {l : List Nat} {h d : Bool} (hx : Ny w wx B rb R (.slice (some ⟨g, 0, none⟩) n cap) l) (hs : Seen l h n an dn at_) (hhd : hd = 48 + an) (hnc : n ≤ cap) (hlm : cap ≤ 9223372036854775807) (hl47 : n ≤ 140737488355328) (hB : B ≤ w.heap.size) (e : Nat) (he : endN l h d = e) {u1 u3 u4 u5 u7 u13 u14 u15 u16 u17 u18 u19 u20 u21 u22 u23 u24 u25 u26 u27 u28 u29 u30 u31 u32 u33 u34 u35 u36 u37 u38 u39 u40 u41 u42 u43 u44 u45 u46 u47 u48 u49 u50 u51 u52 u53 u54 u55 u56 u57 u58 u59 u60 u61 u62 u63 u64 u65 u66 u67 u68 u69 u70 u71 u72 u73 u74 u75 u76 u77 u78 u79 u80 u81 u82 u83 u84 u85 u86 u87 u88 u89 u90 u91 u92 u93 u94 u95 u96 u97 u98 u99 u100 u101 u102 u103 u104 u105 u106 u107 u108 u109 u110 u111 u112 u113 u114 u115 u116 u117 u118 u119 u120 u121 u122 u123 u124 u125 u126 u127 u128 u129 u130 u131 u132 u133 u134 u135 u136 u137 u138 u139 u140 u141 u142 u143 u144 u145 u146 u147 u148 u149 u150 u151 u152 u153 u154 u155 u156 u157 u158 u159 u160 u161 u162 u163 u164 u165 u166 u167 u168 u169 u170 u171 u172 u173 u174 u175 u176 u177 : Value} :
    Code.wp Try.prog (restOf Try.f17 20) (bodyPost Try.prog Try.f17 (NextRr w B rb l h d)) ⟨(.pointer (some ⟨rb, 0, none⟩) :: u1 :: .bool d :: u3 :: u4 :: u5 :: .pointer (some ⟨R, 0, none⟩) :: u7 :: .slice (some ⟨g, 0, none⟩) n cap :: .int .i64 (dn : Nat) :: .int .i64 (hd : Nat) :: .int .i64 (at_ : Nat) :: .int .i64 (e : Nat) :: u13 :: u14 :: u15 :: u16 :: u17 :: u18 :: u19 :: u20 :: u21 :: u22 :: u23 :: u24 :: u25 :: u26 :: u27 :: u28 :: u29 :: u30 :: u31 :: u32 :: u33 :: u34 :: u35 :: u36 :: u37 :: u38 :: u39 :: u40 :: u41 :: u42 :: u43 :: u44 :: u45 :: u46 :: u47 :: u48 :: u49 :: u50 :: u51 :: u52 :: u53 :: u54 :: u55 :: u56 :: u57 :: u58 :: u59 :: u60 :: u61 :: u62 :: u63 :: u64 :: u65 :: u66 :: u67 :: u68 :: u69 :: u70 :: u71 :: u72 :: u73 :: u74 :: u75 :: u76 :: u77 :: u78 :: u79 :: u80 :: u81 :: u82 :: u83 :: u84 :: u85 :: u86 :: u87 :: u88 :: u89 :: u90 :: u91 :: u92 :: u93 :: u94 :: u95 :: u96 :: u97 :: u98 :: u99 :: u100 :: u101 :: u102 :: u103 :: u104 :: u105 :: u106 :: u107 :: u108 :: u109 :: u110 :: u111 :: u112 :: u113 :: u114 :: u115 :: u116 :: u117 :: u118 :: u119 :: u120 :: u121 :: u122 :: u123 :: u124 :: u125 :: u126 :: u127 :: u128 :: u129 :: u130 :: u131 :: u132 :: u133 :: u134 :: u135 :: u136 :: u137 :: u138 :: u139 :: u140 :: u141 :: u142 :: u143 :: u144 :: u145 :: u146 :: u147 :: u148 :: u149 :: u150 :: u151 :: u152 :: u153 :: u154 :: u155 :: u156 :: u157 :: u158 :: u159 :: u160 :: u161 :: u162 :: u163 :: u164 :: u165 :: u166 :: u167 :: u168 :: u169 :: u170 :: u171 :: u172 :: u173 :: u174 :: u175 :: u176 :: u177 :: []).toArray, []⟩ wx := by
  have hs48 := hs.at48
  by_cases hlt : n < e
  · have g1 : decide (n < e) = true := by simp [hlt]
    have g2 : decide ((n : Int) < (e : Int)) = true := by simp; omega
    have hf : findP l h d = .nothing := by rw [hs.find, he, if_pos hlt]
    have HX := Lib.hid (And.intro hx hf)
    clear hx hs he hf hs48 hlt hhd
    conv => arg 2; whnf
    refine wp_seq_k (fun K hK => ?_)
    clear hK
    go_wp2_with (refine wpList_store_row (by rfl) 28 (.tmp 6) (.tmp 91) (by rfl) R pdZ (by rfl) (by rfl) 28 pdZ (by exact HX.out.1.res) (by kernel_rfl) (by rfl) pdZ_one ?_)
    exact bodyPost_ret (v := .tuple #[.agg pdZ, .int .i64 0]) (results_cell_tmp Try.results17 _ _ R 28 pdZ _ (by rfl) (isBlk_setRow HX.out.1.res _) _ (by rfl) Try.underlying28 rfl (by kernel_rfl)) rfl (HX.out.1.nothing HX.out.2)
  · have g1 : decide (n < e) = false := by simp; omega
    have g2 : decide ((n : Int) < (e : Int)) = false := by simp; omega
    have hT := hs.told e he (by omega)
    have hend := hs.lend d
    rw [he] at hend
    have h48 : 48 + an ≤ n := by omega
    have hd256 := hs.dn256
    have HX := Lib.hid (And.intro hx (And.intro hs (And.intro hT hhd)))
    clear hx hs he hs48 hlt hT hend hhd
    conv => arg 2; whnf
    refine wp_seq_k (fun K hK => ?_)
    have HK := Lib.hid hK
    clear hK
    go_wp2_with fail
    refine HK.out _ _ ?_
    exact rxt_22 HX.out.1 HX.out.2.2.2 h48 HX.out.2.1.la HX.out.2.1.ln hnc hlm hl47 hB hd256 HX.out.2.2.1

set_option maxRecDepth 100000 in
set_option maxHeartbeats 2000000 in
theorem rxt_17 {w wx : World} {B rb R g n cap an dn at_ hd : Nat} {l : List Nat} {h d : Bool} (hx : Ny w wx B rb R (.slice (some ⟨g, 0, none⟩) n cap) l) (hs : Seen l h n an dn at_) (hhd : hd = 48 + an) (hnc : n ≤ cap) (hlm : cap ≤ 9223372036854775807) (hl47 : n ≤ 140737488355328) (hB : B ≤ w.heap.size) {u1 u3 u4 u5 u7 u12 u13 u14 u15 u16 u17 u18 u19 u20 u21 u22 u23 u24 u25 u26 u27 u28 u29 u30 u31 u32 u33 u34 u35 u36 u37 u38 u39 u40 u41 u42 u43 u44 u45 u46 u47 u48 u49 u50 u51 u52 u53 u54 u55 u56 u57 u58 u59 u60 u61 u62 u63 u64 u65 u66 u67 u68 u69 u70 u71 u72 u73 u74 u75 u76 u77 u78 u79 u80 u81 u82 u83 u84 u85 u86 u87 u88 u89 u90 u91 u92 u93 u94 u95 u96 u97 u98 u99 u100 u101 u102 u103 u104 u105 u106 u107 u108 u109 u110 u111 u112 u113 u114 u115 u116 u117 u118 u119 u120 u121 u122 u123 u124 u125 u126 u127 u128 u129 u130 u131 u132 u133 u134 u135 u136 u137 u138 u139 u140 u141 u142 u143 u144 u145 u146 u147 u148 u149 u150 u151 u152 u153 u154 u155 u156 u157 u158 u159 u160 u161 u162 u163 u164 u165 u166 u167 u168 u169 u170 u171 u172 u173 u174 u175 u176 u177 : Value} :
    Code.wp Try.prog (restOf Try.f17 17) (bodyPost Try.prog Try.f17 (NextRr w B rb l h d)) ⟨(.pointer (some ⟨rb, 0, none⟩) :: u1 :: .bool d :: u3 :: u4 :: u5 :: .pointer (some ⟨R, 0, none⟩) :: u7 :: .slice (some ⟨g, 0, none⟩) n cap :: .int .i64 (dn : Nat) :: .int .i64 (hd : Nat) :: .int .i64 (at_ : Nat) :: u12 :: u13 :: u14 :: u15 :: u16 :: u17 :: u18 :: u19 :: u20 :: u21 :: u22 :: u23 :: u24 :: u25 :: u26 :: u27 :: u28 :: u29 :: u30 :: u31 :: u32 :: u33 :: u34 :: u35 :: u36 :: u37 :: u38 :: u39 :: u40 :: u41 :: u42 :: u43 :: u44 :: u45 :: u46 :: u47 :: u48 :: u49 :: u50 :: u51 :: u52 :: u53 :: u54 :: u55 :: u56 :: u57 :: u58 :: u59 :: u60 :: u61 :: u62 :: u63 :: u64 :: u65 :: u66 :: u67 :: u68 :: u69 :: u70 :: u71 :: u72 :: u73 :: u74 :: u75 :: u76 :: u77 :: u78 :: u79 :: u80 :: u81 :: u82 :: u83 :: u84 :: u85 :: u86 :: u87 :: u88 :: u89 :: u90 :: u91 :: u92 :: u93 :: u94 :: u95 :: u96 :: u97 :: u98 :: u99 :: u100 :: u101 :: u102 :: u103 :: u104 :: u105 :: u106 :: u107 :: u108 :: u109 :: u110 :: u111 :: u112 :: u113 :: u114 :: u115 :: u116 :: u117 :: u118 :: u119 :: u120 :: u121 :: u122 :: u123 :: u124 :: u125 :: u126 :: u127 :: u128 :: u129 :: u130 :: u131 :: u132 :: u133 :: u134 :: u135 :: u136 :: u137 :: u138 :: u139 :: u140 :: u141 :: u142 :: u143 :: u144 :: u145 :: u146 :: u147 :: u148 :: u149 :: u150 :: u151 :: u152 :: u153 :: u154 :: u155 :: u156 :: u157 :: u158 :: u159 :: u160 :: u161 :: u162 :: u163 :: u164 :: u165 :: u166 :: u167 :: u168 :: u169 :: u170 :: u171 :: u172 :: u173 :: u174 :: u175 :: u176 :: u177 :: []).toArray, []⟩ wx := by
  have hs48 := hs.at48.2
  have hd256 := hs.dn256
  have hend := hs.lend d
  obtain ⟨e0, he0⟩ : ∃ e0 : Nat, (at_ : Int) + ((dn : Int) + 3) / 4 * 4 = (e0 : Int) := ⟨at_ + (dn + 3) / 4 * 4, by omega⟩
  have he1 : e0 = at_ + (dn + 3) / 4 * 4 := by omega
  have he2 : e0 ≤ 10000 := by omega
  rw [← he1] at hend
  have HX := Lib.hid (And.intro hx (And.intro hs (And.intro hend hhd)))
  clear hx hs he1 hend hhd
  cases d with
  | false =>
    conv => arg 2; whnf
    refine wp_seq_k (fun K hK => ?_)
    have HK := Lib.hid hK
    clear hK
    go_wp2_with fail
    refine HK.out _ _ ?_
    refine wp_seq_k (fun K2 hK2 => ?_)
    have HK2 := Lib.hid hK2
    clear hK2 he0
    go_wp2_with fail
    refine HK2.out _ _ ?_
    exact rxt_20 HX.out.1 HX.out.2.1 HX.out.2.2.2 hnc hlm hl47 hB e0 (by rw [HX.out.2.2.1]; rfl)
  | true =>
    by_cases h0 : 0 < dn
    · have g1 : decide ((0 : Int) < (dn : Int)) = true := by simp; omega
      have g2 : decide (0 < dn) = true := by simp; omega
      have HD := Lib.hid h0
      clear h0
      conv => arg 2; whnf
      refine wp_seq_k (fun K hK => ?_)
      have HK := Lib.hid hK
      clear hK
      go_wp2_with fail
      refine HK.out _ _ ?_
      refine wp_seq_k (fun K2 hK2 => ?_)
      have HK2 := Lib.hid hK2
      clear hK2 he0
      obtain ⟨e1, he1⟩ : ∃ e1 : Nat, (e0 : Int) + 4 = (e1 : Int) := ⟨e0 + 4, by omega⟩
      have he3 : e1 = e0 + 4 := by omega
      have HE := Lib.hid he3
      clear he3
      go_wp2_with fail
      refine HK2.out _ _ ?_
      exact rxt_20 HX.out.1 HX.out.2.1 HX.out.2.2.2 hnc hlm hl47 hB e1 (by rw [HX.out.2.2.1, HE.out, if_pos (by simp [HD.out])])
    · have g1 : decide ((0 : Int) < (dn : Int)) = false := by simp; omega
      have g2 : decide (0 < dn) = false := by simp; omega
      have HD := Lib.hid h0
      clear h0
      conv => arg 2; whnf
      refine wp_seq_k (fun K hK => ?_)
      have HK := Lib.hid hK
      clear hK
      go_wp2_with fail
      refine HK.out _ _ ?_
      refine wp_seq_k (fun K2 hK2 => ?_)
      have HK2 := Lib.hid hK2
      clear hK2 he0
      go_wp2_with fail
      refine HK2.out _ _ ?_
      exact rxt_20 HX.out.1 HX.out.2.1 HX.out.2.2.2 hnc hlm hl47 hB e0 (by rw [HX.out.2.2.1, if_neg (by have := HD.out; simp; omega)]; rfl)

/-- What the head told, ahead of its sum. -/
structure Head (l : List Nat) (n an dn hd : Nat) : Prop where
  ln : l.length = n
  la : ahsN l = an
  ld : dataN l = dn
  hh : hd = 48 + an

set_option maxRecDepth 100000 in
set_option maxHeartbeats 2000000 in
theorem rxt_10 {w wx : World} {B rb R g n cap an dn hd : Nat} {l : List Nat} {h d : Bool} (hx : Ny w wx B rb R (.slice (some ⟨g, 0, none⟩) n cap) l) (hH : Head l n an dn hd) (h48 : 48 ≤ n) (ha32 : an ≤ 32) (hd256 : dn ≤ 256) (hc : l.getD 0 0 < 128) (hbad : badHead l = false) (hnc : n ≤ cap) (hlm : cap ≤ 9223372036854775807) (hl47 : n ≤ 140737488355328) (hB : B ≤ w.heap.size) {u3 u4 u5 u7 u11 u12 u13 u14 u15 u16 u17 u18 u19 u20 u21 u22 u23 u24 u25 u26 u27 u28 u29 u30 u31 u32 u33 u34 u35 u36 u37 u38 u39 u40 u41 u42 u43 u44 u45 u46 u47 u48 u49 u50 u51 u52 u53 u54 u55 u56 u57 u58 u59 u60 u61 u62 u63 u64 u65 u66 u67 u68 u69 u70 u71 u72 u73 u74 u75 u76 u77 u78 u79 u80 u81 u82 u83 u84 u85 u86 u87 u88 u89 u90 u91 u92 u93 u94 u95 u96 u97 u98 u99 u100 u101 u102 u103 u104 u105 u106 u107 u108 u109 u110 u111 u112 u113 u114 u115 u116 u117 u118 u119 u120 u121 u122 u123 u124 u125 u126 u127 u128 u129 u130 u131 u132 u133 u134 u135 u136 u137 u138 u139 u140 u141 u142 u143 u144 u145 u146 u147 u148 u149 u150 u151 u152 u153 u154 u155 u156 u157 u158 u159 u160 u161 u162 u163 u164 u165 u166 u167 u168 u169 u170 u171 u172 u173 u174 u175 u176 u177 : Value} :
    Code.wp Try.prog (restOf Try.f17 10) (bodyPost Try.prog Try.f17 (NextRr w B rb l h d)) ⟨(.pointer (some ⟨rb, 0, none⟩) :: .bool h :: .bool d :: u3 :: u4 :: u5 :: .pointer (some ⟨R, 0, none⟩) :: u7 :: .slice (some ⟨g, 0, none⟩) n cap :: .int .i64 (dn : Nat) :: .int .i64 (hd : Nat) :: u11 :: u12 :: u13 :: u14 :: u15 :: u16 :: u17 :: u18 :: u19 :: u20 :: u21 :: u22 :: u23 :: u24 :: u25 :: u26 :: u27 :: u28 :: u29 :: u30 :: u31 :: u32 :: u33 :: u34 :: u35 :: u36 :: u37 :: u38 :: u39 :: u40 :: u41 :: u42 :: u43 :: u44 :: u45 :: u46 :: u47 :: u48 :: u49 :: u50 :: u51 :: u52 :: u53 :: u54 :: u55 :: u56 :: u57 :: u58 :: u59 :: u60 :: u61 :: u62 :: u63 :: u64 :: u65 :: u66 :: u67 :: u68 :: u69 :: u70 :: u71 :: u72 :: u73 :: u74 :: u75 :: u76 :: u77 :: u78 :: u79 :: u80 :: u81 :: u82 :: u83 :: u84 :: u85 :: u86 :: u87 :: u88 :: u89 :: u90 :: u91 :: u92 :: u93 :: u94 :: u95 :: u96 :: u97 :: u98 :: u99 :: u100 :: u101 :: u102 :: u103 :: u104 :: u105 :: u106 :: u107 :: u108 :: u109 :: u110 :: u111 :: u112 :: u113 :: u114 :: u115 :: u116 :: u117 :: u118 :: u119 :: u120 :: u121 :: u122 :: u123 :: u124 :: u125 :: u126 :: u127 :: u128 :: u129 :: u130 :: u131 :: u132 :: u133 :: u134 :: u135 :: u136 :: u137 :: u138 :: u139 :: u140 :: u141 :: u142 :: u143 :: u144 :: u145 :: u146 :: u147 :: u148 :: u149 :: u150 :: u151 :: u152 :: u153 :: u154 :: u155 :: u156 :: u157 :: u158 :: u159 :: u160 :: u161 :: u162 :: u163 :: u164 :: u165 :: u166 :: u167 :: u168 :: u169 :: u170 :: u171 :: u172 :: u173 :: u174 :: u175 :: u176 :: u177 :: []).toArray, []⟩ wx := by
  have hS : ∀ a, atN l h = a → (h = true → a ≤ n ∧ fitsB (l.take a) = true) → Seen l h n an dn a := fun a e f => ⟨hH.ln, h48, hH.la, hH.ld, ha32, hd256, hc, hbad, e, f⟩
  have hd0 := hH.hh
  have HH := Lib.hid (And.intro hx (And.intro hS (And.intro hH hbad)))
  have ha4 : 48 ≤ hd := by omega
  have ha8 : hd ≤ 80 := by omega
  clear hx hS hc hbad hH hd0
  cases h with
  | false =>
    conv => arg 2; whnf
    refine wp_seq_k (fun K hK => ?_)
    have HK := Lib.hid hK
    clear hK
    go_wp2_with fail
    refine HK.out _ _ ?_
    refine wp_seq_k (fun K2 hK2 => ?_)
    have HK2 := Lib.hid hK2
    clear hK2
    go_wp2_with fail
    refine HK2.out _ _ ?_
    exact rxt_17 HH.out.1 (HH.out.2.1 hd (by unfold atN; rw [HH.out.2.2.1.la, HH.out.2.2.1.hh]; simp) (fun h => by cases h)) HH.out.2.2.1.hh hnc hlm hl47 hB
  | true =>
    obtain ⟨a1, ha1⟩ : ∃ a1 : Nat, (hd : Int) + 4 = (a1 : Int) := ⟨hd + 4, by omega⟩
    have ha2 : a1 = hd + 4 := by omega
    have hat : atN l true = a1 := by unfold atN; rw [HH.out.2.2.1.la, ha2, HH.out.2.2.1.hh]; simp
    have HAT := Lib.hid hat
    have HA2 := Lib.hid ha2
    have ha9 : a1 ≤ 84 := by omega
    have ha10 : 52 ≤ a1 := by omega
    clear hat ha2
    by_cases hlt : n < a1
    · have g1 : decide (n < a1) = true := by simp [hlt]
      have g2 : decide ((n : Int) < (a1 : Int)) = true := by simp; omega
      have hf : findP l true d = .nothing := by unfold findP; rw [if_neg (by rw [HH.out.2.2.1.ln]; omega), HH.out.2.2.2]; simp only [Bool.false_eq_true, if_false]; rw [if_pos (by rw [HAT.out, HH.out.2.2.1.ln]; simp [hlt])]
      have HF := Lib.hid hf
      clear hf hlt
      conv => arg 2; whnf
      refine wp_seq_k (fun K hK => ?_)
      have HK := Lib.hid hK
      clear hK
      go_wp2_with fail
      refine HK.out _ _ ?_
      refine wp_seq_k (fun K2 hK2 => ?_)
      clear hK2
      go_wp2_with (refine wpList_store_row (by rfl) 28 (.tmp 6) (.tmp 64) (by rfl) R pdZ (by rfl) (by rfl) 28 pdZ (by exact HH.out.1.res) (by kernel_rfl) (by rfl) pdZ_one ?_)
      exact bodyPost_ret (v := .tuple #[.agg pdZ, .int .i64 0]) (results_cell_tmp Try.results17 _ _ R 28 pdZ _ (by rfl) (isBlk_setRow HH.out.1.res _) _ (by rfl) Try.underlying28 rfl (by kernel_rfl)) rfl (HH.out.1.nothing HF.out)
    · have g1 : decide (n < a1) = false := by simp; omega
      have g2 : decide ((n : Int) < (a1 : Int)) = false := by simp; omega
      have hle : a1 ≤ n := by omega
      have z1 : (0 : Int) ≤ (a1 : Int) := by omega
      have z2 : (a1 : Int) ≤ (cap : Int) := by omega
      have z3 : a1 ≤ cap := by omega
      have hlen : (l.take a1).length = a1 := by rw [List.length_take, HH.out.2.2.1.ln]; omega
      have hby : IsBytes wx (some ⟨g, 0, none⟩) (l.take a1) := by
        obtain ⟨a', cap', he, hb', -⟩ := HH.out.1.rd.own.form
        injection he with he1 he2 he3
        rw [← he1] at hb'
        exact hb'.take _
      have HFt := Lib.hid (fitsR_any (some ⟨g, 0, none⟩) (l.take a1) a1 cap wx hby hlen (by omega) z3 (by omega))
      obtain ⟨ft, hft⟩ : ∃ b, b = fitsB (l.take a1) := ⟨_, rfl⟩
      rw [← hft] at HFt
      have HFq := Lib.hid hft
      clear hft hlen hlt hby
      conv => arg 2; whnf
      refine wp_seq_k (fun K hK => ?_)
      have HK := Lib.hid hK
      clear hK
      go_wp2_with fail
      refine HK.out _ _ ?_
      refine wp_seq_k (fun K2 hK2 => ?_)
      have HK2 := Lib.hid hK2
      clear hK2
      go_wp2_with fail
      refine HFt.out.mono ?_
      rintro e1 W2 ⟨rfl, hb2⟩
      have HX1 := Lib.hid (HH.out.1.below hb2)
      clear hb2 HFt
      cases ft with
      | true =>
        go_wp2_with fail
        refine HK2.out _ _ ?_
        exact rxt_17 HX1.out (HH.out.2.1 a1 HAT.out (fun _ => ⟨hle, HFq.out.symm⟩)) HH.out.2.2.1.hh hnc hlm hl47 hB
      | false =>
        go_wp2_with fail
        refine (brokenR_any HX1.out.rd).mono ?_
        rintro e W10 ⟨rfl, hs9, hb9⟩
        have HS := Lib.hid (And.intro hs9 hb9)
        clear hs9 hb9
        have HRes : Hid (IsBlk W10 R pdZ 28) := Lib.hid (HS.out.2.blk HX1.out.res (fun e => blk_ne HX1.out.rd.blk HX1.out.res (by decide) e.symm))
        go_wp2_with (refine wpList_store_row (by rfl) 28 (.tmp 6) (.tmp 72) (by rfl) R pdZ (by rfl) (by rfl) 28 pdZ (by exact HRes.out) (by kernel_rfl) (by rfl) pdZ_one ?_)
        exact bodyPost_ret (v := .tuple #[.agg pdZ, .int .i64 3]) (results_cell_tmp Try.results17 _ _ R 28 pdZ _ (by rfl) (isBlk_setRow HRes.out _) _ (by rfl) Try.underlying28 rfl (by kernel_rfl)) rfl (HX1.out.broken (by unfold findP; rw [if_neg (by rw [HH.out.2.2.1.ln]; omega), HH.out.2.2.2]; simp only [Bool.false_eq_true, if_false]; rw [if_neg (by rw [HAT.out, HH.out.2.2.1.ln]; simp; omega), if_pos (by rw [HAT.out, ← HFq.out]; rfl)]) HS.out.1 HS.out.2)
end Go.Proofs.Ytaehaclmagnncaa
