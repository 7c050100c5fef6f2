-- slots 178
/-
  pdu: the reference's Next, from the end (3).
-/
import Derived.Test.YtaehaclmagnncaaPduRo
namespace Go.Proofs.Ytaehaclmagnncaa
set_option linter.unusedVariables false
set_option linter.unusedSimpArgs false
open Go.RowKit
attribute [local go_sem ↓] Go.wp_at_zero Go.wp_at_succ

/-- The words, k of them laid. -/
def wr7 (l : List Nat) (k : Nat) : List Nat := (List.range 7).map fun i => if i < k then numB (sub l (20 + 4 * i) 4) else 0
theorem wr7_all (l : List Nat) : wr7 l 7 = wordsP l := rfl
theorem wr7_set (p : PD) (l : List Nat) (aa : Option Addr) (ac k : Nat) (hk : k < 7) : (pdC { p with words := wr7 l k } aa ac none 0).setIfInBounds (8 + k) (.int .u32 ((numB (sub l (20 + 4 * k) 4) : Nat) : Int)) = pdC { p with words := wr7 l (k + 1) } aa ac none 0 := by
  rcases (by omega : k = 0 ∨ k = 1 ∨ k = 2 ∨ k = 3 ∨ k = 4 ∨ k = 5 ∨ k = 6) with rfl | rfl | rfl | rfl | rfl | rfl | rfl <;> rfl
theorem wr7_cell (p : PD) (l : List Nat) (aa : Option Addr) (ac k : Nat) (hk : k < 7) : (pdC { p with words := wr7 l k } aa ac none 0)[8 + k]? = some (.int .u32 0) := by
  rcases (by omega : k = 0 ∨ k = 1 ∨ k = 2 ∨ k = 3 ∨ k = 4 ∨ k = 5 ∨ k = 6) with rfl | rfl | rfl | rfl | rfl | rfl | rfl <;> rfl
theorem numB_sub_lt (l : List Nat) (hl : ∀ i, l.getD i 0 < 256) (o : Nat) (h : o + 4 ≤ l.length) : numB (sub l o 4) < 4294967296 := by
  rw [numB_sub_four l o h]
  have h0 := hl o
  have h1 := hl (o + 1)
  have h2 := hl (o + 2)
  have h3 := hl (o + 3)
  omega

set_option maxRecDepth 100000 in
set_option maxHeartbeats 2000000 in
theorem rxt_26 {w wx : World} {B rb R q g n cap at_ dn e : Nat} {l : List Nat} {aa : Option Addr} {ac : Nat} {p : PD} {h d : Bool} (hx : Py w wx B rb R q (.slice (some ⟨g, 0, none⟩) n cap) l aa ac none 0 { p with words := wr7 l 0 }) (h48 : 48 ≤ n) (hn : l.length = n) (hnc : n ≤ cap) (hlm : cap ≤ 9223372036854775807) (hl47 : n ≤ 140737488355328) (hB : B ≤ w.heap.size) (hdn : dn ≤ 256) (hT : Told l h d at_ dn e { p with words := wordsP l }) {u1 u3 u4 u5 u7 u10 u14 u15 u16 u17 u18 u19 u20 u21 u22 u23 u24 u25 u26 u27 u28 u29 u30 u31 u32 u33 u34 u35 u36 u37 u38 u39 u40 u41 u42 u43 u44 u45 u46 u47 u48 u49 u50 u51 u52 u53 u54 u55 u56 u57 u58 u59 u60 u61 u62 u63 u64 u65 u66 u67 u68 u69 u70 u71 u72 u73 u74 u75 u76 u77 u78 u79 u80 u81 u82 u83 u84 u85 u86 u87 u88 u89 u90 u91 u92 u93 u94 u95 u96 u97 u98 u99 u100 u101 u102 u103 u104 u105 u106 u107 u108 u109 u110 u111 u112 u113 u114 u115 u116 u117 u118 u119 u120 u121 u122 u123 u124 u125 u126 u127 u128 u129 u130 u131 u132 u133 u134 u135 u136 u137 u138 u139 u140 u141 u142 u143 u144 u145 u146 u147 u148 u149 u150 u151 u152 u153 u154 u155 u156 u157 u158 u159 u160 u161 u162 u163 u164 u165 u166 u167 u168 u169 u170 u171 u172 u173 u174 u175 u176 u177 : Value} :
    Code.wp Try.prog (restOf Try.f17 26) (bodyPost Try.prog Try.f17 (NextRr w B rb l h d)) ⟨(.pointer (some ⟨rb, 0, none⟩) :: u1 :: .bool d :: u3 :: u4 :: u5 :: .pointer (some ⟨R, 0, none⟩) :: u7 :: .slice (some ⟨g, 0, none⟩) n cap :: .int .i64 (dn : Nat) :: u10 :: .int .i64 (at_ : Nat) :: .int .i64 (e : Nat) :: .pointer (some ⟨q, 0, none⟩) :: u14 :: u15 :: u16 :: u17 :: u18 :: u19 :: u20 :: u21 :: u22 :: u23 :: u24 :: u25 :: u26 :: u27 :: u28 :: u29 :: u30 :: u31 :: u32 :: u33 :: u34 :: u35 :: u36 :: u37 :: u38 :: u39 :: u40 :: u41 :: u42 :: u43 :: u44 :: u45 :: u46 :: u47 :: u48 :: u49 :: u50 :: u51 :: u52 :: u53 :: u54 :: u55 :: u56 :: u57 :: u58 :: u59 :: u60 :: u61 :: u62 :: u63 :: u64 :: u65 :: u66 :: u67 :: u68 :: u69 :: u70 :: u71 :: u72 :: u73 :: u74 :: u75 :: u76 :: u77 :: u78 :: u79 :: u80 :: u81 :: u82 :: u83 :: u84 :: u85 :: u86 :: u87 :: u88 :: u89 :: u90 :: u91 :: u92 :: u93 :: u94 :: u95 :: u96 :: u97 :: u98 :: u99 :: u100 :: u101 :: u102 :: u103 :: u104 :: u105 :: u106 :: u107 :: u108 :: u109 :: u110 :: u111 :: u112 :: u113 :: u114 :: u115 :: u116 :: u117 :: u118 :: u119 :: u120 :: u121 :: u122 :: u123 :: u124 :: u125 :: u126 :: u127 :: u128 :: u129 :: u130 :: u131 :: u132 :: u133 :: u134 :: u135 :: u136 :: u137 :: u138 :: u139 :: u140 :: u141 :: u142 :: u143 :: u144 :: u145 :: u146 :: u147 :: u148 :: u149 :: u150 :: u151 :: u152 :: u153 :: u154 :: u155 :: u156 :: u157 :: u158 :: u159 :: u160 :: u161 :: u162 :: u163 :: u164 :: u165 :: u166 :: u167 :: u168 :: u169 :: u170 :: u171 :: u172 :: u173 :: u174 :: u175 :: u176 :: u177 :: []).toArray, []⟩ wx := by
  have HX := Lib.hid (And.intro hx (And.intro hn hT))
  clear hx hn hT
  conv => arg 2; whnf
  refine wp_seq_k (fun K hK => ?_)
  have HK := Lib.hid hK
  clear hK
  go_wp2_with fail
  go_loopw [14] (fun i wr => ∃ k : Nat, k ≤ 7 ∧ i = .int .i64 k ∧ Py w wr B rb R q (.slice (some ⟨g, 0, none⟩) n cap) l aa ac none 0 { p with words := wr7 l k }) (fun i _ => 7 - (intOf i).toNat)
  case atStart => exact ⟨0, by omega, rfl, HX.out.1⟩
  case round =>
    obtain ⟨k, hk, rfl, hpx⟩ := hrel
    by_cases hlt : k < 7
    ·
     as_aux_lemma =>
      obtain ⟨k4, hk4⟩ : ∃ k4, k4 = 4 * k := ⟨_, rfl⟩
      obtain ⟨o, ho⟩ : ∃ o, o = 20 + 4 * k := ⟨_, rfl⟩
      obtain ⟨o2, ho2⟩ : ∃ o, o = 24 + 4 * k := ⟨_, rfl⟩
      have f1 : 4 * (k : Int) = (k4 : Int) := by omega
      have f2 : 20 + (k4 : Int) = (o : Int) := by omega
      have f3 : 24 + (k4 : Int) = (o2 : Int) := by omega
      have z1 : (o : Int) ≤ (o2 : Int) := by omega
      have z2 : (o2 : Int) ≤ (cap : Int) := by omega
      have z3 : o2 - o = 4 := by omega
      have z4 : ¬ cap = o := by omega
      have z5 : k4 ≤ 24 := by omega
      have z6 : o ≤ 44 := by omega
      have z7 : o2 ≤ 48 := by omega
      have z8 : (k : Int) < 7 := by omega
      have hbl : IsBytes wr (some ⟨g, o, none⟩) (sub l o 4) := by
        obtain ⟨a', cap', e1, hb', -⟩ := hpx.rd.own.form
        injection e1 with e11 e12 e13
        rw [← e11] at hb'
        have := isBytes_cut hb' cap o o2 (by omega) (by rw [HX.out.2.1]; omega) (by rw [HX.out.2.1]; omega)
        unfold cutA at this
        rw [if_neg z4, z3] at this
        simp only [Option.map_some, Go.WideShapes.add_plain, Nat.zero_add] at this
        exact this
      have hlen : (sub l o 4).length = 4 := by unfold sub; rw [List.length_take, List.length_drop, HX.out.2.1]; omega
      have HN := Lib.hid (num_any (some ⟨g, o, none⟩) (sub l o 4) 4 (cap - o) wr hlen hbl (by omega))
      have hlt4 := numB_sub_lt l hpx.rd.own.lt256 o (by rw [HX.out.2.1]; omega)
      have hcell := hpx.blk.cell (8 + k) (wr7_cell p l aa ac k hlt)
      have fz := hpx.blk.fz (8 + k)
      have HS := Lib.hid (wr7_set p l aa ac k hlt)
      have HE := Lib.hid hpx
      have HO := Lib.hid ho
      obtain ⟨y, hy⟩ : ∃ y, y = numB (sub l o 4) := ⟨_, rfl⟩
      rw [← hy] at HN hlt4
      have HY := Lib.hid hy
      have ww : IntKind.u32.wrap (y : Int) = (y : Int) := by rw [IntKind.wrap_u32]; omega
      clear hpx hbl hlen hy hk4 ho ho2
      go_wp2_with fail
      refine HN.out.mono ?_
      rintro e1 W2 ⟨rfl, rfl⟩
      go_wp2_with fail
      go_roundw
      case rel =>
        refine ⟨k + 1, by omega, by go_num, ?_⟩
        have e1 : y = numB (sub l (20 + 4 * k) 4) := by rw [HY.out, HO.out]
        have hs := HE.out.store (8 + k) (.int .u32 (y : Nat)) (p' := { p with words := wr7 l (k + 1) }) (aa' := aa) (ac' := ac) (da' := none) (dc' := 0) (by rw [e1]; exact HS.out) (HE.out.keep HE.out.ao _ _) (HE.out.keep HE.out.od _ _)
        exact hs
      case measure => simp [intOf]; omega
    · have hk7 : k = 7 := by omega
      rw [hk7, wr7_all] at hpx
      have HR := Lib.hid hpx
      clear hpx hk7
      go_wp2_with fail
      refine HK.out _ _ ?_
      exact rxt_30 HR.out HX.out.2.1 hnc hlm hl47 hB hdn HX.out.2.2

set_option maxRecDepth 100000 in
set_option maxHeartbeats 2000000 in
theorem rxt_25n {w wx : World} {B rb R q g n cap at_ dn e an hd : Nat} {l : List Nat} {p : PD} {h d : Bool} (hx : Py w wx B rb R q (.slice (some ⟨g, 0, none⟩) n cap) l none 0 none 0 { p with words := wr7 l 0, ahs := [] }) (hhd : hd = 48 + an) (h48 : 48 + an ≤ n) (hcond : ¬ cap = 48) (hn : l.length = n) (hnc : n ≤ cap) (hlm : cap ≤ 9223372036854775807) (hl47 : n ≤ 140737488355328) (hB : B ≤ w.heap.size) (hdn : dn ≤ 256) (hT : Told l h d at_ dn e { p with words := wordsP l, ahs := sub l 48 an }) {u1 u3 u4 u5 u7 u14 u15 u16 u17 u18 u19 u20 u21 u22 u23 u24 u25 u26 u27 u28 u29 u30 u31 u32 u33 u34 u35 u36 u37 u38 u39 u40 u41 u42 u43 u44 u45 u46 u47 u48 u49 u50 u51 u52 u53 u54 u55 u56 u57 u58 u59 u60 u61 u62 u63 u64 u65 u66 u67 u68 u69 u70 u71 u72 u73 u74 u75 u76 u77 u78 u79 u80 u81 u82 u83 u84 u85 u86 u87 u88 u89 u90 u91 u92 u93 u94 u95 u96 u97 u98 u99 u100 u101 u102 u103 u104 u105 u106 u107 u108 u109 u110 u111 u112 u113 u114 u115 u116 u117 u118 u119 u120 u121 u122 u123 u124 u125 u126 u127 u128 u129 u130 u131 u132 u133 u134 u135 u136 u137 u138 u139 u140 u141 u142 u143 u144 u145 u146 u147 u148 u149 u150 u151 u152 u153 u154 u155 u156 u157 u158 u159 u160 u161 u162 u163 u164 u165 u166 u167 u168 u169 u170 u171 u172 u173 u174 u175 u176 u177 : Value} :
    Code.wp Try.prog (restOf Try.f17 25) (bodyPost Try.prog Try.f17 (NextRr w B rb l h d)) ⟨(.pointer (some ⟨rb, 0, none⟩) :: u1 :: .bool d :: u3 :: u4 :: u5 :: .pointer (some ⟨R, 0, none⟩) :: u7 :: .slice (some ⟨g, 0, none⟩) n cap :: .int .i64 (dn : Nat) :: .int .i64 (hd : Nat) :: .int .i64 (at_ : Nat) :: .int .i64 (e : Nat) :: .pointer (some ⟨q, 0, none⟩) :: u14 :: u15 :: u16 :: u17 :: u18 :: u19 :: u20 :: u21 :: u22 :: u23 :: u24 :: u25 :: u26 :: u27 :: u28 :: u29 :: u30 :: u31 :: u32 :: u33 :: u34 :: u35 :: u36 :: u37 :: u38 :: u39 :: u40 :: u41 :: u42 :: u43 :: u44 :: u45 :: u46 :: u47 :: u48 :: u49 :: u50 :: u51 :: u52 :: u53 :: u54 :: u55 :: u56 :: u57 :: u58 :: u59 :: u60 :: u61 :: u62 :: u63 :: u64 :: u65 :: u66 :: u67 :: u68 :: u69 :: u70 :: u71 :: u72 :: u73 :: u74 :: u75 :: u76 :: u77 :: u78 :: u79 :: u80 :: u81 :: u82 :: u83 :: u84 :: u85 :: u86 :: u87 :: u88 :: u89 :: u90 :: u91 :: u92 :: u93 :: u94 :: u95 :: u96 :: u97 :: u98 :: u99 :: u100 :: u101 :: u102 :: u103 :: u104 :: u105 :: u106 :: u107 :: u108 :: u109 :: u110 :: u111 :: u112 :: u113 :: u114 :: u115 :: u116 :: u117 :: u118 :: u119 :: u120 :: u121 :: u122 :: u123 :: u124 :: u125 :: u126 :: u127 :: u128 :: u129 :: u130 :: u131 :: u132 :: u133 :: u134 :: u135 :: u136 :: u137 :: u138 :: u139 :: u140 :: u141 :: u142 :: u143 :: u144 :: u145 :: u146 :: u147 :: u148 :: u149 :: u150 :: u151 :: u152 :: u153 :: u154 :: u155 :: u156 :: u157 :: u158 :: u159 :: u160 :: u161 :: u162 :: u163 :: u164 :: u165 :: u166 :: u167 :: u168 :: u169 :: u170 :: u171 :: u172 :: u173 :: u174 :: u175 :: u176 :: u177 :: []).toArray, []⟩ wx := by
  have hcn : (some ⟨g, 48, none⟩ : Option Addr) = none → cap - 48 = 0 := fun h => by cases h
  have hml : (sub l 48 an).length = an := by unfold sub; rw [List.length_take, List.length_drop]; omega
  have hby : IsBytes wx (some ⟨g, 48, none⟩ : Option Addr) (sub l 48 an) := by
    obtain ⟨a', cap', e1, hb', -⟩ := hx.rd.own.form
    injection e1 with e11 e12 e13
    rw [← e11] at hb'
    have hc := isBytes_cut hb' cap 48 (48 + an) (by omega) (by omega) (by omega)
    unfold cutA at hc
    rw [if_neg hcond, Nat.add_sub_cancel_left] at hc
    exact hc
  have z1 : (48 : Int) ≤ (hd : Int) := by omega
  have z2 : (hd : Int) ≤ (cap : Int) := by omega
  have z3 : hd - 48 = an := by omega
  have z4 : 48 ≤ hd := by omega
  have z5 : hd ≤ cap := by omega
  have z6 : (0 : Int) ≤ (hd : Int) := by omega
  have c5 : wx.drew.cell? ⟨q, 5, none⟩ = some (.slice none 0 0) := hx.blk.cell 5 (v := .slice none 0 0) rfl
  have HX := Lib.hid (And.intro hx (And.intro hn (And.intro hT (And.intro hby hml))))
  have HC := Lib.hid (And.intro hcond hhd)
  have HZ := HC
  clear hx hn hT hby hml hhd
  conv => arg 2; whnf
  refine wp_seq_k (fun K hK => ?_)
  have HK := Lib.hid hK
  clear hK
  refine wp_region_held_drew (S := fun w' => True) (by kernel_rfl) trivial (fun hHeld => ?_)
  refine wpAnyH_take (i := 0) (v := ?_) rfl (by kernel_rfl) (by kernel_rfl) (by kernel_rfl) (fun _ _ _ h => h) (Or.inl ⟨by rfl, ?_⟩) (by with_reducible assumption) ?_
  rotate_left
  · intro w hSw; (try dsimp only at hSw); (try go_split_ands); go_simp; (try with_reducible rfl)
  (try simp only [Act.put, List.getElem_toArray, List.getElem_cons_succ, List.getElem_cons_zero, List.setIfInBounds_toArray, List.set_cons_zero, List.set_cons_succ])
  refine wpAnyH_take (i := 2) (v := ?_) rfl (by kernel_rfl) (by kernel_rfl) (by kernel_rfl) (fun _ _ _ h => h) (Or.inl ⟨by rfl, ?_⟩) (by with_reducible assumption) ?_
  rotate_left
  · intro w hSw; (try dsimp only at hSw); (try go_split_ands); go_simp; (try with_reducible rfl)
  (try simp only [Act.put, List.getElem_toArray, List.getElem_cons_succ, List.getElem_cons_zero, List.setIfInBounds_toArray, List.set_cons_zero, List.set_cons_succ])
  refine wpAnyH_take (i := 3) (v := ?_) rfl (by kernel_rfl) (by kernel_rfl) (by kernel_rfl) (fun _ _ _ h => h) (Or.inl ⟨by rfl, ?_⟩) (by with_reducible assumption) ?_
  rotate_left
  · intro w hSw; (try dsimp only at hSw); (try go_split_ands); go_simp; (try with_reducible rfl)
  (try simp only [Act.put, List.getElem_toArray, List.getElem_cons_succ, List.getElem_cons_zero, List.setIfInBounds_toArray, List.set_cons_zero, List.set_cons_succ])
  refine wpAnyH_take (i := 4) (v := ?_) rfl (by kernel_rfl) (by kernel_rfl) (by kernel_rfl) (fun _ _ _ h => h) (Or.inl ⟨by rfl, ?_⟩) (by with_reducible assumption) ?_
  rotate_left
  · intro w hSw; (try dsimp only at hSw); (try go_split_ands); go_simp; (try with_reducible rfl)
  (try simp only [Act.put, List.getElem_toArray, List.getElem_cons_succ, List.getElem_cons_zero, List.setIfInBounds_toArray, List.set_cons_zero, List.set_cons_succ])
  refine wpAnyH_ready (rs := [1]) (by kernel_rfl) (by simp) ?_
  refine AllReadyH.cons rfl (fun K2 hK2 => ?_) AllReadyH.nil
  go_simp
  refine hK2.out _ _ trivial (fun hHeld => ?_)
  clear hK2 K2 c5
  (try simp only [Act.put, List.getElem_toArray, List.getElem_cons_succ, List.getElem_cons_zero, List.setIfInBounds_toArray, List.set_cons_zero, List.set_cons_succ])
  refine wpAnyH_ready (rs := [5]) (by kernel_rfl) (by simp) ?_
  refine AllReadyH.cons rfl (fun K2 hK2 => ?_) AllReadyH.nil
  refine step_app' (by rfl) (.tmp 123) (.tmp 126) (by rfl) wx.heap.size (.slice none 0 0) [] (by rfl) (Own.nil _ _) (some ⟨g, 48, none⟩ : Option Addr) an (cap - 48) (sub l 48 an) (by rfl) HX.out.2.2.2.2.symm HX.out.2.2.2.1 hcn (by rw [HX.out.2.2.2.2]; show 0 + an ≤ _; omega) (Nat.le_refl _) ?_
  intro v' w1 ho1 hb1 hg1
  have HBn : Hid (Below wx.heap.size wx w1) := Lib.hid ((Below.refl _ _).drew.trans hb1)
  have HO := Lib.hid (ho1.mono HX.out.1.but.size)
  obtain ⟨va, vn, vc, rfl, hvn⟩ := ho1.slice
  have hvn2 : vn = (sub l 48 an).length := hvn.out
  clear ho1 hb1 hg1 hvn
  subst hvn2
  refine hK2.out _ _ trivial (fun hHeld => ?_)
  clear hK2 K2
  (try simp only [Act.put, List.getElem_toArray, List.getElem_cons_succ, List.getElem_cons_zero, List.setIfInBounds_toArray, List.set_cons_zero, List.set_cons_succ])
  refine wpAnyH_take (i := 6) (v := ?_) rfl (by kernel_rfl) (by kernel_rfl) (by kernel_rfl) (fun _ _ _ h => h) (Or.inl ⟨by rfl, ?_⟩) (by with_reducible assumption) ?_
  rotate_left
  · intro w hSw; (try dsimp only at hSw); (try go_split_ands); go_simp; (try with_reducible rfl)
  (try simp only [Act.put, List.getElem_toArray, List.getElem_cons_succ, List.getElem_cons_zero, List.setIfInBounds_toArray, List.set_cons_zero, List.set_cons_succ])
  have c5 : w1.cell? ⟨q, 5, none⟩ = some (.slice none 0 0) := (HX.out.1.below HBn.out).blk.cell 5 rfl
  have fz : w1.frozen? ⟨q, 5, none⟩ = false := (HX.out.1.below HBn.out).blk.fz 5
  refine wpAnyH_ready (rs := [7]) (by kernel_rfl) (by simp) ?_
  refine AllReadyH.cons rfl (fun K2 hK2 => ?_) AllReadyH.nil
  go_simp
  refine hK2.out _ _ trivial (fun hHeld => ?_)
  clear hK2 K2 hHeld c5 fz
  (try simp only [Act.put, List.getElem_toArray, List.getElem_cons_succ, List.getElem_cons_zero, List.setIfInBounds_toArray, List.set_cons_zero, List.set_cons_succ])
  refine wpAnyH_done (by kernel_rfl) ?_ _
  refine HK.out _ _ ?_
  have hx1 := HX.out.1.below HBn.out
  have hx2 := hx1.store 5 (.slice va (sub l 48 an).length vc) (p' := { p with words := wr7 l 0, ahs := sub l 48 an }) (aa' := va) (ac' := vc) (da' := none) (dc' := 0) rfl (hx1.keep HO.out 5 _) (hx1.keep hx1.od 5 _)
  exact rxt_26 (p := { p with ahs := sub l 48 an }) hx2 (by omega) HX.out.2.1 hnc hlm hl47 hB hdn HX.out.2.2.1

set_option maxRecDepth 100000 in
set_option maxHeartbeats 2000000 in
theorem rxt_25p {w wx : World} {B rb R q g n cap at_ dn e an hd : Nat} {l : List Nat} {p : PD} {h d : Bool} (hx : Py w wx B rb R q (.slice (some ⟨g, 0, none⟩) n cap) l none 0 none 0 { p with words := wr7 l 0, ahs := [] }) (hhd : hd = 48 + an) (h48 : 48 + an ≤ n) (hcond : cap = 48) (hn : l.length = n) (hnc : n ≤ cap) (hlm : cap ≤ 9223372036854775807) (hl47 : n ≤ 140737488355328) (hB : B ≤ w.heap.size) (hdn : dn ≤ 256) (hT : Told l h d at_ dn e { p with words := wordsP l, ahs := sub l 48 an }) {u1 u3 u4 u5 u7 u14 u15 u16 u17 u18 u19 u20 u21 u22 u23 u24 u25 u26 u27 u28 u29 u30 u31 u32 u33 u34 u35 u36 u37 u38 u39 u40 u41 u42 u43 u44 u45 u46 u47 u48 u49 u50 u51 u52 u53 u54 u55 u56 u57 u58 u59 u60 u61 u62 u63 u64 u65 u66 u67 u68 u69 u70 u71 u72 u73 u74 u75 u76 u77 u78 u79 u80 u81 u82 u83 u84 u85 u86 u87 u88 u89 u90 u91 u92 u93 u94 u95 u96 u97 u98 u99 u100 u101 u102 u103 u104 u105 u106 u107 u108 u109 u110 u111 u112 u113 u114 u115 u116 u117 u118 u119 u120 u121 u122 u123 u124 u125 u126 u127 u128 u129 u130 u131 u132 u133 u134 u135 u136 u137 u138 u139 u140 u141 u142 u143 u144 u145 u146 u147 u148 u149 u150 u151 u152 u153 u154 u155 u156 u157 u158 u159 u160 u161 u162 u163 u164 u165 u166 u167 u168 u169 u170 u171 u172 u173 u174 u175 u176 u177 : Value} :
    Code.wp Try.prog (restOf Try.f17 25) (bodyPost Try.prog Try.f17 (NextRr w B rb l h d)) ⟨(.pointer (some ⟨rb, 0, none⟩) :: u1 :: .bool d :: u3 :: u4 :: u5 :: .pointer (some ⟨R, 0, none⟩) :: u7 :: .slice (some ⟨g, 0, none⟩) n cap :: .int .i64 (dn : Nat) :: .int .i64 (hd : Nat) :: .int .i64 (at_ : Nat) :: .int .i64 (e : Nat) :: .pointer (some ⟨q, 0, none⟩) :: u14 :: u15 :: u16 :: u17 :: u18 :: u19 :: u20 :: u21 :: u22 :: u23 :: u24 :: u25 :: u26 :: u27 :: u28 :: u29 :: u30 :: u31 :: u32 :: u33 :: u34 :: u35 :: u36 :: u37 :: u38 :: u39 :: u40 :: u41 :: u42 :: u43 :: u44 :: u45 :: u46 :: u47 :: u48 :: u49 :: u50 :: u51 :: u52 :: u53 :: u54 :: u55 :: u56 :: u57 :: u58 :: u59 :: u60 :: u61 :: u62 :: u63 :: u64 :: u65 :: u66 :: u67 :: u68 :: u69 :: u70 :: u71 :: u72 :: u73 :: u74 :: u75 :: u76 :: u77 :: u78 :: u79 :: u80 :: u81 :: u82 :: u83 :: u84 :: u85 :: u86 :: u87 :: u88 :: u89 :: u90 :: u91 :: u92 :: u93 :: u94 :: u95 :: u96 :: u97 :: u98 :: u99 :: u100 :: u101 :: u102 :: u103 :: u104 :: u105 :: u106 :: u107 :: u108 :: u109 :: u110 :: u111 :: u112 :: u113 :: u114 :: u115 :: u116 :: u117 :: u118 :: u119 :: u120 :: u121 :: u122 :: u123 :: u124 :: u125 :: u126 :: u127 :: u128 :: u129 :: u130 :: u131 :: u132 :: u133 :: u134 :: u135 :: u136 :: u137 :: u138 :: u139 :: u140 :: u141 :: u142 :: u143 :: u144 :: u145 :: u146 :: u147 :: u148 :: u149 :: u150 :: u151 :: u152 :: u153 :: u154 :: u155 :: u156 :: u157 :: u158 :: u159 :: u160 :: u161 :: u162 :: u163 :: u164 :: u165 :: u166 :: u167 :: u168 :: u169 :: u170 :: u171 :: u172 :: u173 :: u174 :: u175 :: u176 :: u177 :: []).toArray, []⟩ wx := by
  have hcn : (some ⟨g, 0, none⟩ : Option Addr) = none → cap - 48 = 0 := fun h => by cases h
  have hml : (sub l 48 an).length = an := by unfold sub; rw [List.length_take, List.length_drop]; omega
  have hby : IsBytes wx (some ⟨g, 0, none⟩ : Option Addr) (sub l 48 an) := by
    obtain ⟨a', cap', e1, hb', -⟩ := hx.rd.own.form
    injection e1 with e11 e12 e13
    rw [← e11] at hb'
    have hc := isBytes_cut hb' cap 48 (48 + an) (by omega) (by omega) (by omega)
    unfold cutA at hc
    rw [if_pos hcond, Nat.add_sub_cancel_left] at hc
    exact hc
  have z1 : (48 : Int) ≤ (hd : Int) := by omega
  have z2 : (hd : Int) ≤ (cap : Int) := by omega
  have z3 : hd - 48 = an := by omega
  have z4 : 48 ≤ hd := by omega
  have z5 : hd ≤ cap := by omega
  have z6 : (0 : Int) ≤ (hd : Int) := by omega
  have c5 : wx.drew.cell? ⟨q, 5, none⟩ = some (.slice none 0 0) := hx.blk.cell 5 (v := .slice none 0 0) rfl
  have HX := Lib.hid (And.intro hx (And.intro hn (And.intro hT (And.intro hby hml))))
  have HC := Lib.hid (And.intro hcond hhd)
  have hneT : (cap = 48) = True := eq_true hcond
  clear hcond
  clear hx hn hT hby hml hhd
  conv => arg 2; whnf
  refine wp_seq_k (fun K hK => ?_)
  have HK := Lib.hid hK
  clear hK
  refine wp_region_held_drew (S := fun w' => True) (by kernel_rfl) trivial (fun hHeld => ?_)
  refine wpAnyH_take (i := 0) (v := ?_) rfl (by kernel_rfl) (by kernel_rfl) (by kernel_rfl) (fun _ _ _ h => h) (Or.inl ⟨by rfl, ?_⟩) (by with_reducible assumption) ?_
  rotate_left
  · intro w hSw; (try dsimp only at hSw); (try go_split_ands); go_simp; (try with_reducible rfl)
  (try simp only [Act.put, List.getElem_toArray, List.getElem_cons_succ, List.getElem_cons_zero, List.setIfInBounds_toArray, List.set_cons_zero, List.set_cons_succ])
  refine wpAnyH_take (i := 2) (v := ?_) rfl (by kernel_rfl) (by kernel_rfl) (by kernel_rfl) (fun _ _ _ h => h) (Or.inl ⟨by rfl, ?_⟩) (by with_reducible assumption) ?_
  rotate_left
  · intro w hSw; (try dsimp only at hSw); (try go_split_ands); go_simp; (try with_reducible rfl)
  (try simp only [Act.put, List.getElem_toArray, List.getElem_cons_succ, List.getElem_cons_zero, List.setIfInBounds_toArray, List.set_cons_zero, List.set_cons_succ])
  refine wpAnyH_take (i := 3) (v := ?_) rfl (by kernel_rfl) (by kernel_rfl) (by kernel_rfl) (fun _ _ _ h => h) (Or.inl ⟨by rfl, ?_⟩) (by with_reducible assumption) ?_
  rotate_left
  · intro w hSw; (try dsimp only at hSw); (try go_split_ands); go_simp; (try with_reducible rfl)
  (try simp only [Act.put, List.getElem_toArray, List.getElem_cons_succ, List.getElem_cons_zero, List.setIfInBounds_toArray, List.set_cons_zero, List.set_cons_succ])
  refine wpAnyH_take (i := 4) (v := ?_) rfl (by kernel_rfl) (by kernel_rfl) (by kernel_rfl) (fun _ _ _ h => h) (Or.inl ⟨by rfl, ?_⟩) (by with_reducible assumption) ?_
  rotate_left
  · intro w hSw; (try dsimp only at hSw); (try go_split_ands); go_simp; (try with_reducible rfl)
  (try simp only [Act.put, List.getElem_toArray, List.getElem_cons_succ, List.getElem_cons_zero, List.setIfInBounds_toArray, List.set_cons_zero, List.set_cons_succ])
  refine wpAnyH_ready (rs := [1]) (by kernel_rfl) (by simp) ?_
  refine AllReadyH.cons rfl (fun K2 hK2 => ?_) AllReadyH.nil
  go_simp
  refine hK2.out _ _ trivial (fun hHeld => ?_)
  clear hK2 K2 c5
  (try simp only [Act.put, List.getElem_toArray, List.getElem_cons_succ, List.getElem_cons_zero, List.setIfInBounds_toArray, List.set_cons_zero, List.set_cons_succ])
  refine wpAnyH_ready (rs := [5]) (by kernel_rfl) (by simp) ?_
  refine AllReadyH.cons rfl (fun K2 hK2 => ?_) AllReadyH.nil
  refine step_app' (by rfl) (.tmp 123) (.tmp 126) (by rfl) wx.heap.size (.slice none 0 0) [] (by rfl) (Own.nil _ _) (some ⟨g, 0, none⟩ : Option Addr) an (cap - 48) (sub l 48 an) (by rfl) HX.out.2.2.2.2.symm HX.out.2.2.2.1 hcn (by rw [HX.out.2.2.2.2]; show 0 + an ≤ _; omega) (Nat.le_refl _) ?_
  intro v' w1 ho1 hb1 hg1
  have HBn : Hid (Below wx.heap.size wx w1) := Lib.hid ((Below.refl _ _).drew.trans hb1)
  have HO := Lib.hid (ho1.mono HX.out.1.but.size)
  obtain ⟨va, vn, vc, rfl, hvn⟩ := ho1.slice
  have hvn2 : vn = (sub l 48 an).length := hvn.out
  clear ho1 hb1 hg1 hvn
  subst hvn2
  refine hK2.out _ _ trivial (fun hHeld => ?_)
  clear hK2 K2
  (try simp only [Act.put, List.getElem_toArray, List.getElem_cons_succ, List.getElem_cons_zero, List.setIfInBounds_toArray, List.set_cons_zero, List.set_cons_succ])
  refine wpAnyH_take (i := 6) (v := ?_) rfl (by kernel_rfl) (by kernel_rfl) (by kernel_rfl) (fun _ _ _ h => h) (Or.inl ⟨by rfl, ?_⟩) (by with_reducible assumption) ?_
  rotate_left
  · intro w hSw; (try dsimp only at hSw); (try go_split_ands); go_simp; (try with_reducible rfl)
  (try simp only [Act.put, List.getElem_toArray, List.getElem_cons_succ, List.getElem_cons_zero, List.setIfInBounds_toArray, List.set_cons_zero, List.set_cons_succ])
  have c5 : w1.cell? ⟨q, 5, none⟩ = some (.slice none 0 0) := (HX.out.1.below HBn.out).blk.cell 5 rfl
  have fz : w1.frozen? ⟨q, 5, none⟩ = false := (HX.out.1.below HBn.out).blk.fz 5
  refine wpAnyH_ready (rs := [7]) (by kernel_rfl) (by simp) ?_
  refine AllReadyH.cons rfl (fun K2 hK2 => ?_) AllReadyH.nil
  go_simp
  refine hK2.out _ _ trivial (fun hHeld => ?_)
  clear hK2 K2 hHeld c5 fz
  (try simp only [Act.put, List.getElem_toArray, List.getElem_cons_succ, List.getElem_cons_zero, List.setIfInBounds_toArray, List.set_cons_zero, List.set_cons_succ])
  refine wpAnyH_done (by kernel_rfl) ?_ _
  refine HK.out _ _ ?_
  have hx1 := HX.out.1.below HBn.out
  have hx2 := hx1.store 5 (.slice va (sub l 48 an).length vc) (p' := { p with words := wr7 l 0, ahs := sub l 48 an }) (aa' := va) (ac' := vc) (da' := none) (dc' := 0) rfl (hx1.keep HO.out 5 _) (hx1.keep hx1.od 5 _)
  exact rxt_26 (p := { p with ahs := sub l 48 an }) hx2 (by omega) HX.out.2.1 hnc hlm hl47 hB hdn HX.out.2.2.1

theorem rxt_25 {w wx : World} {B rb R q g n cap at_ dn e an hd : Nat} {l : List Nat} {p : PD} {h d : Bool} (hx : Py w wx B rb R q (.slice (some ⟨g, 0, none⟩) n cap) l none 0 none 0 { p with words := wr7 l 0, ahs := [] }) (hhd : hd = 48 + an) (h48 : 48 + an ≤ n) (hn : l.length = n) (hnc : n ≤ cap) (hlm : cap ≤ 9223372036854775807) (hl47 : n ≤ 140737488355328) (hB : B ≤ w.heap.size) (hdn : dn ≤ 256) (hT : Told l h d at_ dn e { p with words := wordsP l, ahs := sub l 48 an }) {u1 u3 u4 u5 u7 u14 u15 u16 u17 u18 u19 u20 u21 u22 u23 u24 u25 u26 u27 u28 u29 u30 u31 u32 u33 u34 u35 u36 u37 u38 u39 u40 u41 u42 u43 u44 u45 u46 u47 u48 u49 u50 u51 u52 u53 u54 u55 u56 u57 u58 u59 u60 u61 u62 u63 u64 u65 u66 u67 u68 u69 u70 u71 u72 u73 u74 u75 u76 u77 u78 u79 u80 u81 u82 u83 u84 u85 u86 u87 u88 u89 u90 u91 u92 u93 u94 u95 u96 u97 u98 u99 u100 u101 u102 u103 u104 u105 u106 u107 u108 u109 u110 u111 u112 u113 u114 u115 u116 u117 u118 u119 u120 u121 u122 u123 u124 u125 u126 u127 u128 u129 u130 u131 u132 u133 u134 u135 u136 u137 u138 u139 u140 u141 u142 u143 u144 u145 u146 u147 u148 u149 u150 u151 u152 u153 u154 u155 u156 u157 u158 u159 u160 u161 u162 u163 u164 u165 u166 u167 u168 u169 u170 u171 u172 u173 u174 u175 u176 u177 : Value} :
    Code.wp Try.prog (restOf Try.f17 25) (bodyPost Try.prog Try.f17 (NextRr w B rb l h d)) ⟨(.pointer (some ⟨rb, 0, none⟩) :: u1 :: .bool d :: u3 :: u4 :: u5 :: .pointer (some ⟨R, 0, none⟩) :: u7 :: .slice (some ⟨g, 0, none⟩) n cap :: .int .i64 (dn : Nat) :: .int .i64 (hd : Nat) :: .int .i64 (at_ : Nat) :: .int .i64 (e : Nat) :: .pointer (some ⟨q, 0, none⟩) :: u14 :: u15 :: u16 :: u17 :: u18 :: u19 :: u20 :: u21 :: u22 :: u23 :: u24 :: u25 :: u26 :: u27 :: u28 :: u29 :: u30 :: u31 :: u32 :: u33 :: u34 :: u35 :: u36 :: u37 :: u38 :: u39 :: u40 :: u41 :: u42 :: u43 :: u44 :: u45 :: u46 :: u47 :: u48 :: u49 :: u50 :: u51 :: u52 :: u53 :: u54 :: u55 :: u56 :: u57 :: u58 :: u59 :: u60 :: u61 :: u62 :: u63 :: u64 :: u65 :: u66 :: u67 :: u68 :: u69 :: u70 :: u71 :: u72 :: u73 :: u74 :: u75 :: u76 :: u77 :: u78 :: u79 :: u80 :: u81 :: u82 :: u83 :: u84 :: u85 :: u86 :: u87 :: u88 :: u89 :: u90 :: u91 :: u92 :: u93 :: u94 :: u95 :: u96 :: u97 :: u98 :: u99 :: u100 :: u101 :: u102 :: u103 :: u104 :: u105 :: u106 :: u107 :: u108 :: u109 :: u110 :: u111 :: u112 :: u113 :: u114 :: u115 :: u116 :: u117 :: u118 :: u119 :: u120 :: u121 :: u122 :: u123 :: u124 :: u125 :: u126 :: u127 :: u128 :: u129 :: u130 :: u131 :: u132 :: u133 :: u134 :: u135 :: u136 :: u137 :: u138 :: u139 :: u140 :: u141 :: u142 :: u143 :: u144 :: u145 :: u146 :: u147 :: u148 :: u149 :: u150 :: u151 :: u152 :: u153 :: u154 :: u155 :: u156 :: u157 :: u158 :: u159 :: u160 :: u161 :: u162 :: u163 :: u164 :: u165 :: u166 :: u167 :: u168 :: u169 :: u170 :: u171 :: u172 :: u173 :: u174 :: u175 :: u176 :: u177 :: []).toArray, []⟩ wx := by
  by_cases hc : cap = 48
  · exact rxt_25p hx hhd h48 hc hn hnc hlm hl47 hB hdn hT
  · exact rxt_25n hx hhd h48 hc hn hnc hlm hl47 hB hdn hT
set_option maxRecDepth 100000 in
set_option maxHeartbeats 2000000 in
theorem rxt_23 {w wx : World} {B rb R q g n cap at_ dn e an hd : Nat} {l : List Nat} {p : PD} {h d : Bool} (hx : Py w wx B rb R q (.slice (some ⟨g, 0, none⟩) n cap) l none 0 none 0 { p with words := wr7 l 0, ahs := [], s0 := 0, s1 := 0 }) (hhd : hd = 48 + an) (h48 : 48 + an ≤ n) (hn : l.length = n) (hnc : n ≤ cap) (hlm : cap ≤ 9223372036854775807) (hl47 : n ≤ 140737488355328) (hB : B ≤ w.heap.size) (hdn : dn ≤ 256) (hT : Told l h d at_ dn e { p with words := wordsP l, ahs := sub l 48 an, s0 := l.getD 2 0, s1 := l.getD 3 0 }) {u1 u3 u4 u5 u7 u14 u15 u16 u17 u18 u19 u20 u21 u22 u23 u24 u25 u26 u27 u28 u29 u30 u31 u32 u33 u34 u35 u36 u37 u38 u39 u40 u41 u42 u43 u44 u45 u46 u47 u48 u49 u50 u51 u52 u53 u54 u55 u56 u57 u58 u59 u60 u61 u62 u63 u64 u65 u66 u67 u68 u69 u70 u71 u72 u73 u74 u75 u76 u77 u78 u79 u80 u81 u82 u83 u84 u85 u86 u87 u88 u89 u90 u91 u92 u93 u94 u95 u96 u97 u98 u99 u100 u101 u102 u103 u104 u105 u106 u107 u108 u109 u110 u111 u112 u113 u114 u115 u116 u117 u118 u119 u120 u121 u122 u123 u124 u125 u126 u127 u128 u129 u130 u131 u132 u133 u134 u135 u136 u137 u138 u139 u140 u141 u142 u143 u144 u145 u146 u147 u148 u149 u150 u151 u152 u153 u154 u155 u156 u157 u158 u159 u160 u161 u162 u163 u164 u165 u166 u167 u168 u169 u170 u171 u172 u173 u174 u175 u176 u177 : Value} :
    Code.wp Try.prog (restOf Try.f17 23) (bodyPost Try.prog Try.f17 (NextRr w B rb l h d)) ⟨(.pointer (some ⟨rb, 0, none⟩) :: u1 :: .bool d :: u3 :: u4 :: u5 :: .pointer (some ⟨R, 0, none⟩) :: u7 :: .slice (some ⟨g, 0, none⟩) n cap :: .int .i64 (dn : Nat) :: .int .i64 (hd : Nat) :: .int .i64 (at_ : Nat) :: .int .i64 (e : Nat) :: .pointer (some ⟨q, 0, none⟩) :: u14 :: u15 :: u16 :: u17 :: u18 :: u19 :: u20 :: u21 :: u22 :: u23 :: u24 :: u25 :: u26 :: u27 :: u28 :: u29 :: u30 :: u31 :: u32 :: u33 :: u34 :: u35 :: u36 :: u37 :: u38 :: u39 :: u40 :: u41 :: u42 :: u43 :: u44 :: u45 :: u46 :: u47 :: u48 :: u49 :: u50 :: u51 :: u52 :: u53 :: u54 :: u55 :: u56 :: u57 :: u58 :: u59 :: u60 :: u61 :: u62 :: u63 :: u64 :: u65 :: u66 :: u67 :: u68 :: u69 :: u70 :: u71 :: u72 :: u73 :: u74 :: u75 :: u76 :: u77 :: u78 :: u79 :: u80 :: u81 :: u82 :: u83 :: u84 :: u85 :: u86 :: u87 :: u88 :: u89 :: u90 :: u91 :: u92 :: u93 :: u94 :: u95 :: u96 :: u97 :: u98 :: u99 :: u100 :: u101 :: u102 :: u103 :: u104 :: u105 :: u106 :: u107 :: u108 :: u109 :: u110 :: u111 :: u112 :: u113 :: u114 :: u115 :: u116 :: u117 :: u118 :: u119 :: u120 :: u121 :: u122 :: u123 :: u124 :: u125 :: u126 :: u127 :: u128 :: u129 :: u130 :: u131 :: u132 :: u133 :: u134 :: u135 :: u136 :: u137 :: u138 :: u139 :: u140 :: u141 :: u142 :: u143 :: u144 :: u145 :: u146 :: u147 :: u148 :: u149 :: u150 :: u151 :: u152 :: u153 :: u154 :: u155 :: u156 :: u157 :: u158 :: u159 :: u160 :: u161 :: u162 :: u163 :: u164 :: u165 :: u166 :: u167 :: u168 :: u169 :: u170 :: u171 :: u172 :: u173 :: u174 :: u175 :: u176 :: u177 :: []).toArray, []⟩ wx := by
  have e2 := hx.rd.own.cells 2 (by omega)
  have e3 := hx.rd.own.cells 3 (by omega)
  have c3 := hx.blk.cell 3 (v := .int .u8 0) rfl
  have c4 := hx.blk.cell 4 (v := .int .u8 0) rfl
  have fz := hx.blk.fz
  have hgq : g ≠ q := fun e => hx.rd.own.ne_blk hx.blk (by decide) (by rw [e]; rfl)
  have hqg : q ≠ g := fun e => hgq e.symm
  have HX := Lib.hid (And.intro hx (And.intro hn hT))
  have HHD := Lib.hid hhd
  clear hx hn hT hhd
  obtain ⟨b2, hb2⟩ : ∃ c, c = l.getD 2 0 := ⟨_, rfl⟩
  obtain ⟨b3, hb3⟩ : ∃ c, c = l.getD 3 0 := ⟨_, rfl⟩
  rw [← hb2] at e2
  rw [← hb3] at e3
  have HB23 := Lib.hid (And.intro hb2 hb3)
  clear hb2 hb3
  have v1 : (2 : Int) < (n : Int) := by omega
  have v2 : (3 : Int) < (n : Int) := by omega
  have v3 : 2 < n := by omega
  have v4 : 3 < n := by omega
  conv => arg 2; whnf
  refine wp_seq_k (fun K hK => ?_)
  have HK := Lib.hid hK
  clear hK
  go_wp2_with fail
  refine HK.out _ _ ?_
  refine wp_seq_k (fun K2 hK2 => ?_)
  have HK2 := Lib.hid hK2
  clear hK2
  go_wp2_with fail
  refine HK2.out _ _ ?_
  have h1 := HX.out.1.store 3 (.int .u8 (b2 : Nat)) (p' := { p with words := wr7 l 0, ahs := [], s0 := b2, s1 := 0 }) (aa' := none) (ac' := 0) (da' := none) (dc' := 0) rfl (HX.out.1.keep HX.out.1.ao 3 _) (HX.out.1.keep HX.out.1.od 3 _)
  have h2 := h1.store 4 (.int .u8 (b3 : Nat)) (p' := { p with words := wr7 l 0, ahs := [], s0 := b2, s1 := b3 }) (aa' := none) (ac' := 0) (da' := none) (dc' := 0) rfl (h1.keep h1.ao 4 _) (h1.keep h1.od 4 _)
  exact rxt_25 (p := { p with s0 := b2, s1 := b3 }) h2 HHD.out h48 HX.out.2.1 hnc hlm hl47 hB hdn (by have := HX.out.2.2; rw [← HB23.out.1, ← HB23.out.2] at this; exact this)
end Go.Proofs.Ytaehaclmagnncaa
