-- slots 245
/-
  pdu: Next, behind the tests of the headers: the rest of its code, part by part (3).
-/
import Derived.Test.YtaehaclmagnncaaPduTm
import Derived.Deep.DeepCutAuto
import Derived.Deep.CutBlock
import Derived.Deep.RegionHeld3
import Derived.StillTailTactics
import Derived.RegionTactic
import Derived.ChangeAlike
import Derived.Lib.EndianBits
import Derived.IntWalk
import Derived.Outline
namespace Go.Proofs.Ytaehaclmagnncaa
set_option linter.unusedVariables false
set_option linter.unusedSimpArgs false
open Go.RowKit
attribute [local go_sem ↓] Go.wp_at_zero Go.wp_at_succ


set_option maxRecDepth 100000 in
set_option maxHeartbeats 4000000 in
theorem nxt_23b {w wx : World} {B rb R tb g n cap an : Nat} {l : List Nat} {h d : Bool} (hx : Nx w wx B rb g n cap R tb l) (h48 : 48 + an ≤ n) (hn : l.length = n) (hnc : n ≤ cap) (hne : cap = 48) (hcm : cap ≤ maxLen) (hlm : n ≤ 140737488355328) (hB : B ≤ w.heap.size) (at_ dn e : Nat) (han : ahsN l = an) (hc128 : l.getD 0 0 < 128) (hT : Told l h d at_ dn e (readP l)) {u1 u3 u4 u5 u7 u13 u14 u15 u16 u17 u18 u19 u20 u21 u22 u23 u24 u25 u26 u27 u28 u29 u30 u31 u32 u33 u34 u35 u36 u37 u38 u39 u40 u41 u42 u43 u44 u45 u46 u47 u48 u49 u50 u51 u52 u53 u54 u55 u56 u57 u58 u59 u60 u61 u62 u63 u64 u65 u66 u67 u68 u69 u70 u71 u72 u73 u74 u75 u76 u77 u78 u79 u80 u81 u82 u83 u84 u85 u86 u87 u88 u89 u90 u91 u92 u93 u94 u95 u96 u97 u98 u99 u100 u101 u102 u103 u104 u105 u106 u107 u108 u109 u110 u111 u112 u113 u114 u115 u116 u117 u118 u119 u120 u121 u122 u123 u124 u125 u126 u127 u128 u129 u130 u131 u132 u133 u134 u135 u136 u137 u138 u139 u140 u141 u142 u143 u144 u145 u146 u147 u148 u149 u150 u151 u152 u153 u154 u155 u156 u157 u158 u159 u160 u161 u162 u163 u164 u165 u166 u167 u168 u169 u170 u171 u172 u173 u174 u175 u176 u177 u178 u179 u180 u181 u182 u183 u184 u185 u186 u187 u188 u189 u190 u191 u192 u193 u194 u195 u196 u197 u198 u199 u200 u201 u202 u203 u204 u205 u206 u207 u208 u209 u210 u211 u212 u213 u214 u215 u216 u217 u218 u219 u220 u221 u222 u223 u224 u225 u226 u227 u228 u229 u230 u231 u232 u233 u234 u235 u236 u237 u238 u239 u240 u241 u242 u243 u244 : Value} :
    Code.wp Try.prog (restOf Try.f16 23) (bodyPost Try.prog Try.f16 (NextR w B rb l h d)) ⟨(.pointer (some ⟨rb, 0, none⟩) :: u1 :: .bool d :: u3 :: u4 :: u5 :: .pointer (some ⟨R, 0, none⟩) :: u7 :: .slice (some ⟨g, 0, none⟩) n cap :: .int .i64 (an : Nat) :: .int .i64 (dn : Nat) :: .int .i64 (at_ : Nat) :: .int .i64 (e : Nat) :: u13 :: u14 :: u15 :: u16 :: u17 :: u18 :: u19 :: u20 :: u21 :: u22 :: u23 :: u24 :: u25 :: u26 :: u27 :: u28 :: u29 :: u30 :: u31 :: u32 :: u33 :: u34 :: u35 :: u36 :: u37 :: u38 :: u39 :: u40 :: u41 :: u42 :: u43 :: u44 :: u45 :: u46 :: u47 :: u48 :: u49 :: u50 :: u51 :: u52 :: u53 :: u54 :: u55 :: u56 :: u57 :: u58 :: u59 :: u60 :: u61 :: u62 :: u63 :: u64 :: u65 :: u66 :: u67 :: u68 :: u69 :: u70 :: u71 :: u72 :: u73 :: u74 :: u75 :: u76 :: u77 :: u78 :: u79 :: u80 :: u81 :: u82 :: u83 :: u84 :: u85 :: u86 :: u87 :: u88 :: u89 :: u90 :: u91 :: u92 :: u93 :: u94 :: u95 :: u96 :: u97 :: u98 :: u99 :: u100 :: u101 :: u102 :: u103 :: u104 :: u105 :: u106 :: u107 :: u108 :: u109 :: u110 :: u111 :: u112 :: u113 :: u114 :: u115 :: u116 :: u117 :: u118 :: u119 :: u120 :: u121 :: u122 :: u123 :: u124 :: u125 :: u126 :: u127 :: u128 :: u129 :: u130 :: u131 :: u132 :: u133 :: u134 :: u135 :: u136 :: u137 :: u138 :: u139 :: u140 :: u141 :: u142 :: u143 :: u144 :: u145 :: u146 :: u147 :: u148 :: u149 :: u150 :: u151 :: u152 :: u153 :: u154 :: u155 :: u156 :: u157 :: u158 :: u159 :: u160 :: u161 :: u162 :: u163 :: u164 :: u165 :: u166 :: u167 :: u168 :: u169 :: u170 :: u171 :: u172 :: u173 :: u174 :: u175 :: u176 :: u177 :: u178 :: u179 :: u180 :: u181 :: u182 :: u183 :: u184 :: u185 :: u186 :: u187 :: u188 :: u189 :: u190 :: u191 :: u192 :: u193 :: u194 :: u195 :: u196 :: u197 :: u198 :: u199 :: u200 :: u201 :: u202 :: u203 :: u204 :: u205 :: u206 :: u207 :: u208 :: u209 :: u210 :: u211 :: u212 :: u213 :: u214 :: u215 :: u216 :: u217 :: u218 :: u219 :: u220 :: u221 :: u222 :: u223 :: u224 :: u225 :: u226 :: u227 :: u228 :: u229 :: u230 :: u231 :: u232 :: u233 :: u234 :: u235 :: u236 :: u237 :: u238 :: u239 :: u240 :: u241 :: u242 :: u243 :: u244 :: []).toArray, []⟩ wx := by
  have hsub : (sub l 48 an).length = an := by unfold sub; rw [List.length_take, List.length_drop]; omega
  have HS : Hid (∀ w', Below wx.heap.size wx w' → (w'.cell? ⟨g, 0, none⟩ = some (.int .u8 (l.getD 0 0 : Nat)) ∧ w'.cell? ⟨g, 1, none⟩ = some (.int .u8 (l.getD 1 0 : Nat)) ∧ w'.cell? ⟨g, 2, none⟩ = some (.int .u8 (l.getD 2 0 : Nat)) ∧ w'.cell? ⟨g, 3, none⟩ = some (.int .u8 (l.getD 3 0 : Nat))) ∧ Below wx.heap.size wx w') := Lib.hid (fun w' hw => by
    have hc := (hx.rd.below hw).own
    exact ⟨⟨hc.cells 0 (by omega), hc.cells 1 (by omega), hc.cells 2 (by omega), hc.cells 3 (by omega)⟩, hw⟩)
  have HBy : Hid (∀ w', Below wx.heap.size wx w' → IsBytes w' (some ⟨g, 0, none⟩) (sub l 48 an)) := Lib.hid (fun w' hw => by
    obtain ⟨a', cap', he, hb', -⟩ := (hx.rd.below hw).own.form
    injection he with he1 he2 he3
    rw [← he1] at hb'
    have hc := isBytes_cut hb' cap 48 (48 + an) (by omega) (by omega) (by omega)
    unfold cutA at hc
    rw [if_pos hne, Nat.add_sub_cancel_left] at hc
    exact hc)
  have g0 := hx.rd.own.lt256 0
  have x63 := and63 _ g0
  have x64 := and64 _ g0
  obtain ⟨y0, hy0⟩ : ∃ y, y = l.getD 0 0 % 64 := ⟨_, rfl⟩
  obtain ⟨z0, hz0⟩ : ∃ y, y = l.getD 0 0 / 64 % 2 * 64 := ⟨_, rfl⟩
  rw [← hy0] at x63
  rw [← hz0] at x64
  have wy : IntKind.i64.wrap (y0 : Int) = (y0 : Int) := IntWalk.i64_in _ (by omega)
  have hz : ((z0 : Int) != 0) = decide (64 ≤ l.getD 0 0) := by
    by_cases h6 : 64 ≤ l.getD 0 0
    · rw [decide_eq_true h6]; simp; omega
    · rw [decide_eq_false h6]; simp; omega
  obtain ⟨im, him⟩ : ∃ y, y = decide (64 ≤ l.getD 0 0) := ⟨_, rfl⟩
  rw [← him] at hz
  have HX := Lib.hid (And.intro hx (And.intro hn (And.intro hT (And.intro hsub (And.intro hy0 (And.intro him han))))))
  have ww : IntKind.i64.wrap (48 + (an : Int)) = 48 + (an : Int) := by
    have : cap ≤ 9223372036854775807 := by unfold maxLen at hcm; omega
    exact IntWalk.i64_in _ (by omega)
  have v0 : (0 : Int) ≤ 48 + (an : Int) := by omega
  have v1 : (48 + (an : Int)).toNat = 48 + an := by omega
  have v2 : 48 + (an : Int) ≤ (cap : Int) := by omega
  have v3 : (48 : Int) ≤ 48 + (an : Int) := by omega
  have v4 : 48 + an - 48 = an := by omega
  have v5 : ¬ cap = 2 := by omega
  have v6 : 4 ≤ cap := by omega
  have v7 : (0 : Int) < (n : Int) := by omega
  have v8 : (1 : Int) < (n : Int) := by omega
  have v9 : 0 < n := by omega
  have v10 : 1 < n := by omega
  have v11 : 48 + an ≤ cap := by omega
  have v12 : (4 : Int) ≤ (cap : Int) := by omega
  have sa := fun w => run_arrayAt (P := Try.prog) (t := 22) (n := 2) (len := 2) (cap := cap - 2) (some ⟨g, 2, none⟩) Try.underlying22 (by omega) w
  have HLe := Lib.hid hx.but.size
  have hneT : (cap = 48) = True := eq_true hne
  have HNE := Lib.hid hne
  clear hne
  clear hx hn hT hsub hy0 hz0 him han g0 hc128
  obtain ⟨c0, hc0⟩ : ∃ c, c = l.getD 0 0 := ⟨_, rfl⟩
  obtain ⟨c1, hc1⟩ : ∃ c, c = l.getD 1 0 := ⟨_, rfl⟩
  obtain ⟨c2, hc2⟩ : ∃ c, c = l.getD 2 0 := ⟨_, rfl⟩
  obtain ⟨c3, hc3⟩ : ∃ c, c = l.getD 3 0 := ⟨_, rfl⟩
  rw [← hc0] at x63 x64
  rw [← hc0, ← hc1, ← hc2, ← hc3] at HS
  have HR := Lib.hid (And.intro hc0.symm (And.intro hc1.symm (And.intro hc2.symm hc3.symm)))
  clear hc0 hc1 hc2 hc3
  conv => arg 2; whnf
  refine wp_seq_k (fun K hK => ?_)
  have HK := Lib.hid hK
  clear hK
  refine wp_region_held_drew (S := fun w' => (w'.cell? ⟨g, 0, none⟩ = some (.int .u8 (c0 : Nat)) ∧ w'.cell? ⟨g, 1, none⟩ = some (.int .u8 (c1 : Nat)) ∧ w'.cell? ⟨g, 2, none⟩ = some (.int .u8 (c2 : Nat)) ∧ w'.cell? ⟨g, 3, none⟩ = some (.int .u8 (c3 : Nat))) ∧ Below wx.heap.size wx w') (by kernel_rfl) (by exact HS.out _ (Below.refl _ _).drew) (fun hHeld => ?_)
  refine wpAnyH_take (i := 0) (v := ?_) rfl (by kernel_rfl) (by kernel_rfl) (by kernel_rfl) (fun _ _ _ h => h) (Or.inl ⟨by rfl, ?_⟩) (by with_reducible assumption) ?_
  rotate_left
  · intro w hSw; (try dsimp only at hSw); (try go_split_ands); go_simp; (try with_reducible rfl)
  (try simp only [Act.put, List.getElem_toArray, List.getElem_cons_succ, List.getElem_cons_zero, List.setIfInBounds_toArray, List.set_cons_zero, List.set_cons_succ])
  refine wpAnyH_take (i := 1) (v := ?_) rfl (by kernel_rfl) (by kernel_rfl) (by kernel_rfl) (fun _ _ _ h => h) (Or.inl ⟨by rfl, ?_⟩) (by with_reducible assumption) ?_
  rotate_left
  · intro w hSw; (try dsimp only at hSw); (try go_split_ands); go_simp; (try with_reducible rfl)
  (try simp only [Act.put, List.getElem_toArray, List.getElem_cons_succ, List.getElem_cons_zero, List.setIfInBounds_toArray, List.set_cons_zero, List.set_cons_succ])
  refine wpAnyH_take (i := 2) (v := ?_) rfl (by kernel_rfl) (by kernel_rfl) (by kernel_rfl) (fun _ _ _ h => h) (Or.inl ⟨by rfl, ?_⟩) (by with_reducible assumption) ?_
  rotate_left
  · intro w hSw; (try dsimp only at hSw); (try go_split_ands); go_simp; (try with_reducible rfl)
  (try simp only [Act.put, List.getElem_toArray, List.getElem_cons_succ, List.getElem_cons_zero, List.setIfInBounds_toArray, List.set_cons_zero, List.set_cons_succ])
  refine wpAnyH_take (i := 3) (v := ?_) rfl (by kernel_rfl) (by kernel_rfl) (by kernel_rfl) (fun _ _ _ h => h) (Or.inl ⟨by rfl, ?_⟩) (by with_reducible assumption) ?_
  rotate_left
  · intro w hSw; (try dsimp only at hSw); (try go_split_ands); go_simp; (try with_reducible rfl)
  (try simp only [Act.put, List.getElem_toArray, List.getElem_cons_succ, List.getElem_cons_zero, List.setIfInBounds_toArray, List.set_cons_zero, List.set_cons_succ])
  refine wpAnyH_take (i := 4) (v := ?_) rfl (by kernel_rfl) (by kernel_rfl) (by kernel_rfl) (fun _ _ _ h => h) (Or.inl ⟨by rfl, ?_⟩) (by with_reducible assumption) ?_
  rotate_left
  · intro w hSw; (try dsimp only at hSw); (try go_split_ands); go_simp; (try with_reducible rfl)
  (try simp only [Act.put, List.getElem_toArray, List.getElem_cons_succ, List.getElem_cons_zero, List.setIfInBounds_toArray, List.set_cons_zero, List.set_cons_succ])
  refine wpAnyH_take (i := 5) (v := ?_) rfl (by kernel_rfl) (by kernel_rfl) (by kernel_rfl) (fun _ _ _ h => h) (Or.inl ⟨by rfl, ?_⟩) (by with_reducible assumption) ?_
  rotate_left
  · intro w hSw; (try dsimp only at hSw); (try go_split_ands); go_simp; (try with_reducible rfl)
  (try simp only [Act.put, List.getElem_toArray, List.getElem_cons_succ, List.getElem_cons_zero, List.setIfInBounds_toArray, List.set_cons_zero, List.set_cons_succ])
  refine wpAnyH_take (i := 6) (v := ?_) rfl (by kernel_rfl) (by kernel_rfl) (by kernel_rfl) (fun _ _ _ h => h) (Or.inl ⟨by rfl, ?_⟩) (by with_reducible assumption) ?_
  rotate_left
  · intro w hSw; (try dsimp only at hSw); (try go_split_ands); go_simp; (try with_reducible rfl)
  (try simp only [Act.put, List.getElem_toArray, List.getElem_cons_succ, List.getElem_cons_zero, List.setIfInBounds_toArray, List.set_cons_zero, List.set_cons_succ])
  refine wpAnyH_take (i := 7) (v := ?_) rfl (by kernel_rfl) (by kernel_rfl) (by kernel_rfl) (fun _ _ _ h => h) (Or.inl ⟨by rfl, ?_⟩) (by with_reducible assumption) ?_
  rotate_left
  · intro w hSw; (try dsimp only at hSw); (try go_split_ands); go_simp; (try with_reducible rfl)
  (try simp only [Act.put, List.getElem_toArray, List.getElem_cons_succ, List.getElem_cons_zero, List.setIfInBounds_toArray, List.set_cons_zero, List.set_cons_succ])
  refine wpAnyH_take (i := 8) (v := ?_) rfl (by kernel_rfl) (by kernel_rfl) (by kernel_rfl) (fun _ _ _ h => h) (Or.inl ⟨by rfl, ?_⟩) (by with_reducible assumption) ?_
  rotate_left
  · intro w hSw; (try dsimp only at hSw); (try go_split_ands); go_simp; (try with_reducible rfl)
  (try simp only [Act.put, List.getElem_toArray, List.getElem_cons_succ, List.getElem_cons_zero, List.setIfInBounds_toArray, List.set_cons_zero, List.set_cons_succ])
  refine wpAnyH_take (i := 9) (v := ?_) rfl (by kernel_rfl) (by kernel_rfl) (by kernel_rfl) (fun _ _ _ h => h) (Or.inl ⟨by rfl, ?_⟩) (by with_reducible assumption) ?_
  rotate_left
  · intro w hSw; (try dsimp only at hSw); (try go_split_ands); go_simp; (try with_reducible rfl)
  (try simp only [Act.put, List.getElem_toArray, List.getElem_cons_succ, List.getElem_cons_zero, List.setIfInBounds_toArray, List.set_cons_zero, List.set_cons_succ])
  refine wpAnyH_take (i := 10) (v := ?_) rfl (by kernel_rfl) (by kernel_rfl) (by kernel_rfl) (fun _ _ _ h => h) (Or.inl ⟨by rfl, ?_⟩) (by with_reducible assumption) ?_
  rotate_left
  · intro w hSw; (try dsimp only at hSw); (try go_split_ands); go_simp; (try with_reducible rfl)
  (try simp only [Act.put, List.getElem_toArray, List.getElem_cons_succ, List.getElem_cons_zero, List.setIfInBounds_toArray, List.set_cons_zero, List.set_cons_succ])
  refine wpAnyH_take (i := 11) (v := ?_) rfl (by kernel_rfl) (by kernel_rfl) (by kernel_rfl) (fun _ _ _ h => h) (Or.inl ⟨by rfl, ?_⟩) (by with_reducible assumption) ?_
  rotate_left
  · intro w hSw; (try dsimp only at hSw); (try go_split_ands); go_simp; (try with_reducible rfl)
  (try simp only [Act.put, List.getElem_toArray, List.getElem_cons_succ, List.getElem_cons_zero, List.setIfInBounds_toArray, List.set_cons_zero, List.set_cons_succ])
  refine wpAnyH_take (i := 12) (v := ?_) rfl (by kernel_rfl) (by kernel_rfl) (by kernel_rfl) (fun _ _ _ h => h) (Or.inl ⟨by rfl, ?_⟩) (by with_reducible assumption) ?_
  rotate_left
  · intro w hSw; (try dsimp only at hSw); (try go_split_ands); go_simp; (try with_reducible rfl)
  (try simp only [Act.put, List.getElem_toArray, List.getElem_cons_succ, List.getElem_cons_zero, List.setIfInBounds_toArray, List.set_cons_zero, List.set_cons_succ])
  refine wpAnyH_take (i := 13) (v := ?_) rfl (by kernel_rfl) (by kernel_rfl) (by kernel_rfl) (fun _ _ _ h => h) (Or.inl ⟨by rfl, ?_⟩) (by with_reducible assumption) ?_
  rotate_left
  · intro w hSw; (try dsimp only at hSw); (try go_split_ands); go_simp; (try with_reducible rfl)
  (try simp only [Act.put, List.getElem_toArray, List.getElem_cons_succ, List.getElem_cons_zero, List.setIfInBounds_toArray, List.set_cons_zero, List.set_cons_succ])
  refine wpAnyH_take (i := 14) (v := ?_) rfl (by kernel_rfl) (by kernel_rfl) (by kernel_rfl) (fun _ _ _ h => h) (Or.inl ⟨by rfl, ?_⟩) (by with_reducible assumption) ?_
  rotate_left
  · intro w hSw; (try dsimp only at hSw); (try go_split_ands); go_simp; (try with_reducible rfl)
  (try simp only [Act.put, List.getElem_toArray, List.getElem_cons_succ, List.getElem_cons_zero, List.setIfInBounds_toArray, List.set_cons_zero, List.set_cons_succ])
  refine wpAnyH_take (i := 15) (v := ?_) rfl (by kernel_rfl) (by kernel_rfl) (by kernel_rfl) (fun _ _ _ h => h) (Or.inl ⟨by rfl, ?_⟩) (by with_reducible assumption) ?_
  rotate_left
  · intro w hSw; (try dsimp only at hSw); (try go_split_ands); go_simp; (try with_reducible rfl)
  (try simp only [Act.put, List.getElem_toArray, List.getElem_cons_succ, List.getElem_cons_zero, List.setIfInBounds_toArray, List.set_cons_zero, List.set_cons_succ])
  refine wpAnyH_take (i := 16) (v := ?_) rfl (by kernel_rfl) (by kernel_rfl) (by kernel_rfl) (fun _ _ _ h => h) (Or.inl ⟨by rfl, ?_⟩) (by with_reducible assumption) ?_
  rotate_left
  · intro w hSw; (try dsimp only at hSw); (try go_split_ands); go_simp; (try with_reducible rfl)
  (try simp only [Act.put, List.getElem_toArray, List.getElem_cons_succ, List.getElem_cons_zero, List.setIfInBounds_toArray, List.set_cons_zero, List.set_cons_succ])
  refine wpAnyH_take (i := 17) (v := ?_) rfl (by kernel_rfl) (by kernel_rfl) (by kernel_rfl) (fun _ _ _ h => h) (Or.inl ⟨by rfl, ?_⟩) (by with_reducible assumption) ?_
  rotate_left
  · intro w hSw; (try dsimp only at hSw); (try go_split_ands); go_simp; (try with_reducible rfl)
  (try simp only [Act.put, List.getElem_toArray, List.getElem_cons_succ, List.getElem_cons_zero, List.setIfInBounds_toArray, List.set_cons_zero, List.set_cons_succ])
  refine wpAnyH_take (i := 18) (v := ?_) rfl (by kernel_rfl) (by kernel_rfl) (by kernel_rfl) (fun _ _ _ h => h) (Or.inl ⟨by rfl, ?_⟩) (by with_reducible assumption) ?_
  rotate_left
  · intro w hSw; (try dsimp only at hSw); (try go_split_ands); go_simp; (try with_reducible rfl)
  (try simp only [Act.put, List.getElem_toArray, List.getElem_cons_succ, List.getElem_cons_zero, List.setIfInBounds_toArray, List.set_cons_zero, List.set_cons_succ])
  refine wpAnyH_take (i := 19) (v := ?_) rfl (by kernel_rfl) (by kernel_rfl) (by kernel_rfl) (fun _ _ _ h => h) (Or.inl ⟨by rfl, ?_⟩) (by with_reducible assumption) ?_
  rotate_left
  · intro w hSw; (try dsimp only at hSw); (try go_split_ands); go_simp; (try with_reducible rfl)
  (try simp only [Act.put, List.getElem_toArray, List.getElem_cons_succ, List.getElem_cons_zero, List.setIfInBounds_toArray, List.set_cons_zero, List.set_cons_succ])
  refine wpAnyH_take (i := 20) (v := ?_) rfl (by kernel_rfl) (by kernel_rfl) (by kernel_rfl) (fun _ _ _ h => h) (Or.inl ⟨by rfl, ?_⟩) (by with_reducible assumption) ?_
  rotate_left
  · intro w hSw; (try dsimp only at hSw); (try go_split_ands); go_simp; (try with_reducible rfl)
  (try simp only [Act.put, List.getElem_toArray, List.getElem_cons_succ, List.getElem_cons_zero, List.setIfInBounds_toArray, List.set_cons_zero, List.set_cons_succ])
  have HWx := Lib.hid hHeld.2
  refine wpAnyH_ready (rs := [21, 23]) (by kernel_rfl) (by simp) ?_
  refine AllReadyH.cons rfl (fun K2 hK2 => ?_) (AllReadyH.cons rfl (fun K2 hK2 => ?_) AllReadyH.nil)
  · refine step_app' (by rfl) (.const (.slice none 0 0)) (.tmp 145) (by rfl) wx.heap.size (.slice none 0 0) [] (by rfl) (Own.nil _ _) (some ⟨g, 0, none⟩) an (cap - 48) (sub l 48 an) (by rfl) HX.out.2.2.2.1.symm (HBy.out _ HWx.out) (fun h => by cases h) (by rw [HX.out.2.2.2.1]; show 0 + an ≤ _; omega) HWx.out.size ?_
    intro v' w1 ho1 hb1 hg1
    have HBn := Lib.hid (HWx.out.trans hb1)
    have HO := Lib.hid (ho1.mono HLe.out)
    obtain ⟨va, vn, vc, rfl, hvn⟩ := ho1.slice
    have hvn2 : vn = (sub l 48 an).length := hvn.out
    clear ho1 hb1 hg1 hvn
    subst hvn2
    refine hK2.out _ _ (HS.out _ HBn.out) (fun hHeld => ?_)
    clear hK2 K2
    (try simp only [Act.put, List.getElem_toArray, List.getElem_cons_succ, List.getElem_cons_zero, List.setIfInBounds_toArray, List.set_cons_zero, List.set_cons_succ])
    refine wpAnyH_take (i := 22) (v := ?_) rfl (by kernel_rfl) (by kernel_rfl) (by kernel_rfl) (fun _ _ _ h => h) (Or.inl ⟨by rfl, ?_⟩) (by with_reducible assumption) ?_
    rotate_left
    · intro w hSw; (try dsimp only at hSw); (try go_split_ands); go_simp; (try with_reducible rfl)
    (try simp only [Act.put, List.getElem_toArray, List.getElem_cons_succ, List.getElem_cons_zero, List.setIfInBounds_toArray, List.set_cons_zero, List.set_cons_succ])
    refine wpAnyH_ready (rs := [23]) (by kernel_rfl) (by simp) ?_
    refine AllReadyH.cons rfl (fun K2 hK2 => ?_) AllReadyH.nil
    go_simp
    refine hK2.out _ _ (HS.out _ (HBn.out.alloc HBn.out.size _)) (fun hHeld => ?_)
    clear hK2 K2
    (try simp only [Act.put, List.getElem_toArray, List.getElem_cons_succ, List.getElem_cons_zero, List.setIfInBounds_toArray, List.set_cons_zero, List.set_cons_succ])
    refine wpAnyH_ready (rs := [24]) (by kernel_rfl) (by simp) ?_
    refine AllReadyH.cons rfl (fun K2 hK2 => ?_) AllReadyH.nil
    refine step_store_row (by rfl) 28 (.tmp 13) (.tmp 147) (by rfl) w1.heap.size (pdC (tw (lw { op := (y0 : Nat), imm := im, flags := c1, s0 := c2, s1 := c3, ahs := sub l 48 an } 0) 0 0 0 0 0 0 0 0) va vc none 0) (by rfl) (by rfl) 28 pdZ (by exact IsBlk.new w1 _ _) (by kernel_rfl) (by rfl) (pdC_one _ _ _ _ _) ?_
    have hpx := HX.out.1.start (q := w1.heap.size) (p := tw (lw { op := (y0 : Nat), imm := im, flags := c1, s0 := c2, s1 := c3, ahs := sub l 48 an } 0) 0 0 0 0 0 0 0 0) (aa := va) (ac := vc) (HBn.out.alloc HBn.out.size _) (IsBlk.new w1 _ _) HBn.out.size (HO.out.alloc _) rfl
    refine hK2.out _ _ (HS.out _ (below_setRow (HBn.out.alloc HBn.out.size _) _ HBn.out.size _)) (fun hHeld => ?_)
    clear hK2 K2 hHeld
    (try simp only [Act.put, List.getElem_toArray, List.getElem_cons_succ, List.getElem_cons_zero, List.setIfInBounds_toArray, List.set_cons_zero, List.set_cons_succ])
    have HP := Lib.hid hpx
    clear hpx
    refine wpAnyH_done (by kernel_rfl) ?_ _
    refine HK.out _ _ ?_
    refine nxt_24 (p := { op := (y0 : Nat), imm := im, flags := c1, s0 := c2, s1 := c3, ahs := sub l 48 an }) HP.out (by omega) HX.out.2.1 hnc hcm hlm hB at_ dn e ?_
    have hT := HX.out.2.2.1
    have e1 : readP l = tw (lw { op := (y0 : Nat), imm := im, flags := c1, s0 := c2, s1 := c3, ahs := sub l 48 an } (numB (sub l 8 8))) (numB (sub l 16 4)) (numB (sub l (20 + 4 * 0) 4)) (numB (sub l (20 + 4 * 1) 4)) (numB (sub l (20 + 4 * 2) 4)) (numB (sub l (20 + 4 * 3) 4)) (numB (sub l (20 + 4 * 4) 4)) (numB (sub l (20 + 4 * 5) 4)) (numB (sub l (20 + 4 * 6) 4)) := by
      unfold readP
      rw [HX.out.2.2.2.2.2.2, HR.out.2.1, HR.out.2.2.1, HR.out.2.2.2, ← HX.out.2.2.2.2.1, ← HX.out.2.2.2.2.2.1]
      rfl
    rw [e1] at hT
    exact hT
  · go_simp
    have HW2 : Hid (Below wx.heap.size wx (wx.drew.alloc (.cells pdZ 28)) ∧ IsBlk (wx.drew.alloc (.cells pdZ 28)) wx.heap.size pdZ 28) := Lib.hid ⟨HWx.out.alloc HWx.out.size _, IsBlk.new wx.drew _ _⟩
    refine hK2.out _ (wx.drew.alloc (.cells pdZ 28)) (HS.out _ HW2.out.1) (fun hHeld => ?_)
    clear hK2 K2
    generalize wx.drew.alloc (.cells pdZ 28) = w2 at *
    (try simp only [Act.put, List.getElem_toArray, List.getElem_cons_succ, List.getElem_cons_zero, List.setIfInBounds_toArray, List.set_cons_zero, List.set_cons_succ])
    refine wpAnyH_ready (rs := [21]) (by kernel_rfl) (by simp) ?_
    refine AllReadyH.cons rfl (fun K2 hK2 => ?_) AllReadyH.nil
    refine step_app' (by rfl) (.const (.slice none 0 0)) (.tmp 145) (by rfl) wx.heap.size (.slice none 0 0) [] (by rfl) (Own.nil _ _) (some ⟨g, 0, none⟩) an (cap - 48) (sub l 48 an) (by rfl) HX.out.2.2.2.1.symm (HBy.out _ HW2.out.1) (fun h => by cases h) (by rw [HX.out.2.2.2.1]; show 0 + an ≤ _; omega) HW2.out.1.size ?_
    intro v' w1 ho1 hb1 hg1
    have HBn := Lib.hid (HW2.out.1.trans hb1)
    have HQ : Hid (IsBlk w1 wx.heap.size pdZ 28) := Lib.hid (HW2.out.2.grown hg1 (by simp [Value.ownBlock]))
    have HO := Lib.hid (ho1.mono HLe.out)
    obtain ⟨va, vn, vc, rfl, hvn⟩ := ho1.slice
    have hvn2 : vn = (sub l 48 an).length := hvn.out
    clear ho1 hb1 hg1 hvn
    subst hvn2
    refine hK2.out _ _ (HS.out _ HBn.out) (fun hHeld => ?_)
    clear hK2 K2
    (try simp only [Act.put, List.getElem_toArray, List.getElem_cons_succ, List.getElem_cons_zero, List.setIfInBounds_toArray, List.set_cons_zero, List.set_cons_succ])
    refine wpAnyH_take (i := 22) (v := ?_) rfl (by kernel_rfl) (by kernel_rfl) (by kernel_rfl) (fun _ _ _ h => h) (Or.inl ⟨by rfl, ?_⟩) (by with_reducible assumption) ?_
    rotate_left
    · intro w hSw; (try dsimp only at hSw); (try go_split_ands); go_simp; (try with_reducible rfl)
    (try simp only [Act.put, List.getElem_toArray, List.getElem_cons_succ, List.getElem_cons_zero, List.setIfInBounds_toArray, List.set_cons_zero, List.set_cons_succ])
    refine wpAnyH_ready (rs := [24]) (by kernel_rfl) (by simp) ?_
    refine AllReadyH.cons rfl (fun K2 hK2 => ?_) AllReadyH.nil
    refine step_store_row (by rfl) 28 (.tmp 13) (.tmp 147) (by rfl) wx.heap.size (pdC (tw (lw { op := (y0 : Nat), imm := im, flags := c1, s0 := c2, s1 := c3, ahs := sub l 48 an } 0) 0 0 0 0 0 0 0 0) va vc none 0) (by rfl) (by rfl) 28 pdZ (by exact HQ.out) (by kernel_rfl) (by rfl) (pdC_one _ _ _ _ _) ?_
    have hpx := HX.out.1.start (q := wx.heap.size) (p := tw (lw { op := (y0 : Nat), imm := im, flags := c1, s0 := c2, s1 := c3, ahs := sub l 48 an } 0) 0 0 0 0 0 0 0 0) (aa := va) (ac := vc) HBn.out HQ.out (Nat.le_refl _) HO.out rfl
    refine hK2.out _ _ (HS.out _ (below_setRow HBn.out _ (Nat.le_refl _) _)) (fun hHeld => ?_)
    clear hK2 K2 hHeld
    (try simp only [Act.put, List.getElem_toArray, List.getElem_cons_succ, List.getElem_cons_zero, List.setIfInBounds_toArray, List.set_cons_zero, List.set_cons_succ])
    have HP := Lib.hid hpx
    clear hpx
    refine wpAnyH_done (by kernel_rfl) ?_ _
    refine HK.out _ _ ?_
    refine nxt_24 (p := { op := (y0 : Nat), imm := im, flags := c1, s0 := c2, s1 := c3, ahs := sub l 48 an }) HP.out (by omega) HX.out.2.1 hnc hcm hlm hB at_ dn e ?_
    have hT := HX.out.2.2.1
    have e1 : readP l = tw (lw { op := (y0 : Nat), imm := im, flags := c1, s0 := c2, s1 := c3, ahs := sub l 48 an } (numB (sub l 8 8))) (numB (sub l 16 4)) (numB (sub l (20 + 4 * 0) 4)) (numB (sub l (20 + 4 * 1) 4)) (numB (sub l (20 + 4 * 2) 4)) (numB (sub l (20 + 4 * 3) 4)) (numB (sub l (20 + 4 * 4) 4)) (numB (sub l (20 + 4 * 5) 4)) (numB (sub l (20 + 4 * 6) 4)) := by
      unfold readP
      rw [HX.out.2.2.2.2.2.2, HR.out.2.1, HR.out.2.2.1, HR.out.2.2.2, ← HX.out.2.2.2.2.1, ← HX.out.2.2.2.2.2.1]
      rfl
    rw [e1] at hT
    exact hT

theorem nxt_23a {w wx : World} {B rb R tb g n cap an : Nat} {l : List Nat} {h d : Bool} (hx : Nx w wx B rb g n cap R tb l) (h48 : 48 + an ≤ n) (hn : l.length = n) (hnc : n ≤ cap) (hcm : cap ≤ maxLen) (hlm : n ≤ 140737488355328) (hB : B ≤ w.heap.size) (at_ dn e : Nat) (han : ahsN l = an) (hc128 : l.getD 0 0 < 128) (hT : Told l h d at_ dn e (readP l)) {u1 u3 u4 u5 u7 u13 u14 u15 u16 u17 u18 u19 u20 u21 u22 u23 u24 u25 u26 u27 u28 u29 u30 u31 u32 u33 u34 u35 u36 u37 u38 u39 u40 u41 u42 u43 u44 u45 u46 u47 u48 u49 u50 u51 u52 u53 u54 u55 u56 u57 u58 u59 u60 u61 u62 u63 u64 u65 u66 u67 u68 u69 u70 u71 u72 u73 u74 u75 u76 u77 u78 u79 u80 u81 u82 u83 u84 u85 u86 u87 u88 u89 u90 u91 u92 u93 u94 u95 u96 u97 u98 u99 u100 u101 u102 u103 u104 u105 u106 u107 u108 u109 u110 u111 u112 u113 u114 u115 u116 u117 u118 u119 u120 u121 u122 u123 u124 u125 u126 u127 u128 u129 u130 u131 u132 u133 u134 u135 u136 u137 u138 u139 u140 u141 u142 u143 u144 u145 u146 u147 u148 u149 u150 u151 u152 u153 u154 u155 u156 u157 u158 u159 u160 u161 u162 u163 u164 u165 u166 u167 u168 u169 u170 u171 u172 u173 u174 u175 u176 u177 u178 u179 u180 u181 u182 u183 u184 u185 u186 u187 u188 u189 u190 u191 u192 u193 u194 u195 u196 u197 u198 u199 u200 u201 u202 u203 u204 u205 u206 u207 u208 u209 u210 u211 u212 u213 u214 u215 u216 u217 u218 u219 u220 u221 u222 u223 u224 u225 u226 u227 u228 u229 u230 u231 u232 u233 u234 u235 u236 u237 u238 u239 u240 u241 u242 u243 u244 : Value} :
    Code.wp Try.prog (restOf Try.f16 23) (bodyPost Try.prog Try.f16 (NextR w B rb l h d)) ⟨(.pointer (some ⟨rb, 0, none⟩) :: u1 :: .bool d :: u3 :: u4 :: u5 :: .pointer (some ⟨R, 0, none⟩) :: u7 :: .slice (some ⟨g, 0, none⟩) n cap :: .int .i64 (an : Nat) :: .int .i64 (dn : Nat) :: .int .i64 (at_ : Nat) :: .int .i64 (e : Nat) :: u13 :: u14 :: u15 :: u16 :: u17 :: u18 :: u19 :: u20 :: u21 :: u22 :: u23 :: u24 :: u25 :: u26 :: u27 :: u28 :: u29 :: u30 :: u31 :: u32 :: u33 :: u34 :: u35 :: u36 :: u37 :: u38 :: u39 :: u40 :: u41 :: u42 :: u43 :: u44 :: u45 :: u46 :: u47 :: u48 :: u49 :: u50 :: u51 :: u52 :: u53 :: u54 :: u55 :: u56 :: u57 :: u58 :: u59 :: u60 :: u61 :: u62 :: u63 :: u64 :: u65 :: u66 :: u67 :: u68 :: u69 :: u70 :: u71 :: u72 :: u73 :: u74 :: u75 :: u76 :: u77 :: u78 :: u79 :: u80 :: u81 :: u82 :: u83 :: u84 :: u85 :: u86 :: u87 :: u88 :: u89 :: u90 :: u91 :: u92 :: u93 :: u94 :: u95 :: u96 :: u97 :: u98 :: u99 :: u100 :: u101 :: u102 :: u103 :: u104 :: u105 :: u106 :: u107 :: u108 :: u109 :: u110 :: u111 :: u112 :: u113 :: u114 :: u115 :: u116 :: u117 :: u118 :: u119 :: u120 :: u121 :: u122 :: u123 :: u124 :: u125 :: u126 :: u127 :: u128 :: u129 :: u130 :: u131 :: u132 :: u133 :: u134 :: u135 :: u136 :: u137 :: u138 :: u139 :: u140 :: u141 :: u142 :: u143 :: u144 :: u145 :: u146 :: u147 :: u148 :: u149 :: u150 :: u151 :: u152 :: u153 :: u154 :: u155 :: u156 :: u157 :: u158 :: u159 :: u160 :: u161 :: u162 :: u163 :: u164 :: u165 :: u166 :: u167 :: u168 :: u169 :: u170 :: u171 :: u172 :: u173 :: u174 :: u175 :: u176 :: u177 :: u178 :: u179 :: u180 :: u181 :: u182 :: u183 :: u184 :: u185 :: u186 :: u187 :: u188 :: u189 :: u190 :: u191 :: u192 :: u193 :: u194 :: u195 :: u196 :: u197 :: u198 :: u199 :: u200 :: u201 :: u202 :: u203 :: u204 :: u205 :: u206 :: u207 :: u208 :: u209 :: u210 :: u211 :: u212 :: u213 :: u214 :: u215 :: u216 :: u217 :: u218 :: u219 :: u220 :: u221 :: u222 :: u223 :: u224 :: u225 :: u226 :: u227 :: u228 :: u229 :: u230 :: u231 :: u232 :: u233 :: u234 :: u235 :: u236 :: u237 :: u238 :: u239 :: u240 :: u241 :: u242 :: u243 :: u244 :: []).toArray, []⟩ wx := by
  by_cases hne : cap = 48
  · exact nxt_23b hx h48 hn hnc hne hcm hlm hB at_ dn e han hc128 hT
  · exact nxt_23 hx h48 hn hnc hne hcm hlm hB at_ dn e han hc128 hT

/-- What the tests told. -/
structure Seen (l : List Nat) (h : Bool) (n an dn at_ : Nat) : Prop where
  ln : l.length = n
  h48 : 48 ≤ n
  la : ahsN l = an
  ld : dataN l = dn
  an32 : an ≤ 32
  dn256 : dn ≤ 256
  c128 : l.getD 0 0 < 128
  bad : badHead l = false
  lat : atN l h = at_
  fit : h = true → at_ ≤ n ∧ fitsB (l.take at_) = true
theorem Seen.at48 {l : List Nat} {h : Bool} {n an dn at_ : Nat} (s : Seen l h n an dn at_) : 48 + an ≤ at_ ∧ at_ ≤ 84 := by
  have h1 := s.lat
  have h2 := s.la
  have h3 := s.an32
  unfold atN at h1
  split at h1 <;> omega
theorem Seen.find {l : List Nat} {h d : Bool} {n an dn at_ : Nat} (s : Seen l h n an dn at_) : findP l h d = if n < endN l h d then .nothing else if (d && decide (0 < dn) && !fitsB (sub l at_ (endN l h d - at_))) = true then .bad else .whole := by
  unfold findP
  rw [if_neg (by have := s.ln; have := s.h48; omega), s.bad, s.ld, s.ln, s.lat]
  have e1 : (h && decide (n < atN l true)) = false := by
    cases h with
    | false => rfl
    | true => have := (s.fit rfl).1; rw [s.lat]; simp; omega
  have e2 : (h && !fitsB (l.take (atN l true))) = false := by
    cases h with
    | false => rfl
    | true => rw [s.lat, (s.fit rfl).2]; rfl
  rw [e1, e2]
  simp only [Bool.false_eq_true, if_false]
theorem Seen.lend {l : List Nat} {h : Bool} {n an dn at_ : Nat} (s : Seen l h n an dn at_) (d : Bool) : endN l h d = at_ + (dn + 3) / 4 * 4 + (if (d && decide (0 < dn)) = true then 4 else 0) := by
  unfold endN
  rw [s.lat, s.ld]
theorem Seen.told {l : List Nat} {h d : Bool} {n an dn at_ : Nat} (s : Seen l h n an dn at_) (e : Nat) (he : endN l h d = e) (hn : e ≤ n) : Told l h d at_ dn e (readP l) := by
  have hf := s.find (d := d)
  rw [he, if_neg (by omega)] at hf
  have hend := s.lend d
  rw [he] at hend
  refine ⟨fun hb => ?_, fun hw => ?_, ?_, rfl, ?_, by rw [s.ln]; exact hn, fun hd h0 => ?_⟩
  · rw [if_pos hb] at hf
    exact ⟨hf, by unfold pduP; rw [hf]⟩
  · rw [if_neg (by rw [hw]; simp)] at hf
    exact ⟨hf, by unfold pduP; rw [hf, s.lat, s.ld]⟩
  · unfold restP
    rw [hf, he]
    split <;> rename_i hq <;> split at hq <;> first | rfl | cases hq
  · split at hend <;> omega
  · rw [if_pos (by simp [hd, h0])] at hend
    omega

set_option maxRecDepth 100000 in
set_option maxHeartbeats 2000000 in
theorem nxt_21 {w wx : World} {B rb R tb g n cap an dn at_ : Nat} {l : List Nat} {h d : Bool} (hx : Nx w wx B rb g n cap R tb l) (hs : Seen l h n an dn at_) (hnc : n ≤ cap) (hcm : cap ≤ maxLen) (hlm : n ≤ 140737488355328) (hB : B ≤ w.heap.size) (e : Nat) (he : endN l h d = e) {u1 u3 u4 u5 u7 u13 u14 u15 u16 u17 u18 u19 u20 u21 u22 u23 u24 u25 u26 u27 u28 u29 u30 u31 u32 u33 u34 u35 u36 u37 u38 u39 u40 u41 u42 u43 u44 u45 u46 u47 u48 u49 u50 u51 u52 u53 u54 u55 u56 u57 u58 u59 u60 u61 u62 u63 u64 u65 u66 u67 u68 u69 u70 u71 u72 u73 u74 u75 u76 u77 u78 u79 u80 u81 u82 u83 u84 u85 u86 u87 u88 u89 u90 u91 u92 u93 u94 u95 u96 u97 u98 u99 u100 u101 u102 u103 u104 u105 u106 u107 u108 u109 u110 u111 u112 u113 u114 u115 u116 u117 u118 u119 u120 u121 u122 u123 u124 u125 u126 u127 u128 u129 u130 u131 u132 u133 u134 u135 u136 u137 u138 u139 u140 u141 u142 u143 u144 u145 u146 u147 u148 u149 u150 u151 u152 u153 u154 u155 u156 u157 u158 u159 u160 u161 u162 u163 u164 u165 u166 u167 u168 u169 u170 u171 u172 u173 u174 u175 u176 u177 u178 u179 u180 u181 u182 u183 u184 u185 u186 u187 u188 u189 u190 u191 u192 u193 u194 u195 u196 u197 u198 u199 u200 u201 u202 u203 u204 u205 u206 u207 u208 u209 u210 u211 u212 u213 u214 u215 u216 u217 u218 u219 u220 u221 u222 u223 u224 u225 u226 u227 u228 u229 u230 u231 u232 u233 u234 u235 u236 u237 u238 u239 u240 u241 u242 u243 u244 : Value} :
    Code.wp Try.prog (restOf Try.f16 21) (bodyPost Try.prog Try.f16 (NextR w B rb l h d)) ⟨(.pointer (some ⟨rb, 0, none⟩) :: u1 :: .bool d :: u3 :: u4 :: u5 :: .pointer (some ⟨R, 0, none⟩) :: u7 :: .slice (some ⟨g, 0, none⟩) n cap :: .int .i64 (an : Nat) :: .int .i64 (dn : Nat) :: .int .i64 (at_ : Nat) :: .int .i64 (e : Nat) :: u13 :: u14 :: u15 :: u16 :: u17 :: u18 :: u19 :: u20 :: u21 :: u22 :: u23 :: u24 :: u25 :: u26 :: u27 :: u28 :: u29 :: u30 :: u31 :: u32 :: u33 :: u34 :: u35 :: u36 :: u37 :: u38 :: u39 :: u40 :: u41 :: u42 :: u43 :: u44 :: u45 :: u46 :: u47 :: u48 :: u49 :: u50 :: u51 :: u52 :: u53 :: u54 :: u55 :: u56 :: u57 :: u58 :: u59 :: u60 :: u61 :: u62 :: u63 :: u64 :: u65 :: u66 :: u67 :: u68 :: u69 :: u70 :: u71 :: u72 :: u73 :: u74 :: u75 :: u76 :: u77 :: u78 :: u79 :: u80 :: u81 :: u82 :: u83 :: u84 :: u85 :: u86 :: u87 :: u88 :: u89 :: u90 :: u91 :: u92 :: u93 :: u94 :: u95 :: u96 :: u97 :: u98 :: u99 :: u100 :: u101 :: u102 :: u103 :: u104 :: u105 :: u106 :: u107 :: u108 :: u109 :: u110 :: u111 :: u112 :: u113 :: u114 :: u115 :: u116 :: u117 :: u118 :: u119 :: u120 :: u121 :: u122 :: u123 :: u124 :: u125 :: u126 :: u127 :: u128 :: u129 :: u130 :: u131 :: u132 :: u133 :: u134 :: u135 :: u136 :: u137 :: u138 :: u139 :: u140 :: u141 :: u142 :: u143 :: u144 :: u145 :: u146 :: u147 :: u148 :: u149 :: u150 :: u151 :: u152 :: u153 :: u154 :: u155 :: u156 :: u157 :: u158 :: u159 :: u160 :: u161 :: u162 :: u163 :: u164 :: u165 :: u166 :: u167 :: u168 :: u169 :: u170 :: u171 :: u172 :: u173 :: u174 :: u175 :: u176 :: u177 :: u178 :: u179 :: u180 :: u181 :: u182 :: u183 :: u184 :: u185 :: u186 :: u187 :: u188 :: u189 :: u190 :: u191 :: u192 :: u193 :: u194 :: u195 :: u196 :: u197 :: u198 :: u199 :: u200 :: u201 :: u202 :: u203 :: u204 :: u205 :: u206 :: u207 :: u208 :: u209 :: u210 :: u211 :: u212 :: u213 :: u214 :: u215 :: u216 :: u217 :: u218 :: u219 :: u220 :: u221 :: u222 :: u223 :: u224 :: u225 :: u226 :: u227 :: u228 :: u229 :: u230 :: u231 :: u232 :: u233 :: u234 :: u235 :: u236 :: u237 :: u238 :: u239 :: u240 :: u241 :: u242 :: u243 :: u244 :: []).toArray, []⟩ wx := by
  have hs48 := hs.at48
  by_cases hlt : n < e
  · have g1 : decide (n < e) = true := by simp [hlt]
    have g2 : decide ((n : Int) < (e : Int)) = true := by simp; omega
    have hf : findP l h d = .nothing := by rw [hs.find, he, if_pos hlt]
    have HX := Lib.hid (And.intro hx hf)
    clear hx hs he hf hs48 hlt
    conv => arg 2; whnf
    refine wp_seq_k (fun K hK => ?_)
    clear hK
    go_wp2_with (refine wpList_store_row (by rfl) 28 (.tmp 6) (.tmp 124) (by rfl) R pdZ (by rfl) (by rfl) 28 pdZ (by exact HX.out.1.res) (by kernel_rfl) (by rfl) pdZ_one ?_)
    exact bodyPost_ret (v := .tuple #[.agg pdZ, .int .i64 0]) (results_cell_tmp Try.results16 _ _ R 28 pdZ _ (by rfl) (isBlk_setRow HX.out.1.res _) _ (by rfl) Try.underlying28 rfl (by kernel_rfl)) rfl (HX.out.1.nothing HX.out.2)
  · have g1 : decide (n < e) = false := by simp; omega
    have g2 : decide ((n : Int) < (e : Int)) = false := by simp; omega
    have hT := hs.told e he (by omega)
    have hend := hs.lend d
    rw [he] at hend
    have h48 : 48 + an ≤ n := by omega
    have HX := Lib.hid (And.intro hx (And.intro hs hT))
    clear hx hs he hs48 hlt hT hend
    conv => arg 2; whnf
    refine wp_seq_k (fun K hK => ?_)
    have HK := Lib.hid hK
    clear hK
    go_wp2_with fail
    refine HK.out _ _ ?_
    exact nxt_23a HX.out.1 h48 HX.out.2.1.ln hnc hcm hlm hB at_ dn e HX.out.2.1.la HX.out.2.1.c128 HX.out.2.2

set_option maxRecDepth 100000 in
set_option maxHeartbeats 2000000 in
theorem nxt_18 {w wx : World} {B rb R tb g n cap an dn at_ : Nat} {l : List Nat} {h d : Bool} (hx : Nx w wx B rb g n cap R tb l) (hs : Seen l h n an dn at_) (hnc : n ≤ cap) (hcm : cap ≤ maxLen) (hlm : n ≤ 140737488355328) (hB : B ≤ w.heap.size) {u1 u3 u4 u5 u7 u12 u13 u14 u15 u16 u17 u18 u19 u20 u21 u22 u23 u24 u25 u26 u27 u28 u29 u30 u31 u32 u33 u34 u35 u36 u37 u38 u39 u40 u41 u42 u43 u44 u45 u46 u47 u48 u49 u50 u51 u52 u53 u54 u55 u56 u57 u58 u59 u60 u61 u62 u63 u64 u65 u66 u67 u68 u69 u70 u71 u72 u73 u74 u75 u76 u77 u78 u79 u80 u81 u82 u83 u84 u85 u86 u87 u88 u89 u90 u91 u92 u93 u94 u95 u96 u97 u98 u99 u100 u101 u102 u103 u104 u105 u106 u107 u108 u109 u110 u111 u112 u113 u114 u115 u116 u117 u118 u119 u120 u121 u122 u123 u124 u125 u126 u127 u128 u129 u130 u131 u132 u133 u134 u135 u136 u137 u138 u139 u140 u141 u142 u143 u144 u145 u146 u147 u148 u149 u150 u151 u152 u153 u154 u155 u156 u157 u158 u159 u160 u161 u162 u163 u164 u165 u166 u167 u168 u169 u170 u171 u172 u173 u174 u175 u176 u177 u178 u179 u180 u181 u182 u183 u184 u185 u186 u187 u188 u189 u190 u191 u192 u193 u194 u195 u196 u197 u198 u199 u200 u201 u202 u203 u204 u205 u206 u207 u208 u209 u210 u211 u212 u213 u214 u215 u216 u217 u218 u219 u220 u221 u222 u223 u224 u225 u226 u227 u228 u229 u230 u231 u232 u233 u234 u235 u236 u237 u238 u239 u240 u241 u242 u243 u244 : Value} :
    Code.wp Try.prog (restOf Try.f16 18) (bodyPost Try.prog Try.f16 (NextR w B rb l h d)) ⟨(.pointer (some ⟨rb, 0, none⟩) :: u1 :: .bool d :: u3 :: u4 :: u5 :: .pointer (some ⟨R, 0, none⟩) :: u7 :: .slice (some ⟨g, 0, none⟩) n cap :: .int .i64 (an : Nat) :: .int .i64 (dn : Nat) :: .int .i64 (at_ : Nat) :: u12 :: u13 :: u14 :: u15 :: u16 :: u17 :: u18 :: u19 :: u20 :: u21 :: u22 :: u23 :: u24 :: u25 :: u26 :: u27 :: u28 :: u29 :: u30 :: u31 :: u32 :: u33 :: u34 :: u35 :: u36 :: u37 :: u38 :: u39 :: u40 :: u41 :: u42 :: u43 :: u44 :: u45 :: u46 :: u47 :: u48 :: u49 :: u50 :: u51 :: u52 :: u53 :: u54 :: u55 :: u56 :: u57 :: u58 :: u59 :: u60 :: u61 :: u62 :: u63 :: u64 :: u65 :: u66 :: u67 :: u68 :: u69 :: u70 :: u71 :: u72 :: u73 :: u74 :: u75 :: u76 :: u77 :: u78 :: u79 :: u80 :: u81 :: u82 :: u83 :: u84 :: u85 :: u86 :: u87 :: u88 :: u89 :: u90 :: u91 :: u92 :: u93 :: u94 :: u95 :: u96 :: u97 :: u98 :: u99 :: u100 :: u101 :: u102 :: u103 :: u104 :: u105 :: u106 :: u107 :: u108 :: u109 :: u110 :: u111 :: u112 :: u113 :: u114 :: u115 :: u116 :: u117 :: u118 :: u119 :: u120 :: u121 :: u122 :: u123 :: u124 :: u125 :: u126 :: u127 :: u128 :: u129 :: u130 :: u131 :: u132 :: u133 :: u134 :: u135 :: u136 :: u137 :: u138 :: u139 :: u140 :: u141 :: u142 :: u143 :: u144 :: u145 :: u146 :: u147 :: u148 :: u149 :: u150 :: u151 :: u152 :: u153 :: u154 :: u155 :: u156 :: u157 :: u158 :: u159 :: u160 :: u161 :: u162 :: u163 :: u164 :: u165 :: u166 :: u167 :: u168 :: u169 :: u170 :: u171 :: u172 :: u173 :: u174 :: u175 :: u176 :: u177 :: u178 :: u179 :: u180 :: u181 :: u182 :: u183 :: u184 :: u185 :: u186 :: u187 :: u188 :: u189 :: u190 :: u191 :: u192 :: u193 :: u194 :: u195 :: u196 :: u197 :: u198 :: u199 :: u200 :: u201 :: u202 :: u203 :: u204 :: u205 :: u206 :: u207 :: u208 :: u209 :: u210 :: u211 :: u212 :: u213 :: u214 :: u215 :: u216 :: u217 :: u218 :: u219 :: u220 :: u221 :: u222 :: u223 :: u224 :: u225 :: u226 :: u227 :: u228 :: u229 :: u230 :: u231 :: u232 :: u233 :: u234 :: u235 :: u236 :: u237 :: u238 :: u239 :: u240 :: u241 :: u242 :: u243 :: u244 :: []).toArray, []⟩ wx := by
  have hs48 := hs.at48.2
  have hd256 := hs.dn256
  have hend := hs.lend d
  obtain ⟨e0, he0⟩ : ∃ e0 : Nat, (at_ : Int) + ((dn : Int) + 3) / 4 * 4 = (e0 : Int) := ⟨at_ + (dn + 3) / 4 * 4, by omega⟩
  have he1 : e0 = at_ + (dn + 3) / 4 * 4 := by omega
  have he2 : e0 ≤ 10000 := by omega
  rw [← he1] at hend
  have HX := Lib.hid (And.intro hx (And.intro hs hend))
  clear hx hs he1 hend
  cases d with
  | false =>
    conv => arg 2; whnf
    refine wp_seq_k (fun K hK => ?_)
    have HK := Lib.hid hK
    clear hK
    go_wp2_with fail
    refine HK.out _ _ ?_
    refine wp_seq_k (fun K2 hK2 => ?_)
    have HK2 := Lib.hid hK2
    clear hK2 he0
    go_wp2_with fail
    refine HK2.out _ _ ?_
    exact nxt_21 HX.out.1 HX.out.2.1 hnc hcm hlm hB e0 (by rw [HX.out.2.2]; rfl)
  | true =>
    by_cases h0 : 0 < dn
    · have g1 : decide ((0 : Int) < (dn : Int)) = true := by simp; omega
      have g2 : decide (0 < dn) = true := by simp; omega
      have HD := Lib.hid h0
      clear h0
      conv => arg 2; whnf
      refine wp_seq_k (fun K hK => ?_)
      have HK := Lib.hid hK
      clear hK
      go_wp2_with fail
      refine HK.out _ _ ?_
      refine wp_seq_k (fun K2 hK2 => ?_)
      have HK2 := Lib.hid hK2
      clear hK2 he0
      obtain ⟨e1, he1⟩ : ∃ e1 : Nat, (e0 : Int) + 4 = (e1 : Int) := ⟨e0 + 4, by omega⟩
      have he3 : e1 = e0 + 4 := by omega
      have HE := Lib.hid he3
      clear he3
      go_wp2_with fail
      refine HK2.out _ _ ?_
      exact nxt_21 HX.out.1 HX.out.2.1 hnc hcm hlm hB e1 (by rw [HX.out.2.2, HE.out, if_pos (by simp [HD.out])])
    · have g1 : decide ((0 : Int) < (dn : Int)) = false := by simp; omega
      have g2 : decide (0 < dn) = false := by simp; omega
      have HD := Lib.hid h0
      clear h0
      conv => arg 2; whnf
      refine wp_seq_k (fun K hK => ?_)
      have HK := Lib.hid hK
      clear hK
      go_wp2_with fail
      refine HK.out _ _ ?_
      refine wp_seq_k (fun K2 hK2 => ?_)
      have HK2 := Lib.hid hK2
      clear hK2 he0
      go_wp2_with fail
      refine HK2.out _ _ ?_
      exact nxt_21 HX.out.1 HX.out.2.1 hnc hcm hlm hB e0 (by rw [HX.out.2.2, if_neg (by have := HD.out; simp; omega)]; rfl)
end Go.Proofs.Ytaehaclmagnncaa
