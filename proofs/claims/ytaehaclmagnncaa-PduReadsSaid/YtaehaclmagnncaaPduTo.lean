-- slots 245
/-
  pdu: Next, behind the tests of the headers: the rest of its code, part by part (4).
-/
import Derived.Test.YtaehaclmagnncaaPduTn
import Derived.Deep.DeepCutAuto
import Derived.Deep.CutBlock
import Derived.Deep.RegionHeld3
import Derived.StillTailTactics
import Derived.RegionTactic
import Derived.ChangeAlike
import Derived.Lib.EndianBits
import Derived.IntWalk
import Derived.Outline
namespace Go.Proofs.Ytaehaclmagnncaa
set_option linter.unusedVariables false
set_option linter.unusedSimpArgs false
open Go.RowKit
attribute [local go_sem ↓] Go.wp_at_zero Go.wp_at_succ



set_option maxRecDepth 100000 in
set_option maxHeartbeats 2000000 in
theorem nxt_12 {w wx : World} {B rb R tb g n cap an dn a0 : Nat} {l : List Nat} {h d : Bool} (hx : Nx w wx B rb g n cap R tb l) (hn : l.length = n) (h48 : 48 ≤ n) (han : ahsN l = an) (hdn : dataN l = dn) (ha32 : an ≤ 32) (hd256 : dn ≤ 256) (hc : l.getD 0 0 < 128) (hbad : badHead l = false) (ha0 : a0 = 48 + an) (hnc : n ≤ cap) (hcm : cap ≤ maxLen) (hlm : n ≤ 140737488355328) (hB : B ≤ w.heap.size) {u3 u4 u5 u7 u12 u13 u14 u15 u16 u17 u18 u19 u20 u21 u22 u23 u24 u25 u26 u27 u28 u29 u30 u31 u32 u33 u34 u35 u36 u37 u38 u39 u40 u41 u42 u43 u44 u45 u46 u47 u48 u49 u50 u51 u52 u53 u54 u55 u56 u57 u58 u59 u60 u61 u62 u63 u64 u65 u66 u67 u68 u69 u70 u71 u72 u73 u74 u75 u76 u77 u78 u79 u80 u81 u82 u83 u84 u85 u86 u87 u88 u89 u90 u91 u92 u93 u94 u95 u96 u97 u98 u99 u100 u101 u102 u103 u104 u105 u106 u107 u108 u109 u110 u111 u112 u113 u114 u115 u116 u117 u118 u119 u120 u121 u122 u123 u124 u125 u126 u127 u128 u129 u130 u131 u132 u133 u134 u135 u136 u137 u138 u139 u140 u141 u142 u143 u144 u145 u146 u147 u148 u149 u150 u151 u152 u153 u154 u155 u156 u157 u158 u159 u160 u161 u162 u163 u164 u165 u166 u167 u168 u169 u170 u171 u172 u173 u174 u175 u176 u177 u178 u179 u180 u181 u182 u183 u184 u185 u186 u187 u188 u189 u190 u191 u192 u193 u194 u195 u196 u197 u198 u199 u200 u201 u202 u203 u204 u205 u206 u207 u208 u209 u210 u211 u212 u213 u214 u215 u216 u217 u218 u219 u220 u221 u222 u223 u224 u225 u226 u227 u228 u229 u230 u231 u232 u233 u234 u235 u236 u237 u238 u239 u240 u241 u242 u243 u244 : Value} :
    Code.wp Try.prog (restOf Try.f16 12) (bodyPost Try.prog Try.f16 (NextR w B rb l h d)) ⟨(.pointer (some ⟨rb, 0, none⟩) :: .bool h :: .bool d :: u3 :: u4 :: u5 :: .pointer (some ⟨R, 0, none⟩) :: u7 :: .slice (some ⟨g, 0, none⟩) n cap :: .int .i64 (an : Nat) :: .int .i64 (dn : Nat) :: .int .i64 (a0 : Nat) :: u12 :: u13 :: u14 :: u15 :: u16 :: u17 :: u18 :: u19 :: u20 :: u21 :: u22 :: u23 :: u24 :: u25 :: u26 :: u27 :: u28 :: u29 :: u30 :: u31 :: u32 :: u33 :: u34 :: u35 :: u36 :: u37 :: u38 :: u39 :: u40 :: u41 :: u42 :: u43 :: u44 :: u45 :: u46 :: u47 :: u48 :: u49 :: u50 :: u51 :: u52 :: u53 :: u54 :: u55 :: u56 :: u57 :: u58 :: u59 :: u60 :: u61 :: u62 :: u63 :: u64 :: u65 :: u66 :: u67 :: u68 :: u69 :: u70 :: u71 :: u72 :: u73 :: u74 :: u75 :: u76 :: u77 :: u78 :: u79 :: u80 :: u81 :: u82 :: u83 :: u84 :: u85 :: u86 :: u87 :: u88 :: u89 :: u90 :: u91 :: u92 :: u93 :: u94 :: u95 :: u96 :: u97 :: u98 :: u99 :: u100 :: u101 :: u102 :: u103 :: u104 :: u105 :: u106 :: u107 :: u108 :: u109 :: u110 :: u111 :: u112 :: u113 :: u114 :: u115 :: u116 :: u117 :: u118 :: u119 :: u120 :: u121 :: u122 :: u123 :: u124 :: u125 :: u126 :: u127 :: u128 :: u129 :: u130 :: u131 :: u132 :: u133 :: u134 :: u135 :: u136 :: u137 :: u138 :: u139 :: u140 :: u141 :: u142 :: u143 :: u144 :: u145 :: u146 :: u147 :: u148 :: u149 :: u150 :: u151 :: u152 :: u153 :: u154 :: u155 :: u156 :: u157 :: u158 :: u159 :: u160 :: u161 :: u162 :: u163 :: u164 :: u165 :: u166 :: u167 :: u168 :: u169 :: u170 :: u171 :: u172 :: u173 :: u174 :: u175 :: u176 :: u177 :: u178 :: u179 :: u180 :: u181 :: u182 :: u183 :: u184 :: u185 :: u186 :: u187 :: u188 :: u189 :: u190 :: u191 :: u192 :: u193 :: u194 :: u195 :: u196 :: u197 :: u198 :: u199 :: u200 :: u201 :: u202 :: u203 :: u204 :: u205 :: u206 :: u207 :: u208 :: u209 :: u210 :: u211 :: u212 :: u213 :: u214 :: u215 :: u216 :: u217 :: u218 :: u219 :: u220 :: u221 :: u222 :: u223 :: u224 :: u225 :: u226 :: u227 :: u228 :: u229 :: u230 :: u231 :: u232 :: u233 :: u234 :: u235 :: u236 :: u237 :: u238 :: u239 :: u240 :: u241 :: u242 :: u243 :: u244 :: []).toArray, []⟩ wx := by
  have hS : ∀ a, atN l h = a → (h = true → a ≤ n ∧ fitsB (l.take a) = true) → Seen l h n an dn a := fun a e f => ⟨hn, h48, han, hdn, ha32, hd256, hc, hbad, e, f⟩
  have HH := Lib.hid (And.intro hx (And.intro hS (And.intro hn (And.intro han (And.intro hbad ha0)))))
  have ha4 : 48 ≤ a0 := by omega
  have ha8 : a0 ≤ 80 := by omega
  clear hx hn han hdn hc hbad ha0 hS
  cases h with
  | false =>
    conv => arg 2; whnf
    refine wp_seq_k (fun K hK => ?_)
    have HK := Lib.hid hK
    clear hK
    go_wp2_with fail
    refine HK.out _ _ ?_
    exact nxt_18 HH.out.1 (HH.out.2.1 a0 (by unfold atN; rw [HH.out.2.2.2.1, HH.out.2.2.2.2.2]; simp) (fun h => by cases h)) hnc hcm hlm hB
  | true =>
    obtain ⟨a1, ha1⟩ : ∃ a1 : Nat, (a0 : Int) + 4 = (a1 : Int) := ⟨a0 + 4, by omega⟩
    have ha2 : a1 = a0 + 4 := by omega
    have hat : atN l true = a1 := by unfold atN; rw [HH.out.2.2.2.1, ha2, HH.out.2.2.2.2.2]; simp
    have HAT := Lib.hid hat
    have HA2 := Lib.hid ha2
    have ha9 : a1 ≤ 84 := by omega
    have ha10 : 52 ≤ a1 := by omega
    have zw : IntKind.i64.wrap (a1 : Int) = (a1 : Int) := IntWalk.i64_in _ (by omega)
    clear hat ha2
    by_cases hlt : n < a1
    · have g1 : decide (n < a1) = true := by simp [hlt]
      have g2 : decide ((n : Int) < (a1 : Int)) = true := by simp; omega
      have hf : findP l true d = .nothing := by unfold findP; rw [if_neg (by rw [HH.out.2.2.1]; omega), HH.out.2.2.2.2.1]; simp only [Bool.false_eq_true, if_false]; rw [if_pos (by rw [HAT.out, HH.out.2.2.1]; simp [hlt])]
      have HF := Lib.hid hf
      clear hf hlt
      conv => arg 2; whnf
      refine wp_seq_k (fun K hK => ?_)
      clear hK
      go_wp2_with (refine wpList_store_row (by rfl) 28 (.tmp 6) (.tmp 90) (by rfl) R pdZ (by rfl) (by rfl) 28 pdZ (by exact HH.out.1.res) (by kernel_rfl) (by rfl) pdZ_one ?_)
      exact bodyPost_ret (v := .tuple #[.agg pdZ, .int .i64 0]) (results_cell_tmp Try.results16 _ _ R 28 pdZ _ (by rfl) (isBlk_setRow HH.out.1.res _) _ (by rfl) Try.underlying28 rfl (by kernel_rfl)) rfl (HH.out.1.nothing HF.out)
    · have g1 : decide (n < a1) = false := by simp; omega
      have g2 : decide ((n : Int) < (a1 : Int)) = false := by simp; omega
      have hle : a1 ≤ n := by omega
      have z1 : (0 : Int) ≤ (a1 : Int) := by omega
      have z2 : (a1 : Int) ≤ (cap : Int) := by omega
      have z3 : a1 ≤ cap := by omega
      have hlen : (l.take a1).length = a1 := by rw [List.length_take, HH.out.2.2.1]; omega
      have HFT : Hid (∀ w', Below wx.heap.size wx w' → Calls Try.prog 26 #[.pointer (some ⟨tb, 0, none⟩), .slice (some ⟨g, 0, none⟩) a1 cap] w' fun e w'' => e = .returned (.bool (fitsB (l.take a1))) ∧ Below w'.heap.size w' w'') := Lib.hid (fun w' hw => by
        obtain ⟨tb', he, ht⟩ := (HH.out.1.rd.below hw).tab _ rfl
        cases he
        obtain ⟨a', cap', he, hb', -⟩ := (HH.out.1.rd.below hw).own.form
        injection he with he1 he2 he3
        rw [← he1] at hb'
        exact fits_tab_any tb (some ⟨g, 0, none⟩) (l.take a1) a1 cap w' (isTab_of ht) ht.lt (hb'.take _) hlen (by omega) (by omega) (by omega))
      have HSA : Hid (∀ w', Below wx.heap.size wx w' → w'.cell? ⟨rb, 2, none⟩ = some (.pointer (some ⟨tb, 0, none⟩)) ∧ Below wx.heap.size wx w') := Lib.hid (fun w' hw => ⟨(HH.out.1.rd.below hw).blk.cell 2 rfl, hw⟩)
      have HS0 : Hid (wx.drew.cell? ⟨rb, 2, none⟩ = some (.pointer (some ⟨tb, 0, none⟩)) ∧ Below wx.heap.size wx wx.drew) := Lib.hid (HSA.out _ (Below.refl _ _).drew)
      obtain ⟨ft, hft⟩ : ∃ b, b = fitsB (l.take a1) := ⟨_, rfl⟩
      rw [← hft] at HFT
      have HFq := Lib.hid hft
      clear hft hlen hlt
      conv => arg 2; whnf
      refine wp_seq_k (fun K hK => ?_)
      have HK := Lib.hid hK
      clear hK
      go_upto_region 15 with fail
      refine wp_region_held_drew (S := fun w' => w'.cell? ⟨rb, 2, none⟩ = some (.pointer (some ⟨tb, 0, none⟩)) ∧ Below wx.heap.size wx w') (by kernel_rfl) HS0.out (fun hHeld => ?_)
      refine wpAnyH_take (i := 0) (v := ?_) rfl (by kernel_rfl) (by kernel_rfl) (by kernel_rfl) (fun _ _ _ h => h) (Or.inl ⟨by rfl, ?_⟩) (by with_reducible assumption) ?_
      rotate_left
      · intro w hSw; (try dsimp only at hSw); (try go_split_ands); go_simp; (try with_reducible rfl)
      (try simp only [Act.put, List.getElem_toArray, List.getElem_cons_succ, List.getElem_cons_zero, List.setIfInBounds_toArray, List.set_cons_zero, List.set_cons_succ])
      refine wpAnyH_take (i := 1) (v := ?_) rfl (by kernel_rfl) (by kernel_rfl) (by kernel_rfl) (fun _ _ _ h => h) (Or.inl ⟨by rfl, ?_⟩) (by with_reducible assumption) ?_
      rotate_left
      · intro w hSw; (try dsimp only at hSw); (try go_split_ands); go_simp; (try with_reducible rfl)
      (try simp only [Act.put, List.getElem_toArray, List.getElem_cons_succ, List.getElem_cons_zero, List.setIfInBounds_toArray, List.set_cons_zero, List.set_cons_succ])
      refine wpAnyH_take (i := 2) (v := ?_) rfl (by kernel_rfl) (by kernel_rfl) (by kernel_rfl) (fun _ _ _ h => h) (Or.inl ⟨by rfl, ?_⟩) (by with_reducible assumption) ?_
      rotate_left
      · intro w hSw; (try dsimp only at hSw); (try go_split_ands); go_simp; (try with_reducible rfl)
      (try simp only [Act.put, List.getElem_toArray, List.getElem_cons_succ, List.getElem_cons_zero, List.setIfInBounds_toArray, List.set_cons_zero, List.set_cons_succ])
      refine wpAnyH_take (i := 3) (v := ?_) rfl (by kernel_rfl) (by kernel_rfl) (by kernel_rfl) (fun _ _ _ h => h) (Or.inl ⟨by rfl, ?_⟩) (by with_reducible assumption) ?_
      rotate_left
      · intro w hSw; (try dsimp only at hSw); (try go_split_ands); go_simp; (try with_reducible rfl)
      (try simp only [Act.put, List.getElem_toArray, List.getElem_cons_succ, List.getElem_cons_zero, List.setIfInBounds_toArray, List.set_cons_zero, List.set_cons_succ])
      refine wpAnyH_take (i := 4) (v := ?_) rfl (by kernel_rfl) (by kernel_rfl) (by kernel_rfl) (fun _ _ _ h => h) (Or.inl ⟨by rfl, ?_⟩) (by with_reducible assumption) ?_
      rotate_left
      · intro w hSw; (try dsimp only at hSw); (try go_split_ands); go_simp; (try with_reducible rfl)
      (try simp only [Act.put, List.getElem_toArray, List.getElem_cons_succ, List.getElem_cons_zero, List.setIfInBounds_toArray, List.set_cons_zero, List.set_cons_succ])
      refine wpAnyH_take (i := 5) (v := ?_) rfl (by kernel_rfl) (by kernel_rfl) (by kernel_rfl) (fun _ _ _ h => h) (Or.inl ⟨by rfl, ?_⟩) (by with_reducible assumption) ?_
      rotate_left
      · intro w hSw; (try dsimp only at hSw); (try go_split_ands); go_simp; (try with_reducible rfl)
      (try simp only [Act.put, List.getElem_toArray, List.getElem_cons_succ, List.getElem_cons_zero, List.setIfInBounds_toArray, List.set_cons_zero, List.set_cons_succ])
      refine wpAnyH_take (i := 6) (v := ?_) rfl (by kernel_rfl) (by kernel_rfl) (by kernel_rfl) (fun _ _ _ h => h) (Or.inl ⟨by rfl, ?_⟩) (by with_reducible assumption) ?_
      rotate_left
      · intro w hSw; (try dsimp only at hSw); (try go_split_ands); go_simp; (try with_reducible rfl)
      (try simp only [Act.put, List.getElem_toArray, List.getElem_cons_succ, List.getElem_cons_zero, List.setIfInBounds_toArray, List.set_cons_zero, List.set_cons_succ])
      refine wpAnyH_take (i := 7) (v := ?_) rfl (by kernel_rfl) (by kernel_rfl) (by kernel_rfl) (fun _ _ _ h => h) (Or.inl ⟨by rfl, ?_⟩) (by with_reducible assumption) ?_
      rotate_left
      · intro w hSw; (try dsimp only at hSw); (try go_split_ands); go_simp; (try with_reducible rfl)
      (try simp only [Act.put, List.getElem_toArray, List.getElem_cons_succ, List.getElem_cons_zero, List.setIfInBounds_toArray, List.set_cons_zero, List.set_cons_succ])
      refine wpAnyH_ready (rs := [8]) (by kernel_rfl) (by simp) ?_
      refine AllReadyH.cons rfl (fun K2 hK2 => ?_) AllReadyH.nil
      go_simp
      have hBel := Lib.hid hHeld.2
      go_at_call 26
      (with_reducible refine (HFT.out _ hBel.out).mono ?_)
      rintro e W9 ⟨rfl, hb9⟩
      have hBn := Lib.hid (hBel.out.trans (hb9.mono hBel.out.size))
      clear hb9 hBel
      refine hK2.out _ _ (HSA.out _ hBn.out) (fun hHeld => ?_)
      clear hK2 K2
      (try simp only [Act.put, List.getElem_toArray, List.getElem_cons_succ, List.getElem_cons_zero, List.setIfInBounds_toArray, List.set_cons_zero, List.set_cons_succ])
      refine wpAnyH_take (i := 9) (v := ?_) rfl (by kernel_rfl) (by kernel_rfl) (by kernel_rfl) (fun _ _ _ h => h) (Or.inl ⟨by rfl, ?_⟩) (by with_reducible assumption) ?_
      rotate_left
      · intro w hSw; (try dsimp only at hSw); (try go_split_ands); go_simp; (try with_reducible rfl)
      (try simp only [Act.put, List.getElem_toArray, List.getElem_cons_succ, List.getElem_cons_zero, List.setIfInBounds_toArray, List.set_cons_zero, List.set_cons_succ])
      refine wpAnyH_done (by kernel_rfl) ?_ _
      clear hHeld zw
      have HX1 := Lib.hid (HH.out.1.below hBn.out)
      clear hBn HFT HSA HS0
      cases ft with
      | true =>
        go_wp2_with fail
        refine HK.out _ _ ?_
        exact nxt_18 HX1.out (HH.out.2.1 a1 HAT.out (fun _ => ⟨hle, HFq.out.symm⟩)) hnc hcm hlm hB
      | false =>
        go_wp2_with fail
        refine (stop_any HX1.out.rd).mono ?_
        rintro e W10 ⟨rfl, hs9, hb9⟩
        have HS := Lib.hid (And.intro hs9 hb9)
        clear hs9 hb9
        have HRes : Hid (IsBlk W10 R pdZ 28) := Lib.hid (HS.out.2.blk HX1.out.res (fun e => blk_ne HX1.out.rd.blk HX1.out.res (by decide) e.symm))
        go_wp2_with (refine wpList_store_row (by rfl) 28 (.tmp 6) (.tmp 103) (by rfl) R pdZ (by rfl) (by rfl) 28 pdZ (by exact HRes.out) (by kernel_rfl) (by rfl) pdZ_one ?_)
        exact bodyPost_ret (v := .tuple #[.agg pdZ, .int .i64 3]) (results_cell_tmp Try.results16 _ _ R 28 pdZ _ (by rfl) (isBlk_setRow HRes.out _) _ (by rfl) Try.underlying28 rfl (by kernel_rfl)) rfl (HX1.out.broken (by unfold findP; rw [if_neg (by rw [HH.out.2.2.1]; omega), HH.out.2.2.2.2.1]; simp only [Bool.false_eq_true, if_false]; rw [if_neg (by rw [HAT.out, HH.out.2.2.1]; simp; omega), if_pos (by rw [HAT.out, ← HFq.out]; rfl)]) HS.out.1 HS.out.2)
end Go.Proofs.Ytaehaclmagnncaa
