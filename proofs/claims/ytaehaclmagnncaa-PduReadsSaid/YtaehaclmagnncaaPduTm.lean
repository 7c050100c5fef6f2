-- slots 245
/-
  pdu: Next, behind the tests of the headers: the rest of its code, part by part (2).
-/
import Derived.Test.YtaehaclmagnncaaPduTl
import Derived.Deep.DeepCutAuto
import Derived.Deep.CutBlock
import Derived.Deep.RegionHeld3
import Derived.StillTailTactics
import Derived.RegionTactic
import Derived.ChangeAlike
import Derived.Lib.EndianBits
import Derived.IntWalk
import Derived.Outline
namespace Go.Proofs.Ytaehaclmagnncaa
set_option linter.unusedVariables false
set_option linter.unusedSimpArgs false
open Go.RowKit
attribute [local go_sem ↓] Go.wp_at_zero Go.wp_at_succ


set_option maxRecDepth 100000 in
set_option maxHeartbeats 1000000 in
theorem nxt_29 {w wx : World} {B rb R tb q g n cap : Nat} {l : List Nat} {aa da : Option Addr} {ac dc : Nat} {p : PD} {h d : Bool} (hx : Px w wx B rb R tb q (.slice (some ⟨g, 0, none⟩) n cap) l aa ac da dc (tw p 0 0 0 0 0 0 0 0)) (h48 : 48 ≤ n) (hn : l.length = n) (hnc : n ≤ cap) (hcm : cap ≤ maxLen) (hlm : n ≤ 140737488355328) (hB : B ≤ w.heap.size) (at_ dn e : Nat) (hT : Told l h d at_ dn e (tw p (numB (sub l 16 4)) (numB (sub l (20 + 4 * 0) 4)) (numB (sub l (20 + 4 * 1) 4)) (numB (sub l (20 + 4 * 2) 4)) (numB (sub l (20 + 4 * 3) 4)) (numB (sub l (20 + 4 * 4) 4)) (numB (sub l (20 + 4 * 5) 4)) (numB (sub l (20 + 4 * 6) 4)))) {u1 u3 u4 u5 u7 u9 u14 u15 u16 u17 u18 u19 u20 u21 u22 u23 u24 u25 u26 u27 u28 u29 u30 u31 u32 u33 u34 u35 u36 u37 u38 u39 u40 u41 u42 u43 u44 u45 u46 u47 u48 u49 u50 u51 u52 u53 u54 u55 u56 u57 u58 u59 u60 u61 u62 u63 u64 u65 u66 u67 u68 u69 u70 u71 u72 u73 u74 u75 u76 u77 u78 u79 u80 u81 u82 u83 u84 u85 u86 u87 u88 u89 u90 u91 u92 u93 u94 u95 u96 u97 u98 u99 u100 u101 u102 u103 u104 u105 u106 u107 u108 u109 u110 u111 u112 u113 u114 u115 u116 u117 u118 u119 u120 u121 u122 u123 u124 u125 u126 u127 u128 u129 u130 u131 u132 u133 u134 u135 u136 u137 u138 u139 u140 u141 u142 u143 u144 u145 u146 u147 u148 u149 u150 u151 u152 u153 u154 u155 u156 u157 u158 u159 u160 u161 u162 u163 u164 u165 u166 u167 u168 u169 u170 u171 u172 u173 u174 u175 u176 u177 u178 u179 u180 u181 u182 u183 u184 u185 u186 u187 u188 u189 u190 u191 u192 u193 u194 u195 u196 u197 u198 u199 u200 u201 u202 u203 u204 u205 u206 u207 u208 u209 u210 u211 u212 u213 u214 u215 u216 u217 u218 u219 u220 u221 u222 u223 u224 u225 u226 u227 u228 u229 u230 u231 u232 u233 u234 u235 u236 u237 u238 u239 u240 u241 u242 u243 u244 : Value} :
    Code.wp Try.prog (restOf Try.f16 29) (bodyPost Try.prog Try.f16 (NextR w B rb l h d)) ⟨(.pointer (some ⟨rb, 0, none⟩) :: u1 :: .bool d :: u3 :: u4 :: u5 :: .pointer (some ⟨R, 0, none⟩) :: u7 :: .slice (some ⟨g, 0, none⟩) n cap :: u9 :: .int .i64 (dn : Nat) :: .int .i64 (at_ : Nat) :: .int .i64 (e : Nat) :: .pointer (some ⟨q, 0, none⟩) :: u14 :: u15 :: u16 :: u17 :: u18 :: u19 :: u20 :: u21 :: u22 :: u23 :: u24 :: u25 :: u26 :: u27 :: u28 :: u29 :: u30 :: u31 :: u32 :: u33 :: u34 :: u35 :: u36 :: u37 :: u38 :: u39 :: u40 :: u41 :: u42 :: u43 :: u44 :: u45 :: u46 :: u47 :: u48 :: u49 :: u50 :: u51 :: u52 :: u53 :: u54 :: u55 :: u56 :: u57 :: u58 :: u59 :: u60 :: u61 :: u62 :: u63 :: u64 :: u65 :: u66 :: u67 :: u68 :: u69 :: u70 :: u71 :: u72 :: u73 :: u74 :: u75 :: u76 :: u77 :: u78 :: u79 :: u80 :: u81 :: u82 :: u83 :: u84 :: u85 :: u86 :: u87 :: u88 :: u89 :: u90 :: u91 :: u92 :: u93 :: u94 :: u95 :: u96 :: u97 :: u98 :: u99 :: u100 :: u101 :: u102 :: u103 :: u104 :: u105 :: u106 :: u107 :: u108 :: u109 :: u110 :: u111 :: u112 :: u113 :: u114 :: u115 :: u116 :: u117 :: u118 :: u119 :: u120 :: u121 :: u122 :: u123 :: u124 :: u125 :: u126 :: u127 :: u128 :: u129 :: u130 :: u131 :: u132 :: u133 :: u134 :: u135 :: u136 :: u137 :: u138 :: u139 :: u140 :: u141 :: u142 :: u143 :: u144 :: u145 :: u146 :: u147 :: u148 :: u149 :: u150 :: u151 :: u152 :: u153 :: u154 :: u155 :: u156 :: u157 :: u158 :: u159 :: u160 :: u161 :: u162 :: u163 :: u164 :: u165 :: u166 :: u167 :: u168 :: u169 :: u170 :: u171 :: u172 :: u173 :: u174 :: u175 :: u176 :: u177 :: u178 :: u179 :: u180 :: u181 :: u182 :: u183 :: u184 :: u185 :: u186 :: u187 :: u188 :: u189 :: u190 :: u191 :: u192 :: u193 :: u194 :: u195 :: u196 :: u197 :: u198 :: u199 :: u200 :: u201 :: u202 :: u203 :: u204 :: u205 :: u206 :: u207 :: u208 :: u209 :: u210 :: u211 :: u212 :: u213 :: u214 :: u215 :: u216 :: u217 :: u218 :: u219 :: u220 :: u221 :: u222 :: u223 :: u224 :: u225 :: u226 :: u227 :: u228 :: u229 :: u230 :: u231 :: u232 :: u233 :: u234 :: u235 :: u236 :: u237 :: u238 :: u239 :: u240 :: u241 :: u242 :: u243 :: u244 :: []).toArray, []⟩ wx := by
  have HX := Lib.hid (And.intro hx (And.intro hn hT))
  clear hx hn hT
  conv => arg 2; whnf
  refine wp_seq_k (fun K hK => ?_)
  have HK := Lib.hid hK
  clear hK
  go_wp2_with fail
  refine HK.out _ _ ?_
  exact nxt_30 (HX.out.1.below ((Below.refl _ _).alloc (Nat.le_refl _) _)) (IsBlk.new wx (nv .u32 (wrow l 0)) 61) HX.out.1.but.size h48 HX.out.2.1 hnc hcm hlm hB at_ dn e HX.out.2.2

theorem or8 (x c : Nat) (hx : x < 72057594037927936) (hc : c < 256) : Go.bits .or .u64 (IntKind.u64.wrap ((x : Int) * 256)) (IntKind.u64.wrap (c : Int)) = ((x * 256 + c : Nat) : Int) := by
  have e1 : IntKind.u64.wrap ((x : Int) * 256) = (x : Int) * 256 := wraps_u64 _ (by omega) (by omega)
  have e2 : IntKind.u64.wrap (c : Int) = (c : Int) := wraps_u64 _ (by omega) (by omega)
  rw [e1, e2, bits_join .u64 64 (by decide) wraps_u64 8 ((x : Int) * 256) (c : Int) (by omega) (by omega) (by omega) (by omega) (by omega) (by omega)]
  omega
theorem or8' (x c : Nat) (hx : x < 72057594037927936) (hc : c < 256) : Go.bits .or .u64 ((x : Int) * 256) (c : Int) = ((x * 256 + c : Nat) : Int) := by
  rw [bits_join .u64 64 (by decide) wraps_u64 8 ((x : Int) * 256) (c : Int) (by omega) (by omega) (by omega) (by omega) (by omega) (by omega)]
  omega
/-- The PDU's heads, the unit's number as given. -/
abbrev lw (p : PD) (u : Nat) : PD := { p with lun := u }
theorem Px.lunSet {w wx : World} {B rb R tb q : Nat} {v : Value} {l : List Nat} {aa da : Option Addr} {ac dc : Nat} {p : PD} {u u' : Nat} (h : Px w wx B rb R tb q v l aa ac da dc (tw (lw p u) 0 0 0 0 0 0 0 0)) : Px w (wx.setCell ⟨q, 6, none⟩ (.int .u64 (u' : Nat))) B rb R tb q v l aa ac da dc (tw (lw p u') 0 0 0 0 0 0 0 0) :=
  h.store 6 (.int .u64 (u' : Nat)) (p' := tw (lw p u') 0 0 0 0 0 0 0 0) rfl rfl (h.odset 6 _)
theorem numB_lim (l : List Nat) (hl : ∀ i, l.getD i 0 < 256) (k : Nat) (hk : k < 8) (h : 16 ≤ l.length) : numB ((sub l 8 8).take k) < 72057594037927936 ∧ numB ((sub l 8 8).take (k + 1)) = numB ((sub l 8 8).take k) * 256 + l.getD (8 + k) 0 := by
  have hlen : (sub l 8 8).length = 8 := by unfold sub; rw [List.length_take, List.length_drop]; omega
  have hg : ∀ c ∈ sub l 8 8, c < 256 := fun c hc => by
    have h1 : c ∈ l := List.mem_of_mem_drop (List.mem_of_mem_take hc)
    obtain ⟨i, hi, rfl⟩ := List.getElem_of_mem h1
    have := hl i
    rw [List.getD_eq_getElem?_getD, List.getElem?_eq_getElem hi] at this
    exact this
  have h1 := numB_lt (sub l 8 8) hg k (by omega)
  have hp : 256 ^ k ≤ 256 ^ 7 := Nat.pow_le_pow_right (by decide) (by omega)
  refine ⟨Nat.lt_of_lt_of_le h1 hp, ?_⟩
  rw [numB_take _ k (by omega)]
  congr 1
  unfold sub
  simp only [List.getD, List.getElem?_take, List.getElem?_drop]
  rw [if_pos hk]

set_option maxRecDepth 100000 in
set_option maxHeartbeats 2000000 in
theorem nxt_24 {w wx : World} {B rb R tb q g n cap : Nat} {l : List Nat} {aa da : Option Addr} {ac dc : Nat} {p : PD} {h d : Bool} (hx : Px w wx B rb R tb q (.slice (some ⟨g, 0, none⟩) n cap) l aa ac da dc (tw (lw p 0) 0 0 0 0 0 0 0 0)) (h48 : 48 ≤ n) (hn : l.length = n) (hnc : n ≤ cap) (hcm : cap ≤ maxLen) (hlm : n ≤ 140737488355328) (hB : B ≤ w.heap.size) (at_ dn e : Nat) (hT : Told l h d at_ dn e (tw (lw p (numB (sub l 8 8))) (numB (sub l 16 4)) (numB (sub l (20 + 4 * 0) 4)) (numB (sub l (20 + 4 * 1) 4)) (numB (sub l (20 + 4 * 2) 4)) (numB (sub l (20 + 4 * 3) 4)) (numB (sub l (20 + 4 * 4) 4)) (numB (sub l (20 + 4 * 5) 4)) (numB (sub l (20 + 4 * 6) 4)))) {u1 u3 u4 u5 u7 u9 u14 u15 u16 u17 u18 u19 u20 u21 u22 u23 u24 u25 u26 u27 u28 u29 u30 u31 u32 u33 u34 u35 u36 u37 u38 u39 u40 u41 u42 u43 u44 u45 u46 u47 u48 u49 u50 u51 u52 u53 u54 u55 u56 u57 u58 u59 u60 u61 u62 u63 u64 u65 u66 u67 u68 u69 u70 u71 u72 u73 u74 u75 u76 u77 u78 u79 u80 u81 u82 u83 u84 u85 u86 u87 u88 u89 u90 u91 u92 u93 u94 u95 u96 u97 u98 u99 u100 u101 u102 u103 u104 u105 u106 u107 u108 u109 u110 u111 u112 u113 u114 u115 u116 u117 u118 u119 u120 u121 u122 u123 u124 u125 u126 u127 u128 u129 u130 u131 u132 u133 u134 u135 u136 u137 u138 u139 u140 u141 u142 u143 u144 u145 u146 u147 u148 u149 u150 u151 u152 u153 u154 u155 u156 u157 u158 u159 u160 u161 u162 u163 u164 u165 u166 u167 u168 u169 u170 u171 u172 u173 u174 u175 u176 u177 u178 u179 u180 u181 u182 u183 u184 u185 u186 u187 u188 u189 u190 u191 u192 u193 u194 u195 u196 u197 u198 u199 u200 u201 u202 u203 u204 u205 u206 u207 u208 u209 u210 u211 u212 u213 u214 u215 u216 u217 u218 u219 u220 u221 u222 u223 u224 u225 u226 u227 u228 u229 u230 u231 u232 u233 u234 u235 u236 u237 u238 u239 u240 u241 u242 u243 u244 : Value} :
    Code.wp Try.prog (restOf Try.f16 24) (bodyPost Try.prog Try.f16 (NextR w B rb l h d)) ⟨(.pointer (some ⟨rb, 0, none⟩) :: u1 :: .bool d :: u3 :: u4 :: u5 :: .pointer (some ⟨R, 0, none⟩) :: u7 :: .slice (some ⟨g, 0, none⟩) n cap :: u9 :: .int .i64 (dn : Nat) :: .int .i64 (at_ : Nat) :: .int .i64 (e : Nat) :: .pointer (some ⟨q, 0, none⟩) :: u14 :: u15 :: u16 :: u17 :: u18 :: u19 :: u20 :: u21 :: u22 :: u23 :: u24 :: u25 :: u26 :: u27 :: u28 :: u29 :: u30 :: u31 :: u32 :: u33 :: u34 :: u35 :: u36 :: u37 :: u38 :: u39 :: u40 :: u41 :: u42 :: u43 :: u44 :: u45 :: u46 :: u47 :: u48 :: u49 :: u50 :: u51 :: u52 :: u53 :: u54 :: u55 :: u56 :: u57 :: u58 :: u59 :: u60 :: u61 :: u62 :: u63 :: u64 :: u65 :: u66 :: u67 :: u68 :: u69 :: u70 :: u71 :: u72 :: u73 :: u74 :: u75 :: u76 :: u77 :: u78 :: u79 :: u80 :: u81 :: u82 :: u83 :: u84 :: u85 :: u86 :: u87 :: u88 :: u89 :: u90 :: u91 :: u92 :: u93 :: u94 :: u95 :: u96 :: u97 :: u98 :: u99 :: u100 :: u101 :: u102 :: u103 :: u104 :: u105 :: u106 :: u107 :: u108 :: u109 :: u110 :: u111 :: u112 :: u113 :: u114 :: u115 :: u116 :: u117 :: u118 :: u119 :: u120 :: u121 :: u122 :: u123 :: u124 :: u125 :: u126 :: u127 :: u128 :: u129 :: u130 :: u131 :: u132 :: u133 :: u134 :: u135 :: u136 :: u137 :: u138 :: u139 :: u140 :: u141 :: u142 :: u143 :: u144 :: u145 :: u146 :: u147 :: u148 :: u149 :: u150 :: u151 :: u152 :: u153 :: u154 :: u155 :: u156 :: u157 :: u158 :: u159 :: u160 :: u161 :: u162 :: u163 :: u164 :: u165 :: u166 :: u167 :: u168 :: u169 :: u170 :: u171 :: u172 :: u173 :: u174 :: u175 :: u176 :: u177 :: u178 :: u179 :: u180 :: u181 :: u182 :: u183 :: u184 :: u185 :: u186 :: u187 :: u188 :: u189 :: u190 :: u191 :: u192 :: u193 :: u194 :: u195 :: u196 :: u197 :: u198 :: u199 :: u200 :: u201 :: u202 :: u203 :: u204 :: u205 :: u206 :: u207 :: u208 :: u209 :: u210 :: u211 :: u212 :: u213 :: u214 :: u215 :: u216 :: u217 :: u218 :: u219 :: u220 :: u221 :: u222 :: u223 :: u224 :: u225 :: u226 :: u227 :: u228 :: u229 :: u230 :: u231 :: u232 :: u233 :: u234 :: u235 :: u236 :: u237 :: u238 :: u239 :: u240 :: u241 :: u242 :: u243 :: u244 :: []).toArray, []⟩ wx := by
  have HX := Lib.hid (And.intro hx (And.intro hn hT))
  clear hx hn hT
  have hcm2 : cap ≤ 9223372036854775807 := by unfold maxLen at hcm; omega
  conv => arg 2; whnf
  refine wp_seq_k (fun K hK => ?_)
  have HK := Lib.hid hK
  clear hK
  go_wp2_with fail
  go_loopw [148] (fun i wr => ∃ k : Nat, k ≤ 8 ∧ i = .int .i64 k ∧ Px w wr B rb R tb q (.slice (some ⟨g, 0, none⟩) n cap) l aa ac da dc (tw (lw p (numB ((sub l 8 8).take k))) 0 0 0 0 0 0 0 0)) (fun i _ => 8 - (intOf i).toNat)
  case atStart => exact ⟨0, by omega, rfl, HX.out.1⟩
  case round =>
    obtain ⟨k, hk, rfl, hpx⟩ := hrel
    by_cases hlt : k < 8
    · 
     as_aux_lemma =>
      obtain ⟨o0, ho0⟩ : ∃ o, o = 8 + k := ⟨_, rfl⟩
      have e0 := hpx.rd.own.cells o0 (by rw [HX.out.2.1]; omega)
      have g0 := hpx.rd.own.lt256 o0
      obtain ⟨hx7, hnext⟩ := numB_lim l hpx.rd.own.lt256 k hlt (by rw [HX.out.2.1]; omega)
      have ev := or8' _ _ hx7 g0
      rw [ho0, ← hnext, ← ho0] at ev
      have w1 : IntKind.i64.wrap (8 + (k : Int)) = (o0 : Int) := by rw [IntWalk.i64_in _ (by omega)]; omega
      have b0 : (0 : Int) ≤ (o0 : Int) := by omega
      have b4 : (o0 : Int) < (n : Int) := by omega
      have c6 := hpx.blk.cell 6 (v := .int .u64 (numB ((sub l 8 8).take k) : Nat)) rfl
      have fz := hpx.blk.fz 6
      have HE := Lib.hid hpx
      have HN := Lib.hid hnext
      clear hpx hnext
      obtain ⟨y, hy⟩ : ∃ y, y = numB ((sub l 8 8).take (k + 1)) := ⟨_, rfl⟩
      obtain ⟨x, hxx⟩ : ∃ y, y = numB ((sub l 8 8).take k) := ⟨_, rfl⟩
      rw [← hy, ← hxx] at ev
      rw [← hxx] at c6 HE hx7
      have HY := Lib.hid hy
      clear hy hxx ho0 HN
      generalize l.getD o0 0 = x0 at *
      go_wp2_with fail
      go_region
      go_wp2_with fail
      go_roundw
      case rel =>
        exact ⟨k + 1, by omega, by go_num, HY.out ▸ (HE.out.drewN 1).lunSet (u' := y)⟩
      case measure => simp [intOf]; omega
    · have hk8 : k = 8 := by omega
      have h8 : (sub l 8 8).take 8 = sub l 8 8 := List.take_of_length_le (by unfold sub; rw [List.length_take]; omega)
      rw [hk8, h8] at hpx
      have HR := Lib.hid hpx
      clear hpx hk8 h8
      go_wp2_with fail
      refine HK.out _ _ ?_
      exact nxt_29 HR.out h48 HX.out.2.1 hnc hcm hlm hB at_ dn e HX.out.2.2

theorem and63 (x : Nat) (h : x < 256) : Go.bits .and .u8 (x : Int) 63 = ((x % 64 : Nat) : Int) := by
  have : ∀ x : Fin 256, Go.bits .and .u8 (x.1 : Int) 63 = ((x.1 % 64 : Nat) : Int) := by decide +kernel
  exact this ⟨x, h⟩
theorem and64 (x : Nat) (h : x < 256) : Go.bits .and .u8 (x : Int) 64 = ((x / 64 % 2 * 64 : Nat) : Int) := by
  have : ∀ x : Fin 256, Go.bits .and .u8 (x.1 : Int) 64 = ((x.1 / 64 % 2 * 64 : Nat) : Int) := by decide +kernel
  exact this ⟨x, h⟩
/-- A store of a whole row, at a step of a region that draws its order. -/
theorem step_store_row {P : Program} {ops : Array Oper} {o : Oper} {a : Act} {w : World} {K : Act → World → Prop} {Q : Exit → Act → World → Prop} {E : Prop} (hgd : o.guard = none) (ty : TypeId) (x y : Operand) (ho : o.op = .store ty x y)
    (g : Nat) (cells : Array Value) (hx : a.eval x = .pointer (some ⟨g, 0, none⟩)) (hy : a.eval y = .agg cells)
    (t : TypeId) (old : Array Value) (hg : IsBlk w g old t) (hi : (P.info? ty).map (·.size) = some cells.size)
    (hold : old.size = cells.size) (h1 : cells.all (·.oneCell') = true)
    (h : K (a.put o.dst undef) (w.setRow g cells)) : if Region.wanted o (yielded ops a.tmps) = true then Oper.wp P o a w K Q else E := by
  rw [if_pos (by simp [Region.wanted, hgd])]
  exact wp_store_row ty x y ho g cells hx hy t old hg hi hold h1 h
/-- The PDU's row is there. -/
theorem Nx.start {w wx W : World} {B rb R tb q g n cap : Nat} {l : List Nat} {aa : Option Addr} {ac : Nat} {p : PD} (h : Nx w wx B rb g n cap R tb l) (hb : Below wx.heap.size wx W) (hq : IsBlk W q pdZ 28) (hqs : wx.heap.size ≤ q) (hao : Own W w.heap.size (.slice aa p.ahs.length ac) p.ahs) (hd : p.data = []) :
    Px w (W.setRow q (pdC p aa ac none 0)) B rb R tb q (.slice (some ⟨g, 0, none⟩) n cap) l aa ac none 0 p := by
  have hb2 : Below wx.heap.size wx (W.setRow q (pdC p aa ac none 0)) := below_setRow hb q hqs _
  have hx := h.below hb2
  have hbt : But (fun k => k = q) W (W.setRow q (pdC p aa ac none 0)) := ⟨rfl, rfl, rfl, by simp [World.setRow], fun k _ hn => Go.setRow_other W q k _ hn⟩
  refine ⟨hx.rd, hx.res, isBlk_setRow hq _, ?_, hx.but, hx.hR, Nat.le_trans h.but.size hqs, hbt.own hao (fun k hk e => hao.ne_blk hq (by decide) (by rw [hk, e])), ?_, hx.nv⟩
  · have := h.res.lt
    omega
  · rw [hd]; exact Own.nil _ _

set_option maxRecDepth 100000 in
set_option maxHeartbeats 4000000 in
theorem nxt_23 {w wx : World} {B rb R tb g n cap an : Nat} {l : List Nat} {h d : Bool} (hx : Nx w wx B rb g n cap R tb l) (h48 : 48 + an ≤ n) (hn : l.length = n) (hnc : n ≤ cap) (hne : ¬ cap = 48) (hcm : cap ≤ maxLen) (hlm : n ≤ 140737488355328) (hB : B ≤ w.heap.size) (at_ dn e : Nat) (han : ahsN l = an) (hc128 : l.getD 0 0 < 128) (hT : Told l h d at_ dn e (readP l)) {u1 u3 u4 u5 u7 u13 u14 u15 u16 u17 u18 u19 u20 u21 u22 u23 u24 u25 u26 u27 u28 u29 u30 u31 u32 u33 u34 u35 u36 u37 u38 u39 u40 u41 u42 u43 u44 u45 u46 u47 u48 u49 u50 u51 u52 u53 u54 u55 u56 u57 u58 u59 u60 u61 u62 u63 u64 u65 u66 u67 u68 u69 u70 u71 u72 u73 u74 u75 u76 u77 u78 u79 u80 u81 u82 u83 u84 u85 u86 u87 u88 u89 u90 u91 u92 u93 u94 u95 u96 u97 u98 u99 u100 u101 u102 u103 u104 u105 u106 u107 u108 u109 u110 u111 u112 u113 u114 u115 u116 u117 u118 u119 u120 u121 u122 u123 u124 u125 u126 u127 u128 u129 u130 u131 u132 u133 u134 u135 u136 u137 u138 u139 u140 u141 u142 u143 u144 u145 u146 u147 u148 u149 u150 u151 u152 u153 u154 u155 u156 u157 u158 u159 u160 u161 u162 u163 u164 u165 u166 u167 u168 u169 u170 u171 u172 u173 u174 u175 u176 u177 u178 u179 u180 u181 u182 u183 u184 u185 u186 u187 u188 u189 u190 u191 u192 u193 u194 u195 u196 u197 u198 u199 u200 u201 u202 u203 u204 u205 u206 u207 u208 u209 u210 u211 u212 u213 u214 u215 u216 u217 u218 u219 u220 u221 u222 u223 u224 u225 u226 u227 u228 u229 u230 u231 u232 u233 u234 u235 u236 u237 u238 u239 u240 u241 u242 u243 u244 : Value} :
    Code.wp Try.prog (restOf Try.f16 23) (bodyPost Try.prog Try.f16 (NextR w B rb l h d)) ⟨(.pointer (some ⟨rb, 0, none⟩) :: u1 :: .bool d :: u3 :: u4 :: u5 :: .pointer (some ⟨R, 0, none⟩) :: u7 :: .slice (some ⟨g, 0, none⟩) n cap :: .int .i64 (an : Nat) :: .int .i64 (dn : Nat) :: .int .i64 (at_ : Nat) :: .int .i64 (e : Nat) :: u13 :: u14 :: u15 :: u16 :: u17 :: u18 :: u19 :: u20 :: u21 :: u22 :: u23 :: u24 :: u25 :: u26 :: u27 :: u28 :: u29 :: u30 :: u31 :: u32 :: u33 :: u34 :: u35 :: u36 :: u37 :: u38 :: u39 :: u40 :: u41 :: u42 :: u43 :: u44 :: u45 :: u46 :: u47 :: u48 :: u49 :: u50 :: u51 :: u52 :: u53 :: u54 :: u55 :: u56 :: u57 :: u58 :: u59 :: u60 :: u61 :: u62 :: u63 :: u64 :: u65 :: u66 :: u67 :: u68 :: u69 :: u70 :: u71 :: u72 :: u73 :: u74 :: u75 :: u76 :: u77 :: u78 :: u79 :: u80 :: u81 :: u82 :: u83 :: u84 :: u85 :: u86 :: u87 :: u88 :: u89 :: u90 :: u91 :: u92 :: u93 :: u94 :: u95 :: u96 :: u97 :: u98 :: u99 :: u100 :: u101 :: u102 :: u103 :: u104 :: u105 :: u106 :: u107 :: u108 :: u109 :: u110 :: u111 :: u112 :: u113 :: u114 :: u115 :: u116 :: u117 :: u118 :: u119 :: u120 :: u121 :: u122 :: u123 :: u124 :: u125 :: u126 :: u127 :: u128 :: u129 :: u130 :: u131 :: u132 :: u133 :: u134 :: u135 :: u136 :: u137 :: u138 :: u139 :: u140 :: u141 :: u142 :: u143 :: u144 :: u145 :: u146 :: u147 :: u148 :: u149 :: u150 :: u151 :: u152 :: u153 :: u154 :: u155 :: u156 :: u157 :: u158 :: u159 :: u160 :: u161 :: u162 :: u163 :: u164 :: u165 :: u166 :: u167 :: u168 :: u169 :: u170 :: u171 :: u172 :: u173 :: u174 :: u175 :: u176 :: u177 :: u178 :: u179 :: u180 :: u181 :: u182 :: u183 :: u184 :: u185 :: u186 :: u187 :: u188 :: u189 :: u190 :: u191 :: u192 :: u193 :: u194 :: u195 :: u196 :: u197 :: u198 :: u199 :: u200 :: u201 :: u202 :: u203 :: u204 :: u205 :: u206 :: u207 :: u208 :: u209 :: u210 :: u211 :: u212 :: u213 :: u214 :: u215 :: u216 :: u217 :: u218 :: u219 :: u220 :: u221 :: u222 :: u223 :: u224 :: u225 :: u226 :: u227 :: u228 :: u229 :: u230 :: u231 :: u232 :: u233 :: u234 :: u235 :: u236 :: u237 :: u238 :: u239 :: u240 :: u241 :: u242 :: u243 :: u244 :: []).toArray, []⟩ wx := by
  have hsub : (sub l 48 an).length = an := by unfold sub; rw [List.length_take, List.length_drop]; omega
  have HS : Hid (∀ w', Below wx.heap.size wx w' → (w'.cell? ⟨g, 0, none⟩ = some (.int .u8 (l.getD 0 0 : Nat)) ∧ w'.cell? ⟨g, 1, none⟩ = some (.int .u8 (l.getD 1 0 : Nat)) ∧ w'.cell? ⟨g, 2, none⟩ = some (.int .u8 (l.getD 2 0 : Nat)) ∧ w'.cell? ⟨g, 3, none⟩ = some (.int .u8 (l.getD 3 0 : Nat))) ∧ Below wx.heap.size wx w') := Lib.hid (fun w' hw => by
    have hc := (hx.rd.below hw).own
    exact ⟨⟨hc.cells 0 (by omega), hc.cells 1 (by omega), hc.cells 2 (by omega), hc.cells 3 (by omega)⟩, hw⟩)
  have HBy : Hid (∀ w', Below wx.heap.size wx w' → IsBytes w' (some ⟨g, 48, none⟩) (sub l 48 an)) := Lib.hid (fun w' hw => by
    obtain ⟨a', cap', he, hb', -⟩ := (hx.rd.below hw).own.form
    injection he with he1 he2 he3
    rw [← he1] at hb'
    have hc := isBytes_cut hb' cap 48 (48 + an) (by omega) (by omega) (by omega)
    unfold cutA at hc
    rw [if_neg hne, Nat.add_sub_cancel_left] at hc
    exact hc)
  have g0 := hx.rd.own.lt256 0
  have x63 := and63 _ g0
  have x64 := and64 _ g0
  obtain ⟨y0, hy0⟩ : ∃ y, y = l.getD 0 0 % 64 := ⟨_, rfl⟩
  obtain ⟨z0, hz0⟩ : ∃ y, y = l.getD 0 0 / 64 % 2 * 64 := ⟨_, rfl⟩
  rw [← hy0] at x63
  rw [← hz0] at x64
  have wy : IntKind.i64.wrap (y0 : Int) = (y0 : Int) := IntWalk.i64_in _ (by omega)
  have hz : ((z0 : Int) != 0) = decide (64 ≤ l.getD 0 0) := by
    by_cases h6 : 64 ≤ l.getD 0 0
    · rw [decide_eq_true h6]; simp; omega
    · rw [decide_eq_false h6]; simp; omega
  obtain ⟨im, him⟩ : ∃ y, y = decide (64 ≤ l.getD 0 0) := ⟨_, rfl⟩
  rw [← him] at hz
  have HX := Lib.hid (And.intro hx (And.intro hn (And.intro hT (And.intro hsub (And.intro hy0 (And.intro him han))))))
  have ww : IntKind.i64.wrap (48 + (an : Int)) = 48 + (an : Int) := by
    have : cap ≤ 9223372036854775807 := by unfold maxLen at hcm; omega
    exact IntWalk.i64_in _ (by omega)
  have v0 : (0 : Int) ≤ 48 + (an : Int) := by omega
  have v1 : (48 + (an : Int)).toNat = 48 + an := by omega
  have v2 : 48 + (an : Int) ≤ (cap : Int) := by omega
  have v3 : (48 : Int) ≤ 48 + (an : Int) := by omega
  have v4 : 48 + an - 48 = an := by omega
  have v5 : ¬ cap = 2 := by omega
  have v6 : 4 ≤ cap := by omega
  have v7 : (0 : Int) < (n : Int) := by omega
  have v8 : (1 : Int) < (n : Int) := by omega
  have v9 : 0 < n := by omega
  have v10 : 1 < n := by omega
  have v11 : 48 + an ≤ cap := by omega
  have v12 : (4 : Int) ≤ (cap : Int) := by omega
  have sa := fun w => run_arrayAt (P := Try.prog) (t := 22) (n := 2) (len := 2) (cap := cap - 2) (some ⟨g, 2, none⟩) Try.underlying22 (by omega) w
  have HLe := Lib.hid hx.but.size
  clear hx hn hT hsub hy0 hz0 him han g0 hc128
  obtain ⟨c0, hc0⟩ : ∃ c, c = l.getD 0 0 := ⟨_, rfl⟩
  obtain ⟨c1, hc1⟩ : ∃ c, c = l.getD 1 0 := ⟨_, rfl⟩
  obtain ⟨c2, hc2⟩ : ∃ c, c = l.getD 2 0 := ⟨_, rfl⟩
  obtain ⟨c3, hc3⟩ : ∃ c, c = l.getD 3 0 := ⟨_, rfl⟩
  rw [← hc0] at x63 x64
  rw [← hc0, ← hc1, ← hc2, ← hc3] at HS
  have HR := Lib.hid (And.intro hc0.symm (And.intro hc1.symm (And.intro hc2.symm hc3.symm)))
  clear hc0 hc1 hc2 hc3
  conv => arg 2; whnf
  refine wp_seq_k (fun K hK => ?_)
  have HK := Lib.hid hK
  clear hK
  refine wp_region_held_drew (S := fun w' => (w'.cell? ⟨g, 0, none⟩ = some (.int .u8 (c0 : Nat)) ∧ w'.cell? ⟨g, 1, none⟩ = some (.int .u8 (c1 : Nat)) ∧ w'.cell? ⟨g, 2, none⟩ = some (.int .u8 (c2 : Nat)) ∧ w'.cell? ⟨g, 3, none⟩ = some (.int .u8 (c3 : Nat))) ∧ Below wx.heap.size wx w') (by kernel_rfl) (by exact HS.out _ (Below.refl _ _).drew) (fun hHeld => ?_)
  refine wpAnyH_take (i := 0) (v := ?_) rfl (by kernel_rfl) (by kernel_rfl) (by kernel_rfl) (fun _ _ _ h => h) (Or.inl ⟨by rfl, ?_⟩) (by with_reducible assumption) ?_
  rotate_left
  · intro w hSw; (try dsimp only at hSw); (try go_split_ands); go_simp; (try with_reducible rfl)
  (try simp only [Act.put, List.getElem_toArray, List.getElem_cons_succ, List.getElem_cons_zero, List.setIfInBounds_toArray, List.set_cons_zero, List.set_cons_succ])
  refine wpAnyH_take (i := 1) (v := ?_) rfl (by kernel_rfl) (by kernel_rfl) (by kernel_rfl) (fun _ _ _ h => h) (Or.inl ⟨by rfl, ?_⟩) (by with_reducible assumption) ?_
  rotate_left
  · intro w hSw; (try dsimp only at hSw); (try go_split_ands); go_simp; (try with_reducible rfl)
  (try simp only [Act.put, List.getElem_toArray, List.getElem_cons_succ, List.getElem_cons_zero, List.setIfInBounds_toArray, List.set_cons_zero, List.set_cons_succ])
  refine wpAnyH_take (i := 2) (v := ?_) rfl (by kernel_rfl) (by kernel_rfl) (by kernel_rfl) (fun _ _ _ h => h) (Or.inl ⟨by rfl, ?_⟩) (by with_reducible assumption) ?_
  rotate_left
  · intro w hSw; (try dsimp only at hSw); (try go_split_ands); go_simp; (try with_reducible rfl)
  (try simp only [Act.put, List.getElem_toArray, List.getElem_cons_succ, List.getElem_cons_zero, List.setIfInBounds_toArray, List.set_cons_zero, List.set_cons_succ])
  refine wpAnyH_take (i := 3) (v := ?_) rfl (by kernel_rfl) (by kernel_rfl) (by kernel_rfl) (fun _ _ _ h => h) (Or.inl ⟨by rfl, ?_⟩) (by with_reducible assumption) ?_
  rotate_left
  · intro w hSw; (try dsimp only at hSw); (try go_split_ands); go_simp; (try with_reducible rfl)
  (try simp only [Act.put, List.getElem_toArray, List.getElem_cons_succ, List.getElem_cons_zero, List.setIfInBounds_toArray, List.set_cons_zero, List.set_cons_succ])
  refine wpAnyH_take (i := 4) (v := ?_) rfl (by kernel_rfl) (by kernel_rfl) (by kernel_rfl) (fun _ _ _ h => h) (Or.inl ⟨by rfl, ?_⟩) (by with_reducible assumption) ?_
  rotate_left
  · intro w hSw; (try dsimp only at hSw); (try go_split_ands); go_simp; (try with_reducible rfl)
  (try simp only [Act.put, List.getElem_toArray, List.getElem_cons_succ, List.getElem_cons_zero, List.setIfInBounds_toArray, List.set_cons_zero, List.set_cons_succ])
  refine wpAnyH_take (i := 5) (v := ?_) rfl (by kernel_rfl) (by kernel_rfl) (by kernel_rfl) (fun _ _ _ h => h) (Or.inl ⟨by rfl, ?_⟩) (by with_reducible assumption) ?_
  rotate_left
  · intro w hSw; (try dsimp only at hSw); (try go_split_ands); go_simp; (try with_reducible rfl)
  (try simp only [Act.put, List.getElem_toArray, List.getElem_cons_succ, List.getElem_cons_zero, List.setIfInBounds_toArray, List.set_cons_zero, List.set_cons_succ])
  refine wpAnyH_take (i := 6) (v := ?_) rfl (by kernel_rfl) (by kernel_rfl) (by kernel_rfl) (fun _ _ _ h => h) (Or.inl ⟨by rfl, ?_⟩) (by with_reducible assumption) ?_
  rotate_left
  · intro w hSw; (try dsimp only at hSw); (try go_split_ands); go_simp; (try with_reducible rfl)
  (try simp only [Act.put, List.getElem_toArray, List.getElem_cons_succ, List.getElem_cons_zero, List.setIfInBounds_toArray, List.set_cons_zero, List.set_cons_succ])
  refine wpAnyH_take (i := 7) (v := ?_) rfl (by kernel_rfl) (by kernel_rfl) (by kernel_rfl) (fun _ _ _ h => h) (Or.inl ⟨by rfl, ?_⟩) (by with_reducible assumption) ?_
  rotate_left
  · intro w hSw; (try dsimp only at hSw); (try go_split_ands); go_simp; (try with_reducible rfl)
  (try simp only [Act.put, List.getElem_toArray, List.getElem_cons_succ, List.getElem_cons_zero, List.setIfInBounds_toArray, List.set_cons_zero, List.set_cons_succ])
  refine wpAnyH_take (i := 8) (v := ?_) rfl (by kernel_rfl) (by kernel_rfl) (by kernel_rfl) (fun _ _ _ h => h) (Or.inl ⟨by rfl, ?_⟩) (by with_reducible assumption) ?_
  rotate_left
  · intro w hSw; (try dsimp only at hSw); (try go_split_ands); go_simp; (try with_reducible rfl)
  (try simp only [Act.put, List.getElem_toArray, List.getElem_cons_succ, List.getElem_cons_zero, List.setIfInBounds_toArray, List.set_cons_zero, List.set_cons_succ])
  refine wpAnyH_take (i := 9) (v := ?_) rfl (by kernel_rfl) (by kernel_rfl) (by kernel_rfl) (fun _ _ _ h => h) (Or.inl ⟨by rfl, ?_⟩) (by with_reducible assumption) ?_
  rotate_left
  · intro w hSw; (try dsimp only at hSw); (try go_split_ands); go_simp; (try with_reducible rfl)
  (try simp only [Act.put, List.getElem_toArray, List.getElem_cons_succ, List.getElem_cons_zero, List.setIfInBounds_toArray, List.set_cons_zero, List.set_cons_succ])
  refine wpAnyH_take (i := 10) (v := ?_) rfl (by kernel_rfl) (by kernel_rfl) (by kernel_rfl) (fun _ _ _ h => h) (Or.inl ⟨by rfl, ?_⟩) (by with_reducible assumption) ?_
  rotate_left
  · intro w hSw; (try dsimp only at hSw); (try go_split_ands); go_simp; (try with_reducible rfl)
  (try simp only [Act.put, List.getElem_toArray, List.getElem_cons_succ, List.getElem_cons_zero, List.setIfInBounds_toArray, List.set_cons_zero, List.set_cons_succ])
  refine wpAnyH_take (i := 11) (v := ?_) rfl (by kernel_rfl) (by kernel_rfl) (by kernel_rfl) (fun _ _ _ h => h) (Or.inl ⟨by rfl, ?_⟩) (by with_reducible assumption) ?_
  rotate_left
  · intro w hSw; (try dsimp only at hSw); (try go_split_ands); go_simp; (try with_reducible rfl)
  (try simp only [Act.put, List.getElem_toArray, List.getElem_cons_succ, List.getElem_cons_zero, List.setIfInBounds_toArray, List.set_cons_zero, List.set_cons_succ])
  refine wpAnyH_take (i := 12) (v := ?_) rfl (by kernel_rfl) (by kernel_rfl) (by kernel_rfl) (fun _ _ _ h => h) (Or.inl ⟨by rfl, ?_⟩) (by with_reducible assumption) ?_
  rotate_left
  · intro w hSw; (try dsimp only at hSw); (try go_split_ands); go_simp; (try with_reducible rfl)
  (try simp only [Act.put, List.getElem_toArray, List.getElem_cons_succ, List.getElem_cons_zero, List.setIfInBounds_toArray, List.set_cons_zero, List.set_cons_succ])
  refine wpAnyH_take (i := 13) (v := ?_) rfl (by kernel_rfl) (by kernel_rfl) (by kernel_rfl) (fun _ _ _ h => h) (Or.inl ⟨by rfl, ?_⟩) (by with_reducible assumption) ?_
  rotate_left
  · intro w hSw; (try dsimp only at hSw); (try go_split_ands); go_simp; (try with_reducible rfl)
  (try simp only [Act.put, List.getElem_toArray, List.getElem_cons_succ, List.getElem_cons_zero, List.setIfInBounds_toArray, List.set_cons_zero, List.set_cons_succ])
  refine wpAnyH_take (i := 14) (v := ?_) rfl (by kernel_rfl) (by kernel_rfl) (by kernel_rfl) (fun _ _ _ h => h) (Or.inl ⟨by rfl, ?_⟩) (by with_reducible assumption) ?_
  rotate_left
  · intro w hSw; (try dsimp only at hSw); (try go_split_ands); go_simp; (try with_reducible rfl)
  (try simp only [Act.put, List.getElem_toArray, List.getElem_cons_succ, List.getElem_cons_zero, List.setIfInBounds_toArray, List.set_cons_zero, List.set_cons_succ])
  refine wpAnyH_take (i := 15) (v := ?_) rfl (by kernel_rfl) (by kernel_rfl) (by kernel_rfl) (fun _ _ _ h => h) (Or.inl ⟨by rfl, ?_⟩) (by with_reducible assumption) ?_
  rotate_left
  · intro w hSw; (try dsimp only at hSw); (try go_split_ands); go_simp; (try with_reducible rfl)
  (try simp only [Act.put, List.getElem_toArray, List.getElem_cons_succ, List.getElem_cons_zero, List.setIfInBounds_toArray, List.set_cons_zero, List.set_cons_succ])
  refine wpAnyH_take (i := 16) (v := ?_) rfl (by kernel_rfl) (by kernel_rfl) (by kernel_rfl) (fun _ _ _ h => h) (Or.inl ⟨by rfl, ?_⟩) (by with_reducible assumption) ?_
  rotate_left
  · intro w hSw; (try dsimp only at hSw); (try go_split_ands); go_simp; (try with_reducible rfl)
  (try simp only [Act.put, List.getElem_toArray, List.getElem_cons_succ, List.getElem_cons_zero, List.setIfInBounds_toArray, List.set_cons_zero, List.set_cons_succ])
  refine wpAnyH_take (i := 17) (v := ?_) rfl (by kernel_rfl) (by kernel_rfl) (by kernel_rfl) (fun _ _ _ h => h) (Or.inl ⟨by rfl, ?_⟩) (by with_reducible assumption) ?_
  rotate_left
  · intro w hSw; (try dsimp only at hSw); (try go_split_ands); go_simp; (try with_reducible rfl)
  (try simp only [Act.put, List.getElem_toArray, List.getElem_cons_succ, List.getElem_cons_zero, List.setIfInBounds_toArray, List.set_cons_zero, List.set_cons_succ])
  refine wpAnyH_take (i := 18) (v := ?_) rfl (by kernel_rfl) (by kernel_rfl) (by kernel_rfl) (fun _ _ _ h => h) (Or.inl ⟨by rfl, ?_⟩) (by with_reducible assumption) ?_
  rotate_left
  · intro w hSw; (try dsimp only at hSw); (try go_split_ands); go_simp; (try with_reducible rfl)
  (try simp only [Act.put, List.getElem_toArray, List.getElem_cons_succ, List.getElem_cons_zero, List.setIfInBounds_toArray, List.set_cons_zero, List.set_cons_succ])
  refine wpAnyH_take (i := 19) (v := ?_) rfl (by kernel_rfl) (by kernel_rfl) (by kernel_rfl) (fun _ _ _ h => h) (Or.inl ⟨by rfl, ?_⟩) (by with_reducible assumption) ?_
  rotate_left
  · intro w hSw; (try dsimp only at hSw); (try go_split_ands); go_simp; (try with_reducible rfl)
  (try simp only [Act.put, List.getElem_toArray, List.getElem_cons_succ, List.getElem_cons_zero, List.setIfInBounds_toArray, List.set_cons_zero, List.set_cons_succ])
  refine wpAnyH_take (i := 20) (v := ?_) rfl (by kernel_rfl) (by kernel_rfl) (by kernel_rfl) (fun _ _ _ h => h) (Or.inl ⟨by rfl, ?_⟩) (by with_reducible assumption) ?_
  rotate_left
  · intro w hSw; (try dsimp only at hSw); (try go_split_ands); go_simp; (try with_reducible rfl)
  (try simp only [Act.put, List.getElem_toArray, List.getElem_cons_succ, List.getElem_cons_zero, List.setIfInBounds_toArray, List.set_cons_zero, List.set_cons_succ])
  have HWx := Lib.hid hHeld.2
  refine wpAnyH_ready (rs := [21, 23]) (by kernel_rfl) (by simp) ?_
  refine AllReadyH.cons rfl (fun K2 hK2 => ?_) (AllReadyH.cons rfl (fun K2 hK2 => ?_) AllReadyH.nil)
  · refine step_app' (by rfl) (.const (.slice none 0 0)) (.tmp 145) (by rfl) wx.heap.size (.slice none 0 0) [] (by rfl) (Own.nil _ _) (some ⟨g, 48, none⟩) an (cap - 48) (sub l 48 an) (by rfl) HX.out.2.2.2.1.symm (HBy.out _ HWx.out) (fun h => by cases h) (by rw [HX.out.2.2.2.1]; simp; omega) HWx.out.size ?_
    intro v' w1 ho1 hb1 hg1
    have HBn := Lib.hid (HWx.out.trans hb1)
    have HO := Lib.hid (ho1.mono HLe.out)
    obtain ⟨va, vn, vc, rfl, hvn⟩ := ho1.slice
    have hvn2 : vn = (sub l 48 an).length := hvn.out
    clear ho1 hb1 hg1 hvn
    subst hvn2
    refine hK2.out _ _ (HS.out _ HBn.out) (fun hHeld => ?_)
    clear hK2 K2
    (try simp only [Act.put, List.getElem_toArray, List.getElem_cons_succ, List.getElem_cons_zero, List.setIfInBounds_toArray, List.set_cons_zero, List.set_cons_succ])
    refine wpAnyH_take (i := 22) (v := ?_) rfl (by kernel_rfl) (by kernel_rfl) (by kernel_rfl) (fun _ _ _ h => h) (Or.inl ⟨by rfl, ?_⟩) (by with_reducible assumption) ?_
    rotate_left
    · intro w hSw; (try dsimp only at hSw); (try go_split_ands); go_simp; (try with_reducible rfl)
    (try simp only [Act.put, List.getElem_toArray, List.getElem_cons_succ, List.getElem_cons_zero, List.setIfInBounds_toArray, List.set_cons_zero, List.set_cons_succ])
    refine wpAnyH_ready (rs := [23]) (by kernel_rfl) (by simp) ?_
    refine AllReadyH.cons rfl (fun K2 hK2 => ?_) AllReadyH.nil
    go_simp
    refine hK2.out _ _ (HS.out _ (HBn.out.alloc HBn.out.size _)) (fun hHeld => ?_)
    clear hK2 K2
    (try simp only [Act.put, List.getElem_toArray, List.getElem_cons_succ, List.getElem_cons_zero, List.setIfInBounds_toArray, List.set_cons_zero, List.set_cons_succ])
    refine wpAnyH_ready (rs := [24]) (by kernel_rfl) (by simp) ?_
    refine AllReadyH.cons rfl (fun K2 hK2 => ?_) AllReadyH.nil
    refine step_store_row (by rfl) 28 (.tmp 13) (.tmp 147) (by rfl) w1.heap.size (pdC (tw (lw { op := (y0 : Nat), imm := im, flags := c1, s0 := c2, s1 := c3, ahs := sub l 48 an } 0) 0 0 0 0 0 0 0 0) va vc none 0) (by rfl) (by rfl) 28 pdZ (by exact IsBlk.new w1 _ _) (by kernel_rfl) (by rfl) (pdC_one _ _ _ _ _) ?_
    have hpx := HX.out.1.start (q := w1.heap.size) (p := tw (lw { op := (y0 : Nat), imm := im, flags := c1, s0 := c2, s1 := c3, ahs := sub l 48 an } 0) 0 0 0 0 0 0 0 0) (aa := va) (ac := vc) (HBn.out.alloc HBn.out.size _) (IsBlk.new w1 _ _) HBn.out.size (HO.out.alloc _) rfl
    refine hK2.out _ _ (HS.out _ (below_setRow (HBn.out.alloc HBn.out.size _) _ HBn.out.size _)) (fun hHeld => ?_)
    clear hK2 K2 hHeld
    (try simp only [Act.put, List.getElem_toArray, List.getElem_cons_succ, List.getElem_cons_zero, List.setIfInBounds_toArray, List.set_cons_zero, List.set_cons_succ])
    have HP := Lib.hid hpx
    clear hpx
    refine wpAnyH_done (by kernel_rfl) ?_ _
    refine HK.out _ _ ?_
    refine nxt_24 (p := { op := (y0 : Nat), imm := im, flags := c1, s0 := c2, s1 := c3, ahs := sub l 48 an }) HP.out (by omega) HX.out.2.1 hnc hcm hlm hB at_ dn e ?_
    have hT := HX.out.2.2.1
    have e1 : readP l = tw (lw { op := (y0 : Nat), imm := im, flags := c1, s0 := c2, s1 := c3, ahs := sub l 48 an } (numB (sub l 8 8))) (numB (sub l 16 4)) (numB (sub l (20 + 4 * 0) 4)) (numB (sub l (20 + 4 * 1) 4)) (numB (sub l (20 + 4 * 2) 4)) (numB (sub l (20 + 4 * 3) 4)) (numB (sub l (20 + 4 * 4) 4)) (numB (sub l (20 + 4 * 5) 4)) (numB (sub l (20 + 4 * 6) 4)) := by
      unfold readP
      rw [HX.out.2.2.2.2.2.2, HR.out.2.1, HR.out.2.2.1, HR.out.2.2.2, ← HX.out.2.2.2.2.1, ← HX.out.2.2.2.2.2.1]
      rfl
    rw [e1] at hT
    exact hT
  · go_simp
    have HW2 : Hid (Below wx.heap.size wx (wx.drew.alloc (.cells pdZ 28)) ∧ IsBlk (wx.drew.alloc (.cells pdZ 28)) wx.heap.size pdZ 28) := Lib.hid ⟨HWx.out.alloc HWx.out.size _, IsBlk.new wx.drew _ _⟩
    refine hK2.out _ (wx.drew.alloc (.cells pdZ 28)) (HS.out _ HW2.out.1) (fun hHeld => ?_)
    clear hK2 K2
    generalize wx.drew.alloc (.cells pdZ 28) = w2 at *
    (try simp only [Act.put, List.getElem_toArray, List.getElem_cons_succ, List.getElem_cons_zero, List.setIfInBounds_toArray, List.set_cons_zero, List.set_cons_succ])
    refine wpAnyH_ready (rs := [21]) (by kernel_rfl) (by simp) ?_
    refine AllReadyH.cons rfl (fun K2 hK2 => ?_) AllReadyH.nil
    refine step_app' (by rfl) (.const (.slice none 0 0)) (.tmp 145) (by rfl) wx.heap.size (.slice none 0 0) [] (by rfl) (Own.nil _ _) (some ⟨g, 48, none⟩) an (cap - 48) (sub l 48 an) (by rfl) HX.out.2.2.2.1.symm (HBy.out _ HW2.out.1) (fun h => by cases h) (by rw [HX.out.2.2.2.1]; simp; omega) HW2.out.1.size ?_
    intro v' w1 ho1 hb1 hg1
    have HBn := Lib.hid (HW2.out.1.trans hb1)
    have HQ : Hid (IsBlk w1 wx.heap.size pdZ 28) := Lib.hid (HW2.out.2.grown hg1 (by simp [Value.ownBlock]))
    have HO := Lib.hid (ho1.mono HLe.out)
    obtain ⟨va, vn, vc, rfl, hvn⟩ := ho1.slice
    have hvn2 : vn = (sub l 48 an).length := hvn.out
    clear ho1 hb1 hg1 hvn
    subst hvn2
    refine hK2.out _ _ (HS.out _ HBn.out) (fun hHeld => ?_)
    clear hK2 K2
    (try simp only [Act.put, List.getElem_toArray, List.getElem_cons_succ, List.getElem_cons_zero, List.setIfInBounds_toArray, List.set_cons_zero, List.set_cons_succ])
    refine wpAnyH_take (i := 22) (v := ?_) rfl (by kernel_rfl) (by kernel_rfl) (by kernel_rfl) (fun _ _ _ h => h) (Or.inl ⟨by rfl, ?_⟩) (by with_reducible assumption) ?_
    rotate_left
    · intro w hSw; (try dsimp only at hSw); (try go_split_ands); go_simp; (try with_reducible rfl)
    (try simp only [Act.put, List.getElem_toArray, List.getElem_cons_succ, List.getElem_cons_zero, List.setIfInBounds_toArray, List.set_cons_zero, List.set_cons_succ])
    refine wpAnyH_ready (rs := [24]) (by kernel_rfl) (by simp) ?_
    refine AllReadyH.cons rfl (fun K2 hK2 => ?_) AllReadyH.nil
    refine step_store_row (by rfl) 28 (.tmp 13) (.tmp 147) (by rfl) wx.heap.size (pdC (tw (lw { op := (y0 : Nat), imm := im, flags := c1, s0 := c2, s1 := c3, ahs := sub l 48 an } 0) 0 0 0 0 0 0 0 0) va vc none 0) (by rfl) (by rfl) 28 pdZ (by exact HQ.out) (by kernel_rfl) (by rfl) (pdC_one _ _ _ _ _) ?_
    have hpx := HX.out.1.start (q := wx.heap.size) (p := tw (lw { op := (y0 : Nat), imm := im, flags := c1, s0 := c2, s1 := c3, ahs := sub l 48 an } 0) 0 0 0 0 0 0 0 0) (aa := va) (ac := vc) HBn.out HQ.out (Nat.le_refl _) HO.out rfl
    refine hK2.out _ _ (HS.out _ (below_setRow HBn.out _ (Nat.le_refl _) _)) (fun hHeld => ?_)
    clear hK2 K2 hHeld
    (try simp only [Act.put, List.getElem_toArray, List.getElem_cons_succ, List.getElem_cons_zero, List.setIfInBounds_toArray, List.set_cons_zero, List.set_cons_succ])
    have HP := Lib.hid hpx
    clear hpx
    refine wpAnyH_done (by kernel_rfl) ?_ _
    refine HK.out _ _ ?_
    refine nxt_24 (p := { op := (y0 : Nat), imm := im, flags := c1, s0 := c2, s1 := c3, ahs := sub l 48 an }) HP.out (by omega) HX.out.2.1 hnc hcm hlm hB at_ dn e ?_
    have hT := HX.out.2.2.1
    have e1 : readP l = tw (lw { op := (y0 : Nat), imm := im, flags := c1, s0 := c2, s1 := c3, ahs := sub l 48 an } (numB (sub l 8 8))) (numB (sub l 16 4)) (numB (sub l (20 + 4 * 0) 4)) (numB (sub l (20 + 4 * 1) 4)) (numB (sub l (20 + 4 * 2) 4)) (numB (sub l (20 + 4 * 3) 4)) (numB (sub l (20 + 4 * 4) 4)) (numB (sub l (20 + 4 * 5) 4)) (numB (sub l (20 + 4 * 6) 4)) := by
      unfold readP
      rw [HX.out.2.2.2.2.2.2, HR.out.2.1, HR.out.2.2.1, HR.out.2.2.2, ← HX.out.2.2.2.2.1, ← HX.out.2.2.2.2.2.1]
      rfl
    rw [e1] at hT
    exact hT
end Go.Proofs.Ytaehaclmagnncaa
