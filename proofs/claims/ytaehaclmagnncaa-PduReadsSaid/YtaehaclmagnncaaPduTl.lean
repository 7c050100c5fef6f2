-- slots 245
/-
  pdu: Next, behind the tests of the headers: the rest of its code, part by part, from the end.
-/
import Derived.Test.YtaehaclmagnncaaPduNx
import Derived.Test.YtaehaclmagnncaaTail
import Derived.Deep.DeepCutAuto
import Derived.Deep.CutBlock
import Derived.Deep.RegionHeld3
import Derived.StillTailTactics
import Derived.RegionTactic
import Derived.ChangeAlike
import Derived.Lib.EndianBits
import Derived.IntWalk
import Derived.Outline
namespace Go.Proofs.Ytaehaclmagnncaa
set_option linter.unusedVariables false
set_option linter.unusedSimpArgs false
open Go.RowKit
attribute [local go_sem ↓] Go.wp_at_zero Go.wp_at_succ

/-- The PDU is being filled. -/
structure Px (w wx : World) (B rb R tb q : Nat) (v : Value) (l : List Nat) (aa : Option Addr) (ac : Nat) (da : Option Addr) (dc : Nat) (p : PD) : Prop where
  rd : IsRd wx B rb v (some ⟨tb, 0, none⟩) l false
  res : IsBlk wx R pdZ 28
  blk : IsBlk wx q (pdC p aa ac da dc) 28
  ne : q ≠ R
  but : But (fun k => k = rb) w wx
  hR : w.heap.size ≤ R
  hq : w.heap.size ≤ q
  ao : Own wx w.heap.size (.slice aa p.ahs.length ac) p.ahs
  od : Own wx w.heap.size (.slice da p.data.length dc) p.data
  nv : NV w rb v
theorem pdC_one (p : PD) (aa : Option Addr) (ac : Nat) (da : Option Addr) (dc : Nat) : (pdC p aa ac da dc).all (·.oneCell') = true := by simp [pdC, Value.oneCell']
theorem But.setQ {S : Nat → Prop} {w wx : World} (h : But S w wx) {q : Nat} (hq : w.heap.size ≤ q) (o : Nat) (x : Value) : But S w (wx.setCell ⟨q, o, none⟩ x) :=
  h.setNew (p := ⟨q, o, none⟩) hq x
section
variable {w wx wy : World} {B rb R tb q : Nat} {v : Value} {l : List Nat} {aa da : Option Addr} {ac dc : Nat} {p : PD}
theorem Px.below (h : Px w wx B rb R tb q v l aa ac da dc p) (hb : Below wx.heap.size wx wy) : Px w wy B rb R tb q v l aa ac da dc p :=
  ⟨h.rd.below hb, h.res.below hb h.res.lt, h.blk.below hb h.blk.lt, h.ne, h.but.trans (But.of_below hb (Nat.le_refl _)), h.hR, h.hq, h.ao.below hb, h.od.below hb, h.nv⟩
theorem Px.drewN (h : Px w wx B rb R tb q v l aa ac da dc p) (k : Nat) : Px w (wx.drewN k) B rb R tb q v l aa ac da dc p :=
  ⟨h.rd.drewN k, h.res.drewN k, h.blk.drewN k, h.ne, h.but.drewN k, h.hR, h.hq, h.ao, h.od, h.nv⟩
/-- A cell of the PDU is stored. -/
theorem Px.store (h : Px w wx B rb R tb q v l aa ac da dc p) (o : Nat) (x : Value) {p' : PD} {da' : Option Addr} {dc' : Nat} (hp : (pdC p aa ac da dc).setIfInBounds o x = pdC p' aa ac da' dc') (ha : p'.ahs = p.ahs)
    (hd : Own (wx.setCell ⟨q, o, none⟩ x) w.heap.size (.slice da' p'.data.length dc') p'.data) : Px w (wx.setCell ⟨q, o, none⟩ x) B rb R tb q v l aa ac da' dc' p' := by
  have hb : But (fun k => k = q) wx (wx.setCell ⟨q, o, none⟩ x) := (But.refl (fun k => k = q) wx).setCell (p := ⟨q, o, none⟩) rfl x
  refine ⟨h.rd.but hb (fun e => blk_ne h.rd.blk h.blk (by decide) e) (fun k hk e => h.rd.own.ne_blk h.blk (by decide) (by rw [hk, e])) (fun a ha e => ?_), hb.blk h.res (fun e => h.ne e.symm), hp ▸ h.blk.set o x, h.ne, h.but.setQ h.hq o x, h.hR, h.hq, ?_, hd, h.nv⟩
  · obtain ⟨tb', rfl, ht⟩ := h.rd.tab a ha
    exact blk_ne ht h.blk (by decide) e
  · rw [ha]; exact hb.own h.ao (fun k hk e => h.ao.ne_blk h.blk (by decide) (by rw [hk, e]))
theorem Px.odset (h : Px w wx B rb R tb q v l aa ac da dc p) (o : Nat) (x : Value) : Own (wx.setCell ⟨q, o, none⟩ x) w.heap.size (.slice da p.data.length dc) p.data := by
  have hb : But (fun k => k = q) wx (wx.setCell ⟨q, o, none⟩ x) := (But.refl (fun k => k = q) wx).setCell (p := ⟨q, o, none⟩) rfl x
  exact hb.own h.od (fun k hk e => h.od.ne_blk h.blk (by decide) (by rw [hk, e]))
/-- The result is stored. -/
theorem Px.done {m : List Nat} {hh d : Bool} {f : Fd} (h : Px w wx B rb R tb q v m aa ac da dc p) (hf : findP l hh d = f) (hp : pduP l hh d = p) (hm : restP l hh d = m) (hb : f ≠ .broken) :
    NextR w B rb l hh d (.returned (.tuple #[.agg (pdC p aa ac da dc), .int .i64 (f.code : Nat)])) (wx.setRow R (pdC p aa ac da dc)) := by
  have hbt : But (fun k => k = R) wx (wx.setRow R (pdC p aa ac da dc)) := ⟨rfl, rfl, rfl, by simp [World.setRow], fun k _ hn => Go.setRow_other wx R k _ hn⟩
  have hbf : (f == Fd.broken) = false := by cases f <;> first | rfl | exact absurd rfl hb
  have ha := hbt.own h.ao (fun k hk e => h.ao.ne_blk h.res (by decide) (by rw [hk, e]))
  have hd := hbt.own h.od (fun k hk e => h.od.ne_blk h.res (by decide) (by rw [hk, e]))
  refine ⟨pdC p aa ac da dc, v, some ⟨tb, 0, none⟩, by rw [hf], ?_, ?_, h.but.setRow h.hR _, h.nv⟩
  · rw [hp]
    obtain ⟨a1, c1, e1, k1, -⟩ := ha.form
    obtain ⟨a2, c2, e2, k2, -⟩ := hd.form
    injection e1 with e11 e12 e13
    injection e2 with e21 e22 e23
    exact ⟨aa, ac, da, dc, rfl, e11 ▸ k1, e21 ▸ k2, ha.capz, hd.capz⟩
  · rw [hm, hf, hbf]
    exact h.rd.setRow h.res _
end

set_option maxRecDepth 100000 in
set_option maxHeartbeats 1000000 in
theorem nxt_41 {w wx : World} {B rb R tb q : Nat} {v : Value} {l m : List Nat} {aa da : Option Addr} {ac dc : Nat} {p : PD} {h d : Bool} {f : Fd} (hx : Px w wx B rb R tb q v m aa ac da dc p) (hf : findP l h d = f) (hp : pduP l h d = p) (hm : restP l h d = m) (hb : f ≠ .broken)
    (c : Int) (hc : c = (f.code : Nat)) {u0 u1 u2 u3 u4 u5 u7 u8 u9 u10 u11 u12 u14 u15 u16 u18 u19 u20 u21 u22 u23 u24 u25 u26 u27 u28 u29 u30 u31 u32 u33 u34 u35 u36 u37 u38 u39 u40 u41 u42 u43 u44 u45 u46 u47 u48 u49 u50 u51 u52 u53 u54 u55 u56 u57 u58 u59 u60 u61 u62 u63 u64 u65 u66 u67 u68 u69 u70 u71 u72 u73 u74 u75 u76 u77 u78 u79 u80 u81 u82 u83 u84 u85 u86 u87 u88 u89 u90 u91 u92 u93 u94 u95 u96 u97 u98 u99 u100 u101 u102 u103 u104 u105 u106 u107 u108 u109 u110 u111 u112 u113 u114 u115 u116 u117 u118 u119 u120 u121 u122 u123 u124 u125 u126 u127 u128 u129 u130 u131 u132 u133 u134 u135 u136 u137 u138 u139 u140 u141 u142 u143 u144 u145 u146 u147 u148 u149 u150 u151 u152 u153 u154 u155 u156 u157 u158 u159 u160 u161 u162 u163 u164 u165 u166 u167 u168 u169 u170 u171 u172 u173 u174 u175 u176 u177 u178 u179 u180 u181 u182 u183 u184 u185 u186 u187 u188 u189 u190 u191 u192 u193 u194 u195 u196 u197 u198 u199 u200 u201 u202 u203 u204 u205 u206 u207 u208 u209 u210 u211 u212 u213 u214 u215 u216 u217 u218 u219 u220 u221 u222 u223 u224 u225 u226 u227 u228 u229 u230 u231 u232 u233 u234 u235 u236 u237 u238 u239 u240 u241 u242 u243 u244 : Value} :
    Code.wp Try.prog (restOf Try.f16 41) (bodyPost Try.prog Try.f16 (NextR w B rb l h d)) ⟨(u0 :: u1 :: u2 :: u3 :: u4 :: u5 :: .pointer (some ⟨R, 0, none⟩) :: u7 :: u8 :: u9 :: u10 :: u11 :: u12 :: .pointer (some ⟨q, 0, none⟩) :: u14 :: u15 :: u16 :: .int .i64 c :: u18 :: u19 :: u20 :: u21 :: u22 :: u23 :: u24 :: u25 :: u26 :: u27 :: u28 :: u29 :: u30 :: u31 :: u32 :: u33 :: u34 :: u35 :: u36 :: u37 :: u38 :: u39 :: u40 :: u41 :: u42 :: u43 :: u44 :: u45 :: u46 :: u47 :: u48 :: u49 :: u50 :: u51 :: u52 :: u53 :: u54 :: u55 :: u56 :: u57 :: u58 :: u59 :: u60 :: u61 :: u62 :: u63 :: u64 :: u65 :: u66 :: u67 :: u68 :: u69 :: u70 :: u71 :: u72 :: u73 :: u74 :: u75 :: u76 :: u77 :: u78 :: u79 :: u80 :: u81 :: u82 :: u83 :: u84 :: u85 :: u86 :: u87 :: u88 :: u89 :: u90 :: u91 :: u92 :: u93 :: u94 :: u95 :: u96 :: u97 :: u98 :: u99 :: u100 :: u101 :: u102 :: u103 :: u104 :: u105 :: u106 :: u107 :: u108 :: u109 :: u110 :: u111 :: u112 :: u113 :: u114 :: u115 :: u116 :: u117 :: u118 :: u119 :: u120 :: u121 :: u122 :: u123 :: u124 :: u125 :: u126 :: u127 :: u128 :: u129 :: u130 :: u131 :: u132 :: u133 :: u134 :: u135 :: u136 :: u137 :: u138 :: u139 :: u140 :: u141 :: u142 :: u143 :: u144 :: u145 :: u146 :: u147 :: u148 :: u149 :: u150 :: u151 :: u152 :: u153 :: u154 :: u155 :: u156 :: u157 :: u158 :: u159 :: u160 :: u161 :: u162 :: u163 :: u164 :: u165 :: u166 :: u167 :: u168 :: u169 :: u170 :: u171 :: u172 :: u173 :: u174 :: u175 :: u176 :: u177 :: u178 :: u179 :: u180 :: u181 :: u182 :: u183 :: u184 :: u185 :: u186 :: u187 :: u188 :: u189 :: u190 :: u191 :: u192 :: u193 :: u194 :: u195 :: u196 :: u197 :: u198 :: u199 :: u200 :: u201 :: u202 :: u203 :: u204 :: u205 :: u206 :: u207 :: u208 :: u209 :: u210 :: u211 :: u212 :: u213 :: u214 :: u215 :: u216 :: u217 :: u218 :: u219 :: u220 :: u221 :: u222 :: u223 :: u224 :: u225 :: u226 :: u227 :: u228 :: u229 :: u230 :: u231 :: u232 :: u233 :: u234 :: u235 :: u236 :: u237 :: u238 :: u239 :: u240 :: u241 :: u242 :: u243 :: u244 :: []).toArray, []⟩ wx := by
  have HX := Lib.hid (And.intro hx (And.intro hf (And.intro hp (And.intro hm (And.intro hb hc)))))
  clear hx hf hp hm hb hc
  conv => arg 2; whnf
  go_wp2_with (first
    | (refine wpList_load_row (by rfl) 28 (.tmp 13) (by rfl) q (by rfl) 28 (pdC p aa ac da dc) (0, 0) _ (by exact HX.out.1.blk) Try.underlying28 rfl (by kernel_rfl) ?_)
    | (refine wpList_store_row (by rfl) 28 (.tmp 6) (.tmp 243) (by rfl) R (pdC p aa ac da dc) (by rfl) (by rfl) 28 pdZ (by exact HX.out.1.res) (by kernel_rfl) (by rfl) (pdC_one p aa ac da dc) ?_))
  refine bodyPost_ret (v := .tuple #[.agg (pdC p aa ac da dc), .int .i64 c]) (results_cell_tmp Try.results16 _ _ R 28 (pdC p aa ac da dc) _ (by rfl) (isBlk_setRow HX.out.1.res _) _ (by rfl) Try.underlying28 rfl (by kernel_rfl)) rfl ?_
  rw [HX.out.2.2.2.2.2]
  exact HX.out.1.done HX.out.2.1 HX.out.2.2.1 HX.out.2.2.2.1 HX.out.2.2.2.2.1

/-- What waits is stored. -/
theorem Px.rest {w w1 : World} {B rb R tb q : Nat} {v v' : Value} {l m : List Nat} {aa da : Option Addr} {ac dc : Nat} {p : PD} (h : Px w w1 B rb R tb q v l aa ac da dc p) (ho : Own w1 w.heap.size v' m) (hB : B ≤ w.heap.size) :
    Px w (w1.setCell ⟨rb, 0, none⟩ v') B rb R tb q v' m aa ac da dc p := by
  have hb : But (fun k => k = rb) w1 (w1.setCell ⟨rb, 0, none⟩ v') := (But.refl (fun k => k = rb) w1).setCell (p := ⟨rb, 0, none⟩) rfl v'
  refine ⟨⟨h.rd.blk.set 0 v', (hb.own ho (fun k hk e => ho.ne_blk h.rd.blk (by decide) (by rw [hk, e]))).mono hB, fun a ha => ?_, h.rd.hB⟩, hb.blk h.res (fun e => blk_ne h.res h.rd.blk (by decide) e), hb.blk h.blk (fun e => blk_ne h.blk h.rd.blk (by decide) e), h.ne, h.but.trans hb, h.hR, h.hq, hb.own h.ao (fun k hk e => h.ao.ne_blk h.rd.blk (by decide) (by rw [hk, e])), hb.own h.od (fun k hk e => h.od.ne_blk h.rd.blk (by decide) (by rw [hk, e])), fun k hk => .inl (ho.base_le k hk)⟩
  obtain ⟨tb', rfl, ht⟩ := h.rd.tab a ha
  exact ⟨tb', rfl, hb.blk ht (blk_ne ht h.rd.blk (by decide))⟩

set_option maxRecDepth 100000 in
set_option maxHeartbeats 1000000 in
theorem nxt_40 {w wx : World} {B rb R tb q g n cap : Nat} {l : List Nat} {aa da : Option Addr} {ac dc : Nat} {p : PD} {h d : Bool} {f : Fd} (hx : Px w wx B rb R tb q (.slice (some ⟨g, 0, none⟩) n cap) l aa ac da dc p) (hn : l.length = n) (hnc : n ≤ cap) (hlm : n ≤ 140737488355328) (hB : B ≤ w.heap.size) (e : Nat) (he : e ≤ n) (hf : findP l h d = f) (hp : pduP l h d = p) (hm : restP l h d = l.drop e) (hb : f ≠ .broken)
    (c : Int) (hc : c = (f.code : Nat)) {u1 u2 u3 u4 u5 u7 u9 u10 u11 u14 u15 u16 u18 u19 u20 u21 u22 u23 u24 u25 u26 u27 u28 u29 u30 u31 u32 u33 u34 u35 u36 u37 u38 u39 u40 u41 u42 u43 u44 u45 u46 u47 u48 u49 u50 u51 u52 u53 u54 u55 u56 u57 u58 u59 u60 u61 u62 u63 u64 u65 u66 u67 u68 u69 u70 u71 u72 u73 u74 u75 u76 u77 u78 u79 u80 u81 u82 u83 u84 u85 u86 u87 u88 u89 u90 u91 u92 u93 u94 u95 u96 u97 u98 u99 u100 u101 u102 u103 u104 u105 u106 u107 u108 u109 u110 u111 u112 u113 u114 u115 u116 u117 u118 u119 u120 u121 u122 u123 u124 u125 u126 u127 u128 u129 u130 u131 u132 u133 u134 u135 u136 u137 u138 u139 u140 u141 u142 u143 u144 u145 u146 u147 u148 u149 u150 u151 u152 u153 u154 u155 u156 u157 u158 u159 u160 u161 u162 u163 u164 u165 u166 u167 u168 u169 u170 u171 u172 u173 u174 u175 u176 u177 u178 u179 u180 u181 u182 u183 u184 u185 u186 u187 u188 u189 u190 u191 u192 u193 u194 u195 u196 u197 u198 u199 u200 u201 u202 u203 u204 u205 u206 u207 u208 u209 u210 u211 u212 u213 u214 u215 u216 u217 u218 u219 u220 u221 u222 u223 u224 u225 u226 u227 u228 u229 u230 u231 u232 u233 u234 u235 u236 u237 u238 u239 u240 u241 u242 u243 u244 : Value} :
    Code.wp Try.prog (restOf Try.f16 40) (bodyPost Try.prog Try.f16 (NextR w B rb l h d)) ⟨(.pointer (some ⟨rb, 0, none⟩) :: u1 :: u2 :: u3 :: u4 :: u5 :: .pointer (some ⟨R, 0, none⟩) :: u7 :: .slice (some ⟨g, 0, none⟩) n cap :: u9 :: u10 :: u11 :: .int .i64 (e : Nat) :: .pointer (some ⟨q, 0, none⟩) :: u14 :: u15 :: u16 :: .int .i64 c :: u18 :: u19 :: u20 :: u21 :: u22 :: u23 :: u24 :: u25 :: u26 :: u27 :: u28 :: u29 :: u30 :: u31 :: u32 :: u33 :: u34 :: u35 :: u36 :: u37 :: u38 :: u39 :: u40 :: u41 :: u42 :: u43 :: u44 :: u45 :: u46 :: u47 :: u48 :: u49 :: u50 :: u51 :: u52 :: u53 :: u54 :: u55 :: u56 :: u57 :: u58 :: u59 :: u60 :: u61 :: u62 :: u63 :: u64 :: u65 :: u66 :: u67 :: u68 :: u69 :: u70 :: u71 :: u72 :: u73 :: u74 :: u75 :: u76 :: u77 :: u78 :: u79 :: u80 :: u81 :: u82 :: u83 :: u84 :: u85 :: u86 :: u87 :: u88 :: u89 :: u90 :: u91 :: u92 :: u93 :: u94 :: u95 :: u96 :: u97 :: u98 :: u99 :: u100 :: u101 :: u102 :: u103 :: u104 :: u105 :: u106 :: u107 :: u108 :: u109 :: u110 :: u111 :: u112 :: u113 :: u114 :: u115 :: u116 :: u117 :: u118 :: u119 :: u120 :: u121 :: u122 :: u123 :: u124 :: u125 :: u126 :: u127 :: u128 :: u129 :: u130 :: u131 :: u132 :: u133 :: u134 :: u135 :: u136 :: u137 :: u138 :: u139 :: u140 :: u141 :: u142 :: u143 :: u144 :: u145 :: u146 :: u147 :: u148 :: u149 :: u150 :: u151 :: u152 :: u153 :: u154 :: u155 :: u156 :: u157 :: u158 :: u159 :: u160 :: u161 :: u162 :: u163 :: u164 :: u165 :: u166 :: u167 :: u168 :: u169 :: u170 :: u171 :: u172 :: u173 :: u174 :: u175 :: u176 :: u177 :: u178 :: u179 :: u180 :: u181 :: u182 :: u183 :: u184 :: u185 :: u186 :: u187 :: u188 :: u189 :: u190 :: u191 :: u192 :: u193 :: u194 :: u195 :: u196 :: u197 :: u198 :: u199 :: u200 :: u201 :: u202 :: u203 :: u204 :: u205 :: u206 :: u207 :: u208 :: u209 :: u210 :: u211 :: u212 :: u213 :: u214 :: u215 :: u216 :: u217 :: u218 :: u219 :: u220 :: u221 :: u222 :: u223 :: u224 :: u225 :: u226 :: u227 :: u228 :: u229 :: u230 :: u231 :: u232 :: u233 :: u234 :: u235 :: u236 :: u237 :: u238 :: u239 :: u240 :: u241 :: u242 :: u243 :: u244 :: []).toArray, []⟩ wx := by
  obtain ⟨k, hk⟩ : ∃ k, k = n - e := ⟨_, rfl⟩
  have hml : (l.drop e).length = k := by rw [List.length_drop]; omega
  have hby : IsBytes wx (cutA (some ⟨g, 0, none⟩) cap e) (l.drop e) := by
    obtain ⟨a', cap', e1, hb', -⟩ := hx.rd.own.form
    injection e1 with e11 e12 e13
    have := isBytes_cut hb' cap e l.length (by omega) (Nat.le_refl _) (by omega)
    rw [← e11, List.take_of_length_le (by rw [List.length_drop]; omega)] at this
    exact this
  have hcn : cutA (some ⟨g, 0, none⟩) cap e = none → cap - e = 0 := cutA_none (by simp)
  generalize hA : cutA (some ⟨g, 0, none⟩) cap e = A at *
  generalize hM : l.drop e = M at *
  have HX := Lib.hid (And.intro hx (And.intro hf (And.intro hp (And.intro hm (And.intro hb hc)))))
  have HY := Lib.hid (And.intro hby (And.intro hcn (And.intro hml (And.intro hA hk))))
  clear hx hf hp hm hb hc hby hcn hml hA hk hM hn
  conv => arg 2; whnf
  refine wp_seq_k (fun K hK => ?_)
  have HK := Lib.hid hK
  clear hK
  go_wp2_with (first
    | (refine wpList_cut' (by rfl) (.tmp 237) (some (.tmp 238)) none (by rfl) (t := 23) (e := 5) (by kernel_rfl) (by kernel_rfl) (a := some ⟨g, 0, none⟩) (len := n) (cap := cap) (by rfl) e n k (by exact HY.out.2.2.2.2.symm) (by exact bounds_l e (by omega)) ?_; rw [HY.out.2.2.2.1])
    | (at_builtin; refine wpList_app' rfl (.const (.slice none 0 0)) (.tmp 239) rfl wx.heap.size (.slice none 0 0) [] rfl (Own.nil _ _) A k (cap - e) M rfl HY.out.2.2.1.symm HY.out.1 HY.out.2.1 (by have := HY.out.2.2.1; have := HY.out.2.2.2.2; simp; omega) (Nat.le_refl _) ?_; intro v' w1 ho1 hb1 hg1 hv1; have hx1 := HX.out.1.below hb1; have c0 := hx1.rd.blk.cell 0 (v := .slice (some ⟨g, 0, none⟩) n cap) rfl; have fz := hx1.rd.blk.fz; have HX1 := Lib.hid (And.intro hx1 (ho1.mono HX.out.1.but.size)); obtain ⟨va, vn, vc, rfl, hvn⟩ := ho1.slice; clear hx1 ho1 hb1 hg1 hv1 hvn))
  refine HK.out _ _ ?_
  exact nxt_41 (HX1.out.1.rest HX1.out.2 hB) HX.out.2.1 HX.out.2.2.1 HX.out.2.2.2.1 HX.out.2.2.2.2.1 c HX.out.2.2.2.2.2

/-- What the reading comes to, the PDU's heads being p. -/
structure Told (l : List Nat) (h d : Bool) (at_ dn e : Nat) (p : PD) : Prop where
  bad : (d && decide (0 < dn) && !fitsB (sub l at_ (e - at_))) = true → findP l h d = .bad ∧ pduP l h d = p
  whole : (d && decide (0 < dn) && !fitsB (sub l at_ (e - at_))) = false → findP l h d = .whole ∧ pduP l h d = { p with data := sub l at_ dn }
  rest : restP l h d = l.drop e
  data : p.data = []
  le : at_ + dn ≤ e
  len : e ≤ l.length
  four : d = true → 0 < dn → at_ + 4 ≤ e

set_option maxRecDepth 100000 in
set_option maxHeartbeats 1000000 in
/-- The data is read. -/
theorem nxt_39 {w wx : World} {B rb R tb q g n cap : Nat} {l : List Nat} {aa da : Option Addr} {ac dc : Nat} {p : PD} {h d : Bool} (hx : Px w wx B rb R tb q (.slice (some ⟨g, 0, none⟩) n cap) l aa ac da dc p) (hn : l.length = n) (hnc : n ≤ cap) (hlm : n ≤ 140737488355328) (hB : B ≤ w.heap.size) (at_ dn e : Nat) (hT : Told l h d at_ dn e p)
    (hw : (d && decide (0 < dn) && !fitsB (sub l at_ (e - at_))) = false) {K : Act → World → Prop} {C1 : Code} (hK : ∀ a w', Code.wp Try.prog (restOf Try.f16 40) (bodyPost Try.prog Try.f16 (NextR w B rb l h d)) a w' → K a w') {u1 u2 u3 u4 u5 u7 u9 u14 u15 u16 u18 u19 u20 u21 u22 u23 u24 u25 u26 u27 u28 u29 u30 u31 u32 u33 u34 u35 u36 u37 u38 u39 u40 u41 u42 u43 u44 u45 u46 u47 u48 u49 u50 u51 u52 u53 u54 u55 u56 u57 u58 u59 u60 u61 u62 u63 u64 u65 u66 u67 u68 u69 u70 u71 u72 u73 u74 u75 u76 u77 u78 u79 u80 u81 u82 u83 u84 u85 u86 u87 u88 u89 u90 u91 u92 u93 u94 u95 u96 u97 u98 u99 u100 u101 u102 u103 u104 u105 u106 u107 u108 u109 u110 u111 u112 u113 u114 u115 u116 u117 u118 u119 u120 u121 u122 u123 u124 u125 u126 u127 u128 u129 u130 u131 u132 u133 u134 u135 u136 u137 u138 u139 u140 u141 u142 u143 u144 u145 u146 u147 u148 u149 u150 u151 u152 u153 u154 u155 u156 u157 u158 u159 u160 u161 u162 u163 u164 u165 u166 u167 u168 u169 u170 u171 u172 u173 u174 u175 u176 u177 u178 u179 u180 u181 u182 u183 u184 u185 u186 u187 u188 u189 u190 u191 u192 u193 u194 u195 u196 u197 u198 u199 u200 u201 u202 u203 u204 u205 u206 u207 u208 u209 u210 u211 u212 u213 u214 u215 u216 u217 u218 u219 u220 u221 u222 u223 u224 u225 u226 u228 u229 u230 u231 u232 u233 u234 u235 u236 u237 u238 u239 u240 u241 u242 u243 u244 : Value} :
    Code.wp Try.prog (Code.cond (.tmp 227) C1 (elseOf (restOf Try.f16 37))) (Exit.then K (bodyPost Try.prog Try.f16 (NextR w B rb l h d))) ⟨(.pointer (some ⟨rb, 0, none⟩) :: u1 :: u2 :: u3 :: u4 :: u5 :: .pointer (some ⟨R, 0, none⟩) :: u7 :: .slice (some ⟨g, 0, none⟩) n cap :: u9 :: .int .i64 (dn : Nat) :: .int .i64 (at_ : Nat) :: .int .i64 (e : Nat) :: .pointer (some ⟨q, 0, none⟩) :: u14 :: u15 :: u16 :: .int .i64 1 :: u18 :: u19 :: u20 :: u21 :: u22 :: u23 :: u24 :: u25 :: u26 :: u27 :: u28 :: u29 :: u30 :: u31 :: u32 :: u33 :: u34 :: u35 :: u36 :: u37 :: u38 :: u39 :: u40 :: u41 :: u42 :: u43 :: u44 :: u45 :: u46 :: u47 :: u48 :: u49 :: u50 :: u51 :: u52 :: u53 :: u54 :: u55 :: u56 :: u57 :: u58 :: u59 :: u60 :: u61 :: u62 :: u63 :: u64 :: u65 :: u66 :: u67 :: u68 :: u69 :: u70 :: u71 :: u72 :: u73 :: u74 :: u75 :: u76 :: u77 :: u78 :: u79 :: u80 :: u81 :: u82 :: u83 :: u84 :: u85 :: u86 :: u87 :: u88 :: u89 :: u90 :: u91 :: u92 :: u93 :: u94 :: u95 :: u96 :: u97 :: u98 :: u99 :: u100 :: u101 :: u102 :: u103 :: u104 :: u105 :: u106 :: u107 :: u108 :: u109 :: u110 :: u111 :: u112 :: u113 :: u114 :: u115 :: u116 :: u117 :: u118 :: u119 :: u120 :: u121 :: u122 :: u123 :: u124 :: u125 :: u126 :: u127 :: u128 :: u129 :: u130 :: u131 :: u132 :: u133 :: u134 :: u135 :: u136 :: u137 :: u138 :: u139 :: u140 :: u141 :: u142 :: u143 :: u144 :: u145 :: u146 :: u147 :: u148 :: u149 :: u150 :: u151 :: u152 :: u153 :: u154 :: u155 :: u156 :: u157 :: u158 :: u159 :: u160 :: u161 :: u162 :: u163 :: u164 :: u165 :: u166 :: u167 :: u168 :: u169 :: u170 :: u171 :: u172 :: u173 :: u174 :: u175 :: u176 :: u177 :: u178 :: u179 :: u180 :: u181 :: u182 :: u183 :: u184 :: u185 :: u186 :: u187 :: u188 :: u189 :: u190 :: u191 :: u192 :: u193 :: u194 :: u195 :: u196 :: u197 :: u198 :: u199 :: u200 :: u201 :: u202 :: u203 :: u204 :: u205 :: u206 :: u207 :: u208 :: u209 :: u210 :: u211 :: u212 :: u213 :: u214 :: u215 :: u216 :: u217 :: u218 :: u219 :: u220 :: u221 :: u222 :: u223 :: u224 :: u225 :: u226 :: .bool false :: u228 :: u229 :: u230 :: u231 :: u232 :: u233 :: u234 :: u235 :: u236 :: u237 :: u238 :: u239 :: u240 :: u241 :: u242 :: u243 :: u244 :: []).toArray, []⟩ wx := by
  have q1 := hT.le
  have q2 := hT.len
  rw [hn] at q2
  have hml : (sub l at_ dn).length = dn := by unfold sub; rw [List.length_take, List.length_drop]; omega
  have hby : IsBytes wx (cutA (some ⟨g, 0, none⟩) cap at_) (sub l at_ dn) := by
    obtain ⟨a', cap', e1, hb', -⟩ := hx.rd.own.form
    injection e1 with e11 e12 e13
    have := isBytes_cut hb' cap at_ (at_ + dn) (by omega) (by omega) (by omega)
    rw [← e11, Nat.add_sub_cancel_left] at this
    exact this
  have hcn : cutA (some ⟨g, 0, none⟩) cap at_ = none → cap - at_ = 0 := cutA_none (by simp)
  obtain ⟨hf, hp⟩ := hT.whole hw
  have hm := hT.rest
  generalize hA : cutA (some ⟨g, 0, none⟩) cap at_ = A at *
  generalize hM : sub l at_ dn = M at *
  have HX := Lib.hid (And.intro hx (And.intro hf (And.intro hp (And.intro hm (And.intro hT.data hn)))))
  have HY := Lib.hid (And.intro hby (And.intro hcn (And.intro hml (And.intro hA hM))))
  have HK := Lib.hid hK
  clear hx hf hp hm hby hcn hml hA hM hn hT hw hK
  conv => arg 2; arg 3; whnf
  go_wp2_with (first
    | (refine wpList_cut' (by rfl) (.tmp 228) (some (.tmp 229)) (some (.tmp 232)) (by rfl) (t := 23) (e := 5) (by kernel_rfl) (by kernel_rfl) (a := some ⟨g, 0, none⟩) (len := n) (cap := cap) (by rfl) at_ (at_ + dn) dn (by omega) (by exact bounds_lhi at_ (at_ + dn) rfl (by push_cast; rfl) (by omega) (by omega)) ?_; rw [HY.out.2.2.2.1])
    | (at_builtin; refine wpList_app' rfl (.const (.slice none 0 0)) (.tmp 233) rfl wx.heap.size (.slice none 0 0) [] rfl (Own.nil _ _) A dn (cap - at_) M rfl HY.out.2.2.1.symm HY.out.1 HY.out.2.1 (by have := HY.out.2.2.1; simp; omega) (Nat.le_refl _) ?_; intro v' w1 ho1 hb1 hg1 hv1; have hx1 := HX.out.1.below hb1; have c15 := hx1.blk.cell 15 (v := .slice da p.data.length dc) rfl; have fz := hx1.blk.fz; have HX1 := Lib.hid (And.intro hx1 (ho1.mono HX.out.1.but.size)); obtain ⟨va, vn, vc, rfl, hvn⟩ := ho1.slice; clear hx1 ho1 hb1 hg1 hv1))
  refine HK.out _ _ ?_
  have e1 : vn = M.length := hvn.out
  subst e1
  refine nxt_40 (p := { p with data := M }) (da := va) (dc := vc) (HX1.out.1.store 15 (.slice va M.length vc) (p' := { p with data := M }) (da' := va) (dc' := vc) rfl rfl ?_) HX.out.2.2.2.2.2 hnc hlm hB e q2 HX.out.2.1 HX.out.2.2.1 HX.out.2.2.2.1 (by decide) 1 rfl
  have hb : But (fun k => k = q) w1 (w1.setCell ⟨q, 15, none⟩ (.slice va M.length vc)) := (But.refl (fun k => k = q) w1).setCell (p := ⟨q, 15, none⟩) rfl _
  exact hb.own HX1.out.2 (fun k hk e => HX1.out.2.ne_blk HX1.out.1.blk (by decide) (by rw [hk, e]))

set_option maxRecDepth 100000 in
set_option maxHeartbeats 1000000 in
theorem nxt_37_no {w wx : World} {B rb R tb q g n cap : Nat} {l : List Nat} {aa da : Option Addr} {ac dc : Nat} {p : PD} {h d : Bool} (hx : Px w wx B rb R tb q (.slice (some ⟨g, 0, none⟩) n cap) l aa ac da dc p) (hn : l.length = n) (hnc : n ≤ cap) (hlm : n ≤ 140737488355328) (hB : B ≤ w.heap.size) (at_ dn e : Nat) (hT : Told l h d at_ dn e p)
    (hno : (d && decide (0 < dn)) = false) {u1 u3 u4 u5 u7 u9 u14 u15 u16 u18 u19 u20 u21 u22 u23 u24 u25 u26 u27 u28 u29 u30 u31 u32 u33 u34 u35 u36 u37 u38 u39 u40 u41 u42 u43 u44 u45 u46 u47 u48 u49 u50 u51 u52 u53 u54 u55 u56 u57 u58 u59 u60 u61 u62 u63 u64 u65 u66 u67 u68 u69 u70 u71 u72 u73 u74 u75 u76 u77 u78 u79 u80 u81 u82 u83 u84 u85 u86 u87 u88 u89 u90 u91 u92 u93 u94 u95 u96 u97 u98 u99 u100 u101 u102 u103 u104 u105 u106 u107 u108 u109 u110 u111 u112 u113 u114 u115 u116 u117 u118 u119 u120 u121 u122 u123 u124 u125 u126 u127 u128 u129 u130 u131 u132 u133 u134 u135 u136 u137 u138 u139 u140 u141 u142 u143 u144 u145 u146 u147 u148 u149 u150 u151 u152 u153 u154 u155 u156 u157 u158 u159 u160 u161 u162 u163 u164 u165 u166 u167 u168 u169 u170 u171 u172 u173 u174 u175 u176 u177 u178 u179 u180 u181 u182 u183 u184 u185 u186 u187 u188 u189 u190 u191 u192 u193 u194 u195 u196 u197 u198 u199 u200 u201 u202 u203 u204 u205 u206 u207 u208 u209 u210 u211 u212 u213 u214 u215 u216 u217 u218 u219 u220 u221 u222 u223 u224 u225 u226 u227 u228 u229 u230 u231 u232 u233 u234 u235 u236 u237 u238 u239 u240 u241 u242 u243 u244 : Value} :
    Code.wp Try.prog (restOf Try.f16 37) (bodyPost Try.prog Try.f16 (NextR w B rb l h d)) ⟨(.pointer (some ⟨rb, 0, none⟩) :: u1 :: .bool d :: u3 :: u4 :: u5 :: .pointer (some ⟨R, 0, none⟩) :: u7 :: .slice (some ⟨g, 0, none⟩) n cap :: u9 :: .int .i64 (dn : Nat) :: .int .i64 (at_ : Nat) :: .int .i64 (e : Nat) :: .pointer (some ⟨q, 0, none⟩) :: u14 :: u15 :: u16 :: .int .i64 1 :: u18 :: u19 :: u20 :: u21 :: u22 :: u23 :: u24 :: u25 :: u26 :: u27 :: u28 :: u29 :: u30 :: u31 :: u32 :: u33 :: u34 :: u35 :: u36 :: u37 :: u38 :: u39 :: u40 :: u41 :: u42 :: u43 :: u44 :: u45 :: u46 :: u47 :: u48 :: u49 :: u50 :: u51 :: u52 :: u53 :: u54 :: u55 :: u56 :: u57 :: u58 :: u59 :: u60 :: u61 :: u62 :: u63 :: u64 :: u65 :: u66 :: u67 :: u68 :: u69 :: u70 :: u71 :: u72 :: u73 :: u74 :: u75 :: u76 :: u77 :: u78 :: u79 :: u80 :: u81 :: u82 :: u83 :: u84 :: u85 :: u86 :: u87 :: u88 :: u89 :: u90 :: u91 :: u92 :: u93 :: u94 :: u95 :: u96 :: u97 :: u98 :: u99 :: u100 :: u101 :: u102 :: u103 :: u104 :: u105 :: u106 :: u107 :: u108 :: u109 :: u110 :: u111 :: u112 :: u113 :: u114 :: u115 :: u116 :: u117 :: u118 :: u119 :: u120 :: u121 :: u122 :: u123 :: u124 :: u125 :: u126 :: u127 :: u128 :: u129 :: u130 :: u131 :: u132 :: u133 :: u134 :: u135 :: u136 :: u137 :: u138 :: u139 :: u140 :: u141 :: u142 :: u143 :: u144 :: u145 :: u146 :: u147 :: u148 :: u149 :: u150 :: u151 :: u152 :: u153 :: u154 :: u155 :: u156 :: u157 :: u158 :: u159 :: u160 :: u161 :: u162 :: u163 :: u164 :: u165 :: u166 :: u167 :: u168 :: u169 :: u170 :: u171 :: u172 :: u173 :: u174 :: u175 :: u176 :: u177 :: u178 :: u179 :: u180 :: u181 :: u182 :: u183 :: u184 :: u185 :: u186 :: u187 :: u188 :: u189 :: u190 :: u191 :: u192 :: u193 :: u194 :: u195 :: u196 :: u197 :: u198 :: u199 :: u200 :: u201 :: u202 :: u203 :: u204 :: u205 :: u206 :: u207 :: u208 :: u209 :: u210 :: u211 :: u212 :: u213 :: u214 :: u215 :: u216 :: u217 :: u218 :: u219 :: u220 :: u221 :: u222 :: u223 :: u224 :: u225 :: u226 :: u227 :: u228 :: u229 :: u230 :: u231 :: u232 :: u233 :: u234 :: u235 :: u236 :: u237 :: u238 :: u239 :: u240 :: u241 :: u242 :: u243 :: u244 :: []).toArray, []⟩ wx := by
  have hw : (d && decide (0 < dn) && !fitsB (sub l at_ (e - at_))) = false := by rw [hno]; rfl
  cases d with
  | false =>
    have HX := Lib.hid (And.intro hx (And.intro hn (And.intro hT hw)))
    clear hx hn hT hno hw
    conv => arg 2; whnf
    refine wp_seq_k (fun K hK => ?_)
    have HK := Lib.hid hK
    clear hK
    go_upto_region 37 with fail
    go_quiet (fail)
    go_upto_if 227 with fail
    exact nxt_39 (HX.out.1.drewN _) HX.out.2.1 hnc hlm hB at_ dn e HX.out.2.2.1 HX.out.2.2.2 HK.out
  | true =>
    have hd0 : dn = 0 := by simp at hno; omega
    have g1 : decide ((0 : Int) < (dn : Int)) = false := by simp; omega
    have g2 : decide (0 < dn) = false := by simp; omega
    have HX := Lib.hid (And.intro hx (And.intro hn (And.intro hT hw)))
    clear hx hn hT hno hw hd0
    conv => arg 2; whnf
    refine wp_seq_k (fun K hK => ?_)
    have HK := Lib.hid hK
    clear hK
    go_upto_region 37 with fail
    go_quiet (fail)
    go_upto_if 227 with fail
    exact nxt_39 (HX.out.1.drewN _) HX.out.2.1 hnc hlm hB at_ dn e HX.out.2.2.1 HX.out.2.2.2 HK.out

set_option maxRecDepth 100000 in
set_option maxHeartbeats 2000000 in
theorem nxt_37_yes {w wx : World} {B rb R tb q g n cap : Nat} {l : List Nat} {aa da : Option Addr} {ac dc : Nat} {p : PD} {h : Bool} (hx : Px w wx B rb R tb q (.slice (some ⟨g, 0, none⟩) n cap) l aa ac da dc p) (hn : l.length = n) (hnc : n ≤ cap) (hcm : cap ≤ maxLen) (hlm : n ≤ 140737488355328) (hB : B ≤ w.heap.size) (at_ dn e : Nat) (hT : Told l h true at_ dn e p)
    (hdn : 0 < dn) {u1 u3 u4 u5 u7 u9 u14 u15 u16 u18 u19 u20 u21 u22 u23 u24 u25 u26 u27 u28 u29 u30 u31 u32 u33 u34 u35 u36 u37 u38 u39 u40 u41 u42 u43 u44 u45 u46 u47 u48 u49 u50 u51 u52 u53 u54 u55 u56 u57 u58 u59 u60 u61 u62 u63 u64 u65 u66 u67 u68 u69 u70 u71 u72 u73 u74 u75 u76 u77 u78 u79 u80 u81 u82 u83 u84 u85 u86 u87 u88 u89 u90 u91 u92 u93 u94 u95 u96 u97 u98 u99 u100 u101 u102 u103 u104 u105 u106 u107 u108 u109 u110 u111 u112 u113 u114 u115 u116 u117 u118 u119 u120 u121 u122 u123 u124 u125 u126 u127 u128 u129 u130 u131 u132 u133 u134 u135 u136 u137 u138 u139 u140 u141 u142 u143 u144 u145 u146 u147 u148 u149 u150 u151 u152 u153 u154 u155 u156 u157 u158 u159 u160 u161 u162 u163 u164 u165 u166 u167 u168 u169 u170 u171 u172 u173 u174 u175 u176 u177 u178 u179 u180 u181 u182 u183 u184 u185 u186 u187 u188 u189 u190 u191 u192 u193 u194 u195 u196 u197 u198 u199 u200 u201 u202 u203 u204 u205 u206 u207 u208 u209 u210 u211 u212 u213 u214 u215 u216 u217 u218 u219 u220 u221 u222 u223 u224 u225 u226 u227 u228 u229 u230 u231 u232 u233 u234 u235 u236 u237 u238 u239 u240 u241 u242 u243 u244 : Value} :
    Code.wp Try.prog (restOf Try.f16 37) (bodyPost Try.prog Try.f16 (NextR w B rb l h true)) ⟨(.pointer (some ⟨rb, 0, none⟩) :: u1 :: .bool true :: u3 :: u4 :: u5 :: .pointer (some ⟨R, 0, none⟩) :: u7 :: .slice (some ⟨g, 0, none⟩) n cap :: u9 :: .int .i64 (dn : Nat) :: .int .i64 (at_ : Nat) :: .int .i64 (e : Nat) :: .pointer (some ⟨q, 0, none⟩) :: u14 :: u15 :: u16 :: .int .i64 1 :: u18 :: u19 :: u20 :: u21 :: u22 :: u23 :: u24 :: u25 :: u26 :: u27 :: u28 :: u29 :: u30 :: u31 :: u32 :: u33 :: u34 :: u35 :: u36 :: u37 :: u38 :: u39 :: u40 :: u41 :: u42 :: u43 :: u44 :: u45 :: u46 :: u47 :: u48 :: u49 :: u50 :: u51 :: u52 :: u53 :: u54 :: u55 :: u56 :: u57 :: u58 :: u59 :: u60 :: u61 :: u62 :: u63 :: u64 :: u65 :: u66 :: u67 :: u68 :: u69 :: u70 :: u71 :: u72 :: u73 :: u74 :: u75 :: u76 :: u77 :: u78 :: u79 :: u80 :: u81 :: u82 :: u83 :: u84 :: u85 :: u86 :: u87 :: u88 :: u89 :: u90 :: u91 :: u92 :: u93 :: u94 :: u95 :: u96 :: u97 :: u98 :: u99 :: u100 :: u101 :: u102 :: u103 :: u104 :: u105 :: u106 :: u107 :: u108 :: u109 :: u110 :: u111 :: u112 :: u113 :: u114 :: u115 :: u116 :: u117 :: u118 :: u119 :: u120 :: u121 :: u122 :: u123 :: u124 :: u125 :: u126 :: u127 :: u128 :: u129 :: u130 :: u131 :: u132 :: u133 :: u134 :: u135 :: u136 :: u137 :: u138 :: u139 :: u140 :: u141 :: u142 :: u143 :: u144 :: u145 :: u146 :: u147 :: u148 :: u149 :: u150 :: u151 :: u152 :: u153 :: u154 :: u155 :: u156 :: u157 :: u158 :: u159 :: u160 :: u161 :: u162 :: u163 :: u164 :: u165 :: u166 :: u167 :: u168 :: u169 :: u170 :: u171 :: u172 :: u173 :: u174 :: u175 :: u176 :: u177 :: u178 :: u179 :: u180 :: u181 :: u182 :: u183 :: u184 :: u185 :: u186 :: u187 :: u188 :: u189 :: u190 :: u191 :: u192 :: u193 :: u194 :: u195 :: u196 :: u197 :: u198 :: u199 :: u200 :: u201 :: u202 :: u203 :: u204 :: u205 :: u206 :: u207 :: u208 :: u209 :: u210 :: u211 :: u212 :: u213 :: u214 :: u215 :: u216 :: u217 :: u218 :: u219 :: u220 :: u221 :: u222 :: u223 :: u224 :: u225 :: u226 :: u227 :: u228 :: u229 :: u230 :: u231 :: u232 :: u233 :: u234 :: u235 :: u236 :: u237 :: u238 :: u239 :: u240 :: u241 :: u242 :: u243 :: u244 :: []).toArray, []⟩ wx := by
  have hw : (true && decide (0 < dn) && !fitsB (sub l at_ (e - at_))) = !fitsB (sub l at_ (e - at_)) := by simp [hdn]
  have g1 : decide ((0 : Int) < (dn : Int)) = true := by simp; omega
  have g2 : decide (0 < dn) = true := by simp; omega
  have q1 := hT.len
  have q4 := hT.four rfl hdn
  rw [hn] at q1
  have hne : ¬ cap = at_ := by omega
  have hlen : (sub l at_ (e - at_)).length = e - at_ := by unfold sub; rw [List.length_take, List.length_drop]; omega
  have HFT : Hid (∀ w', Below wx.heap.size wx w' → Calls Try.prog 26 #[.pointer (some ⟨tb, 0, none⟩), .slice (some ⟨g, at_, none⟩) (e - at_) (cap - at_)] w' fun e1 w'' => e1 = .returned (.bool (fitsB (sub l at_ (e - at_)))) ∧ Below w'.heap.size w' w'') := Lib.hid (fun w' hw => by
    obtain ⟨tb', he, ht⟩ := (hx.rd.below hw).tab _ rfl
    cases he
    obtain ⟨a', cap', he, hb', -⟩ := (hx.rd.below hw).own.form
    injection he with he1 he2 he3
    rw [← he1] at hb'
    have hc := isBytes_cut hb' cap at_ e (by omega) (by omega) (by omega)
    unfold cutA at hc
    rw [if_neg hne] at hc
    simp only [Option.map_some, Go.WideShapes.add_plain, Nat.zero_add] at hc
    exact fits_tab_any tb _ _ (e - at_) (cap - at_) w' (isTab_of ht) ht.lt hc hlen (by omega) (by omega) (by omega))
  have HSA : Hid (∀ w', Below wx.heap.size wx w' → w'.cell? ⟨rb, 2, none⟩ = some (.pointer (some ⟨tb, 0, none⟩)) ∧ Below wx.heap.size wx w') := Lib.hid (fun w' hw => ⟨(hx.rd.below hw).blk.cell 2 rfl, hw⟩)
  have HS0 : Hid (wx.drew.cell? ⟨rb, 2, none⟩ = some (.pointer (some ⟨tb, 0, none⟩)) ∧ Below wx.heap.size wx wx.drew) := Lib.hid (HSA.out _ (Below.refl _ _).drew)
  obtain ⟨ft, hft⟩ : ∃ b, b = fitsB (sub l at_ (e - at_)) := ⟨_, rfl⟩
  have HFq := Lib.hid hft
  rw [← hft] at HFT hw
  have HX := Lib.hid (And.intro hx (And.intro hn (And.intro hT (And.intro hw hdn))))
  clear hx hn hT hw hft hdn hlen
  conv => arg 2; whnf
  refine wp_seq_k (fun K hK => ?_)
  have HK := Lib.hid hK
  clear hK
  have hle1 : at_ ≤ e := by omega
  have hle2 : e ≤ cap := by omega
  go_upto_region 37 with fail
  refine wp_region_held_drew (S := fun w' => w'.cell? ⟨rb, 2, none⟩ = some (.pointer (some ⟨tb, 0, none⟩)) ∧ Below wx.heap.size wx w') (by kernel_rfl) HS0.out (fun hHeld => ?_)
  refine wpAnyH_take (i := 0) (v := ?_) rfl (by kernel_rfl) (by kernel_rfl) (by kernel_rfl) (fun _ _ _ h => h) (Or.inl ⟨by rfl, ?_⟩) (by with_reducible assumption) ?_
  rotate_left
  · intro w hSw; (try dsimp only at hSw); (try go_split_ands); go_simp; (try with_reducible rfl)
  (try simp only [Act.put, List.getElem_toArray, List.getElem_cons_succ, List.getElem_cons_zero, List.setIfInBounds_toArray, List.set_cons_zero, List.set_cons_succ])
  refine wpAnyH_take (i := 1) (v := ?_) rfl (by kernel_rfl) (by kernel_rfl) (by kernel_rfl) (fun _ _ _ h => h) (Or.inl ⟨by rfl, ?_⟩) (by with_reducible assumption) ?_
  rotate_left
  · intro w hSw; (try dsimp only at hSw); (try go_split_ands); go_simp; (try with_reducible rfl)
  (try simp only [Act.put, List.getElem_toArray, List.getElem_cons_succ, List.getElem_cons_zero, List.setIfInBounds_toArray, List.set_cons_zero, List.set_cons_succ])
  refine wpAnyH_take (i := 2) (v := ?_) rfl (by kernel_rfl) (by kernel_rfl) (by kernel_rfl) (fun _ _ _ h => h) (Or.inl ⟨by rfl, ?_⟩) (by with_reducible assumption) ?_
  rotate_left
  · intro w hSw; (try dsimp only at hSw); (try go_split_ands); go_simp; (try with_reducible rfl)
  (try simp only [Act.put, List.getElem_toArray, List.getElem_cons_succ, List.getElem_cons_zero, List.setIfInBounds_toArray, List.set_cons_zero, List.set_cons_succ])
  refine wpAnyH_take (i := 3) (v := ?_) rfl (by kernel_rfl) (by kernel_rfl) (by kernel_rfl) (fun _ _ _ h => h) (Or.inl ⟨by rfl, ?_⟩) (by with_reducible assumption) ?_
  rotate_left
  · intro w hSw; (try dsimp only at hSw); (try go_split_ands); go_simp; (try with_reducible rfl)
  (try simp only [Act.put, List.getElem_toArray, List.getElem_cons_succ, List.getElem_cons_zero, List.setIfInBounds_toArray, List.set_cons_zero, List.set_cons_succ])
  refine wpAnyH_take (i := 4) (v := ?_) rfl (by kernel_rfl) (by kernel_rfl) (by kernel_rfl) (fun _ _ _ h => h) (Or.inl ⟨by rfl, ?_⟩) (by with_reducible assumption) ?_
  rotate_left
  · intro w hSw; (try dsimp only at hSw); (try go_split_ands); go_simp; (try with_reducible rfl)
  (try simp only [Act.put, List.getElem_toArray, List.getElem_cons_succ, List.getElem_cons_zero, List.setIfInBounds_toArray, List.set_cons_zero, List.set_cons_succ])
  refine wpAnyH_take (i := 5) (v := ?_) rfl (by kernel_rfl) (by kernel_rfl) (by kernel_rfl) (fun _ _ _ h => h) (Or.inl ⟨by rfl, ?_⟩) (by with_reducible assumption) ?_
  rotate_left
  · intro w hSw; (try dsimp only at hSw); (try go_split_ands); go_simp; (try with_reducible rfl)
  (try simp only [Act.put, List.getElem_toArray, List.getElem_cons_succ, List.getElem_cons_zero, List.setIfInBounds_toArray, List.set_cons_zero, List.set_cons_succ])
  refine wpAnyH_take (i := 6) (v := ?_) rfl (by kernel_rfl) (by kernel_rfl) (by kernel_rfl) (fun _ _ _ h => h) (Or.inl ⟨by rfl, ?_⟩) (by with_reducible assumption) ?_
  rotate_left
  · intro w hSw; (try dsimp only at hSw); (try go_split_ands); go_simp; (try with_reducible rfl)
  (try simp only [Act.put, List.getElem_toArray, List.getElem_cons_succ, List.getElem_cons_zero, List.setIfInBounds_toArray, List.set_cons_zero, List.set_cons_succ])
  refine wpAnyH_take (i := 7) (v := ?_) rfl (by kernel_rfl) (by kernel_rfl) (by kernel_rfl) (fun _ _ _ h => h) (Or.inl ⟨by rfl, ?_⟩) (by with_reducible assumption) ?_
  rotate_left
  · intro w hSw; (try dsimp only at hSw); (try go_split_ands); go_simp; (try with_reducible rfl)
  (try simp only [Act.put, List.getElem_toArray, List.getElem_cons_succ, List.getElem_cons_zero, List.setIfInBounds_toArray, List.set_cons_zero, List.set_cons_succ])
  refine wpAnyH_take (i := 8) (v := ?_) rfl (by kernel_rfl) (by kernel_rfl) (by kernel_rfl) (fun _ _ _ h => h) (Or.inl ⟨by rfl, ?_⟩) (by with_reducible assumption) ?_
  rotate_left
  · intro w hSw; (try dsimp only at hSw); (try go_split_ands); go_simp; (try with_reducible rfl)
  (try simp only [Act.put, List.getElem_toArray, List.getElem_cons_succ, List.getElem_cons_zero, List.setIfInBounds_toArray, List.set_cons_zero, List.set_cons_succ])
  refine wpAnyH_take (i := 9) (v := ?_) rfl (by kernel_rfl) (by kernel_rfl) (by kernel_rfl) (fun _ _ _ h => h) (Or.inl ⟨by rfl, ?_⟩) (by with_reducible assumption) ?_
  rotate_left
  · intro w hSw; (try dsimp only at hSw); (try go_split_ands); go_simp; (try with_reducible rfl)
  (try simp only [Act.put, List.getElem_toArray, List.getElem_cons_succ, List.getElem_cons_zero, List.setIfInBounds_toArray, List.set_cons_zero, List.set_cons_succ])
  refine wpAnyH_take (i := 10) (v := ?_) rfl (by kernel_rfl) (by kernel_rfl) (by kernel_rfl) (fun _ _ _ h => h) (Or.inl ⟨by rfl, ?_⟩) (by with_reducible assumption) ?_
  rotate_left
  · intro w hSw; (try dsimp only at hSw); (try go_split_ands); go_simp; (try with_reducible rfl)
  (try simp only [Act.put, List.getElem_toArray, List.getElem_cons_succ, List.getElem_cons_zero, List.setIfInBounds_toArray, List.set_cons_zero, List.set_cons_succ])
  refine wpAnyH_take (i := 11) (v := ?_) rfl (by kernel_rfl) (by kernel_rfl) (by kernel_rfl) (fun _ _ _ h => h) (Or.inl ⟨by rfl, ?_⟩) (by with_reducible assumption) ?_
  rotate_left
  · intro w hSw; (try dsimp only at hSw); (try go_split_ands); go_simp; (try with_reducible rfl)
  (try simp only [Act.put, List.getElem_toArray, List.getElem_cons_succ, List.getElem_cons_zero, List.setIfInBounds_toArray, List.set_cons_zero, List.set_cons_succ])
  refine wpAnyH_take (i := 12) (v := ?_) rfl (by kernel_rfl) (by kernel_rfl) (by kernel_rfl) (fun _ _ _ h => h) (Or.inl ⟨by rfl, ?_⟩) (by with_reducible assumption) ?_
  rotate_left
  · intro w hSw; (try dsimp only at hSw); (try go_split_ands); go_simp; (try with_reducible rfl)
  (try simp only [Act.put, List.getElem_toArray, List.getElem_cons_succ, List.getElem_cons_zero, List.setIfInBounds_toArray, List.set_cons_zero, List.set_cons_succ])
  refine wpAnyH_take (i := 13) (v := ?_) rfl (by kernel_rfl) (by kernel_rfl) (by kernel_rfl) (fun _ _ _ h => h) (Or.inl ⟨by rfl, ?_⟩) (by with_reducible assumption) ?_
  rotate_left
  · intro w hSw; (try dsimp only at hSw); (try go_split_ands); go_simp; (try with_reducible rfl)
  (try simp only [Act.put, List.getElem_toArray, List.getElem_cons_succ, List.getElem_cons_zero, List.setIfInBounds_toArray, List.set_cons_zero, List.set_cons_succ])
  refine wpAnyH_ready (rs := [14]) (by kernel_rfl) (by simp) ?_
  refine AllReadyH.cons rfl (fun K2 hK2 => ?_) AllReadyH.nil
  go_simp
  have hBel := Lib.hid hHeld.2
  go_at_call 26
  (with_reducible refine (HFT.out _ hBel.out).mono ?_)
  rintro e1 W9 ⟨rfl, hb9⟩
  have hBn := Lib.hid (hBel.out.trans (hb9.mono hBel.out.size))
  clear hb9 hBel
  refine hK2.out _ _ (HSA.out _ hBn.out) (fun hHeld => ?_)
  clear hK2 K2
  (try simp only [Act.put, List.getElem_toArray, List.getElem_cons_succ, List.getElem_cons_zero, List.setIfInBounds_toArray, List.set_cons_zero, List.set_cons_succ])
  refine wpAnyH_take (i := 15) (v := ?_) rfl (by kernel_rfl) (by kernel_rfl) (by kernel_rfl) (fun _ _ _ h => h) (Or.inl ⟨by rfl, ?_⟩) (by with_reducible assumption) ?_
  rotate_left
  · intro w hSw; (try dsimp only at hSw); (try go_split_ands); go_simp; (try with_reducible rfl)
  (try simp only [Act.put, List.getElem_toArray, List.getElem_cons_succ, List.getElem_cons_zero, List.setIfInBounds_toArray, List.set_cons_zero, List.set_cons_succ])
  refine wpAnyH_take (i := 16) (v := ?_) rfl (by kernel_rfl) (by kernel_rfl) (by kernel_rfl) (fun _ _ _ h => h) (Or.inl ⟨by rfl, ?_⟩) (by with_reducible assumption) ?_
  rotate_left
  · intro w hSw; (try dsimp only at hSw); (try go_split_ands); go_simp; (try with_reducible rfl)
  (try simp only [Act.put, List.getElem_toArray, List.getElem_cons_succ, List.getElem_cons_zero, List.setIfInBounds_toArray, List.set_cons_zero, List.set_cons_succ])
  refine wpAnyH_done (by kernel_rfl) ?_ _
  clear hHeld
  have HX1 := Lib.hid (HX.out.1.below hBn.out)
  clear hBn HFT HSA HS0
  cases ft with
  | true =>
    go_upto_if 227 with fail
    exact nxt_39 HX1.out HX.out.2.1 hnc hlm hB at_ dn e HX.out.2.2.1 (by rw [← HFq.out]; simp) HK.out
  | false =>
    go_wp2_with fail
    refine HK.out _ _ ?_
    have hb := HX.out.2.2.1.bad (by rw [← HFq.out]; simp; exact HX.out.2.2.2.2)
    exact nxt_40 HX1.out HX.out.2.1 hnc hlm hB e q1 hb.1 hb.2 HX.out.2.2.1.rest (by decide) 2 rfl

theorem nxt_37 {w wx : World} {B rb R tb q g n cap : Nat} {l : List Nat} {aa da : Option Addr} {ac dc : Nat} {p : PD} {h d : Bool} (hx : Px w wx B rb R tb q (.slice (some ⟨g, 0, none⟩) n cap) l aa ac da dc p) (hn : l.length = n) (hnc : n ≤ cap) (hcm : cap ≤ maxLen) (hlm : n ≤ 140737488355328) (hB : B ≤ w.heap.size) (at_ dn e : Nat) (hT : Told l h d at_ dn e p) {u1 u3 u4 u5 u7 u9 u14 u15 u16 u18 u19 u20 u21 u22 u23 u24 u25 u26 u27 u28 u29 u30 u31 u32 u33 u34 u35 u36 u37 u38 u39 u40 u41 u42 u43 u44 u45 u46 u47 u48 u49 u50 u51 u52 u53 u54 u55 u56 u57 u58 u59 u60 u61 u62 u63 u64 u65 u66 u67 u68 u69 u70 u71 u72 u73 u74 u75 u76 u77 u78 u79 u80 u81 u82 u83 u84 u85 u86 u87 u88 u89 u90 u91 u92 u93 u94 u95 u96 u97 u98 u99 u100 u101 u102 u103 u104 u105 u106 u107 u108 u109 u110 u111 u112 u113 u114 u115 u116 u117 u118 u119 u120 u121 u122 u123 u124 u125 u126 u127 u128 u129 u130 u131 u132 u133 u134 u135 u136 u137 u138 u139 u140 u141 u142 u143 u144 u145 u146 u147 u148 u149 u150 u151 u152 u153 u154 u155 u156 u157 u158 u159 u160 u161 u162 u163 u164 u165 u166 u167 u168 u169 u170 u171 u172 u173 u174 u175 u176 u177 u178 u179 u180 u181 u182 u183 u184 u185 u186 u187 u188 u189 u190 u191 u192 u193 u194 u195 u196 u197 u198 u199 u200 u201 u202 u203 u204 u205 u206 u207 u208 u209 u210 u211 u212 u213 u214 u215 u216 u217 u218 u219 u220 u221 u222 u223 u224 u225 u226 u227 u228 u229 u230 u231 u232 u233 u234 u235 u236 u237 u238 u239 u240 u241 u242 u243 u244 : Value} :
    Code.wp Try.prog (restOf Try.f16 37) (bodyPost Try.prog Try.f16 (NextR w B rb l h d)) ⟨(.pointer (some ⟨rb, 0, none⟩) :: u1 :: .bool d :: u3 :: u4 :: u5 :: .pointer (some ⟨R, 0, none⟩) :: u7 :: .slice (some ⟨g, 0, none⟩) n cap :: u9 :: .int .i64 (dn : Nat) :: .int .i64 (at_ : Nat) :: .int .i64 (e : Nat) :: .pointer (some ⟨q, 0, none⟩) :: u14 :: u15 :: u16 :: .int .i64 1 :: u18 :: u19 :: u20 :: u21 :: u22 :: u23 :: u24 :: u25 :: u26 :: u27 :: u28 :: u29 :: u30 :: u31 :: u32 :: u33 :: u34 :: u35 :: u36 :: u37 :: u38 :: u39 :: u40 :: u41 :: u42 :: u43 :: u44 :: u45 :: u46 :: u47 :: u48 :: u49 :: u50 :: u51 :: u52 :: u53 :: u54 :: u55 :: u56 :: u57 :: u58 :: u59 :: u60 :: u61 :: u62 :: u63 :: u64 :: u65 :: u66 :: u67 :: u68 :: u69 :: u70 :: u71 :: u72 :: u73 :: u74 :: u75 :: u76 :: u77 :: u78 :: u79 :: u80 :: u81 :: u82 :: u83 :: u84 :: u85 :: u86 :: u87 :: u88 :: u89 :: u90 :: u91 :: u92 :: u93 :: u94 :: u95 :: u96 :: u97 :: u98 :: u99 :: u100 :: u101 :: u102 :: u103 :: u104 :: u105 :: u106 :: u107 :: u108 :: u109 :: u110 :: u111 :: u112 :: u113 :: u114 :: u115 :: u116 :: u117 :: u118 :: u119 :: u120 :: u121 :: u122 :: u123 :: u124 :: u125 :: u126 :: u127 :: u128 :: u129 :: u130 :: u131 :: u132 :: u133 :: u134 :: u135 :: u136 :: u137 :: u138 :: u139 :: u140 :: u141 :: u142 :: u143 :: u144 :: u145 :: u146 :: u147 :: u148 :: u149 :: u150 :: u151 :: u152 :: u153 :: u154 :: u155 :: u156 :: u157 :: u158 :: u159 :: u160 :: u161 :: u162 :: u163 :: u164 :: u165 :: u166 :: u167 :: u168 :: u169 :: u170 :: u171 :: u172 :: u173 :: u174 :: u175 :: u176 :: u177 :: u178 :: u179 :: u180 :: u181 :: u182 :: u183 :: u184 :: u185 :: u186 :: u187 :: u188 :: u189 :: u190 :: u191 :: u192 :: u193 :: u194 :: u195 :: u196 :: u197 :: u198 :: u199 :: u200 :: u201 :: u202 :: u203 :: u204 :: u205 :: u206 :: u207 :: u208 :: u209 :: u210 :: u211 :: u212 :: u213 :: u214 :: u215 :: u216 :: u217 :: u218 :: u219 :: u220 :: u221 :: u222 :: u223 :: u224 :: u225 :: u226 :: u227 :: u228 :: u229 :: u230 :: u231 :: u232 :: u233 :: u234 :: u235 :: u236 :: u237 :: u238 :: u239 :: u240 :: u241 :: u242 :: u243 :: u244 :: []).toArray, []⟩ wx := by
  by_cases hno : (d && decide (0 < dn)) = false
  · exact nxt_37_no hx hn hnc hlm hB at_ dn e hT hno
  · obtain ⟨rfl, hd⟩ : d = true ∧ 0 < dn := by simp at hno; exact ⟨hno.1, by omega⟩
    exact nxt_37_yes hx hn hnc hcm hlm hB at_ dn e hT hd

/-- The PDU's heads, tag and words as given. -/
abbrev tw (p : PD) (t a0 a1 a2 a3 a4 a5 a6 : Nat) : PD := { p with tag := t, words := [a0, a1, a2, a3, a4, a5, a6] }
section
variable {w wx : World} {B rb R tb q : Nat} {v : Value} {l : List Nat} {aa da : Option Addr} {ac dc : Nat} {p : PD}
theorem Px.tagSet {t t' a0 a1 a2 a3 a4 a5 a6 : Nat} (h : Px w wx B rb R tb q v l aa ac da dc (tw p t' a0 a1 a2 a3 a4 a5 a6)) : Px w (wx.setCell ⟨q, 7, none⟩ (.int .u32 (t : Nat))) B rb R tb q v l aa ac da dc (tw p t a0 a1 a2 a3 a4 a5 a6) :=
  h.store 7 (.int .u32 (t : Nat)) (p' := tw p t a0 a1 a2 a3 a4 a5 a6) rfl rfl (h.odset 7 _)
theorem Px.wordsSet {t a0 a1 a2 a3 a4 a5 a6 b0 b1 b2 b3 b4 b5 b6 : Nat} (h : Px w wx B rb R tb q v l aa ac da dc (tw p t b0 b1 b2 b3 b4 b5 b6)) : Px w (((((((wx.setCell ⟨q, 8, none⟩ (.int .u32 (a0 : Nat))).setCell ⟨q, 9, none⟩ (.int .u32 (a1 : Nat))).setCell ⟨q, 10, none⟩ (.int .u32 (a2 : Nat))).setCell ⟨q, 11, none⟩ (.int .u32 (a3 : Nat))).setCell ⟨q, 12, none⟩ (.int .u32 (a4 : Nat))).setCell ⟨q, 13, none⟩ (.int .u32 (a5 : Nat))).setCell ⟨q, 14, none⟩ (.int .u32 (a6 : Nat))) B rb R tb q v l aa ac da dc (tw p t a0 a1 a2 a3 a4 a5 a6) := by
  have h0 := h.store 8 (.int .u32 (a0 : Nat)) (p' := tw p t a0 b1 b2 b3 b4 b5 b6) rfl rfl (h.odset 8 _)
  have h1 := h0.store 9 (.int .u32 (a1 : Nat)) (p' := tw p t a0 a1 b2 b3 b4 b5 b6) rfl rfl (h0.odset 9 _)
  have h2 := h1.store 10 (.int .u32 (a2 : Nat)) (p' := tw p t a0 a1 a2 b3 b4 b5 b6) rfl rfl (h1.odset 10 _)
  have h3 := h2.store 11 (.int .u32 (a3 : Nat)) (p' := tw p t a0 a1 a2 a3 b4 b5 b6) rfl rfl (h2.odset 11 _)
  have h4 := h3.store 12 (.int .u32 (a4 : Nat)) (p' := tw p t a0 a1 a2 a3 a4 b5 b6) rfl rfl (h3.odset 12 _)
  have h5 := h4.store 13 (.int .u32 (a5 : Nat)) (p' := tw p t a0 a1 a2 a3 a4 a5 b6) rfl rfl (h4.odset 13 _)
  have h6 := h5.store 14 (.int .u32 (a6 : Nat)) (p' := tw p t a0 a1 a2 a3 a4 a5 a6) rfl rfl (h5.odset 14 _)
  exact h6
end

set_option maxRecDepth 100000 in
set_option maxHeartbeats 2000000 in
theorem nxt_35 {w wx : World} {B rb R tb q q2 g n cap : Nat} {l : List Nat} {aa da : Option Addr} {ac dc : Nat} {p : PD} {h d : Bool} (t0 t1 t2 t3 t4 t5 t6 t7 : Nat) (hx : Px w wx B rb R tb q (.slice (some ⟨g, 0, none⟩) n cap) l aa ac da dc (tw p 0 0 0 0 0 0 0 0)) (hr : IsBlk wx q2 (nv .u32 [t0, t1, t2, t3, t4, t5, t6, t7]) 61) (hn : l.length = n) (hnc : n ≤ cap) (hcm : cap ≤ maxLen) (hlm : n ≤ 140737488355328) (hB : B ≤ w.heap.size) (at_ dn e : Nat) (hT : Told l h d at_ dn e (tw p t0 t1 t2 t3 t4 t5 t6 t7)) {u1 u3 u4 u5 u7 u9 u14 u16 u17 u18 u19 u20 u21 u22 u23 u24 u25 u26 u27 u28 u29 u30 u31 u32 u33 u34 u35 u36 u37 u38 u39 u40 u41 u42 u43 u44 u45 u46 u47 u48 u49 u50 u51 u52 u53 u54 u55 u56 u57 u58 u59 u60 u61 u62 u63 u64 u65 u66 u67 u68 u69 u70 u71 u72 u73 u74 u75 u76 u77 u78 u79 u80 u81 u82 u83 u84 u85 u86 u87 u88 u89 u90 u91 u92 u93 u94 u95 u96 u97 u98 u99 u100 u101 u102 u103 u104 u105 u106 u107 u108 u109 u110 u111 u112 u113 u114 u115 u116 u117 u118 u119 u120 u121 u122 u123 u124 u125 u126 u127 u128 u129 u130 u131 u132 u133 u134 u135 u136 u137 u138 u139 u140 u141 u142 u143 u144 u145 u146 u147 u148 u149 u150 u151 u152 u153 u154 u155 u156 u157 u158 u159 u160 u161 u162 u163 u164 u165 u166 u167 u168 u169 u170 u171 u172 u173 u174 u175 u176 u177 u178 u179 u180 u181 u182 u183 u184 u185 u186 u187 u188 u189 u190 u191 u192 u193 u194 u195 u196 u197 u198 u199 u200 u201 u202 u203 u204 u205 u206 u207 u208 u209 u210 u211 u212 u213 u214 u215 u216 u217 u218 u219 u220 u221 u222 u223 u224 u225 u226 u227 u228 u229 u230 u231 u232 u233 u234 u235 u236 u237 u238 u239 u240 u241 u242 u243 u244 : Value} :
    Code.wp Try.prog (restOf Try.f16 35) (bodyPost Try.prog Try.f16 (NextR w B rb l h d)) ⟨(.pointer (some ⟨rb, 0, none⟩) :: u1 :: .bool d :: u3 :: u4 :: u5 :: .pointer (some ⟨R, 0, none⟩) :: u7 :: .slice (some ⟨g, 0, none⟩) n cap :: u9 :: .int .i64 (dn : Nat) :: .int .i64 (at_ : Nat) :: .int .i64 (e : Nat) :: .pointer (some ⟨q, 0, none⟩) :: u14 :: .pointer (some ⟨q2, 0, none⟩) :: u16 :: u17 :: u18 :: u19 :: u20 :: u21 :: u22 :: u23 :: u24 :: u25 :: u26 :: u27 :: u28 :: u29 :: u30 :: u31 :: u32 :: u33 :: u34 :: u35 :: u36 :: u37 :: u38 :: u39 :: u40 :: u41 :: u42 :: u43 :: u44 :: u45 :: u46 :: u47 :: u48 :: u49 :: u50 :: u51 :: u52 :: u53 :: u54 :: u55 :: u56 :: u57 :: u58 :: u59 :: u60 :: u61 :: u62 :: u63 :: u64 :: u65 :: u66 :: u67 :: u68 :: u69 :: u70 :: u71 :: u72 :: u73 :: u74 :: u75 :: u76 :: u77 :: u78 :: u79 :: u80 :: u81 :: u82 :: u83 :: u84 :: u85 :: u86 :: u87 :: u88 :: u89 :: u90 :: u91 :: u92 :: u93 :: u94 :: u95 :: u96 :: u97 :: u98 :: u99 :: u100 :: u101 :: u102 :: u103 :: u104 :: u105 :: u106 :: u107 :: u108 :: u109 :: u110 :: u111 :: u112 :: u113 :: u114 :: u115 :: u116 :: u117 :: u118 :: u119 :: u120 :: u121 :: u122 :: u123 :: u124 :: u125 :: u126 :: u127 :: u128 :: u129 :: u130 :: u131 :: u132 :: u133 :: u134 :: u135 :: u136 :: u137 :: u138 :: u139 :: u140 :: u141 :: u142 :: u143 :: u144 :: u145 :: u146 :: u147 :: u148 :: u149 :: u150 :: u151 :: u152 :: u153 :: u154 :: u155 :: u156 :: u157 :: u158 :: u159 :: u160 :: u161 :: u162 :: u163 :: u164 :: u165 :: u166 :: u167 :: u168 :: u169 :: u170 :: u171 :: u172 :: u173 :: u174 :: u175 :: u176 :: u177 :: u178 :: u179 :: u180 :: u181 :: u182 :: u183 :: u184 :: u185 :: u186 :: u187 :: u188 :: u189 :: u190 :: u191 :: u192 :: u193 :: u194 :: u195 :: u196 :: u197 :: u198 :: u199 :: u200 :: u201 :: u202 :: u203 :: u204 :: u205 :: u206 :: u207 :: u208 :: u209 :: u210 :: u211 :: u212 :: u213 :: u214 :: u215 :: u216 :: u217 :: u218 :: u219 :: u220 :: u221 :: u222 :: u223 :: u224 :: u225 :: u226 :: u227 :: u228 :: u229 :: u230 :: u231 :: u232 :: u233 :: u234 :: u235 :: u236 :: u237 :: u238 :: u239 :: u240 :: u241 :: u242 :: u243 :: u244 :: []).toArray, []⟩ wx := by
  have hq2 : q2 ≠ q := blk_ne hr hx.blk (by decide)
  have hq2' : q ≠ q2 := fun e => hq2 e.symm
  have d0 := hr.cell 0 (v := .int .u32 (t0 : Nat)) rfl
  have d1 := hr.cell 1 (v := .int .u32 (t1 : Nat)) rfl
  have d2 := hr.cell 2 (v := .int .u32 (t2 : Nat)) rfl
  have d3 := hr.cell 3 (v := .int .u32 (t3 : Nat)) rfl
  have d4 := hr.cell 4 (v := .int .u32 (t4 : Nat)) rfl
  have d5 := hr.cell 5 (v := .int .u32 (t5 : Nat)) rfl
  have d6 := hr.cell 6 (v := .int .u32 (t6 : Nat)) rfl
  have d7 := hr.cell 7 (v := .int .u32 (t7 : Nat)) rfl
  have c7 := hx.blk.cell 7 (v := .int .u32 0) rfl
  have c8 := hx.blk.cell 8 (v := .int .u32 0) rfl
  have c9 := hx.blk.cell 9 (v := .int .u32 0) rfl
  have c10 := hx.blk.cell 10 (v := .int .u32 0) rfl
  have c11 := hx.blk.cell 11 (v := .int .u32 0) rfl
  have c12 := hx.blk.cell 12 (v := .int .u32 0) rfl
  have c13 := hx.blk.cell 13 (v := .int .u32 0) rfl
  have c14 := hx.blk.cell 14 (v := .int .u32 0) rfl
  have fz := hx.blk.fz
  have HX := Lib.hid (And.intro hx (And.intro hn hT))
  clear hx hn hT hr
  have sa := fun w => run_arrayAt (P := Try.prog) (t := 26) (n := 7) (len := 7) (cap := 7) (some ⟨q2, 1, none⟩) Try.underlying26 (by omega) w
  conv => arg 2; whnf
  refine wp_seq_k (fun K hK => ?_)
  have HK := Lib.hid hK
  clear hK
  go_region
  have HX1 := Lib.hid (((HX.out.1.tagSet (t := t0)).wordsSet (a0 := t1) (a1 := t2) (a2 := t3) (a3 := t4) (a4 := t5) (a5 := t6) (a6 := t7)).drewN 1)
  refine HK.out _ _ ?_
  refine wp_seq_k (fun K2 hK2 => ?_)
  have HK2 := Lib.hid hK2
  clear hK2
  go_wp2_with fail
  refine HK2.out _ _ ?_
  exact nxt_37 HX1.out HX.out.2.1 hnc hcm hlm hB at_ dn e HX.out.2.2

theorem cell_set_far {w : World} {b g i j : Nat} {v : Value} (h : b ≠ g) : (w.setCell ⟨g, i, none⟩ v).cell? ⟨b, j, none⟩ = w.cell? ⟨b, j, none⟩ :=
  World.cell?_of_block (w := w) (Below.heap_setCell w ⟨g, i, none⟩ v b h)
theorem cell_set_far' {w : World} {b g i j : Nat} {v : Value} (h : b ≠ g) : (w.setCell ⟨g, i, none⟩ v).drew.cell? ⟨b, j, none⟩ = w.cell? ⟨b, j, none⟩ :=
  World.cell?_of_block (w := w) (Below.heap_setCell w ⟨g, i, none⟩ v b h)
theorem or4 (c0 c1 c2 c3 : Nat) (h0 : c0 < 256) (h1 : c1 < 256) (h2 : c2 < 256) (h3 : c3 < 256) :
    bits .or .u32 (bits .or .u32 (bits .or .u32 (c0 * 16777216) (c1 * 65536)) (c2 * 256)) c3 = ((c0 * 16777216 + c1 * 65536 + c2 * 256 + c3 : Nat) : Int) := by
  rw [bits_join .u32 32 (by decide) wraps_u32 24 (c0 * 16777216 : Int) (c1 * 65536 : Int) (by omega) (by omega) (by omega) (by omega) (by omega) (by omega),
    bits_join .u32 32 (by decide) wraps_u32 16 _ (c2 * 256 : Int) (by omega) (by omega) (by omega) (by omega) (by omega) (by omega),
    bits_join .u32 32 (by decide) wraps_u32 8 _ (c3 : Int) (by omega) (by omega) (by omega) (by omega) (by omega) (by omega)]
  omega
theorem or4w (c0 c1 c2 c3 : Nat) (h0 : c0 < 256) (h1 : c1 < 256) (h2 : c2 < 256) (h3 : c3 < 256) :
    bits .or .u32 (bits .or .u32 (bits .or .u32 (IntKind.u32.wrap (IntKind.u32.wrap c0 * 16777216)) (IntKind.u32.wrap (IntKind.u32.wrap c1 * 65536))) (IntKind.u32.wrap (IntKind.u32.wrap c2 * 256))) (IntKind.u32.wrap c3) = ((c0 * 16777216 + c1 * 65536 + c2 * 256 + c3 : Nat) : Int) := by
  have e : ∀ n : Int, 0 ≤ n → n < 4294967296 → IntKind.u32.wrap n = n := fun n a b => by rw [IntKind.wrap_u32]; omega
  rw [e c0 (by omega) (by omega), e c1 (by omega) (by omega), e c2 (by omega) (by omega), e c3 (by omega) (by omega), e (c0 * 16777216) (by omega) (by omega), e (c1 * 65536) (by omega) (by omega), e (c2 * 256) (by omega) (by omega)]
  exact or4 c0 c1 c2 c3 h0 h1 h2 h3
theorem sub_four (l : List Nat) (o : Nat) (h : o + 4 ≤ l.length) : sub l o 4 = [l.getD o 0, l.getD (o + 1) 0, l.getD (o + 2) 0, l.getD (o + 3) 0] := by
  unfold sub
  apply List.ext_getElem?
  intro i
  rcases i with _ | _ | _ | _ | i
  · simp [List.getD, List.getElem?_drop, show o < l.length by omega]
  · simp [List.getD, List.getElem?_drop, show o + 1 < l.length by omega]
  · simp [List.getD, List.getElem?_drop, show o + 2 < l.length by omega]
  · simp [List.getD, List.getElem?_drop, show o + 3 < l.length by omega]
  · rw [List.getElem?_take, if_neg (by omega)]; simp
theorem numB_sub_four (l : List Nat) (o : Nat) (h : o + 4 ≤ l.length) : numB (sub l o 4) = l.getD o 0 * 16777216 + l.getD (o + 1) 0 * 65536 + l.getD (o + 2) 0 * 256 + l.getD (o + 3) 0 := by
  rw [sub_four l o h]; simp only [numB, List.foldl]; omega
/-- The words, k of them laid. -/
def wrow (l : List Nat) (k : Nat) : List Nat := (List.range 8).map fun i => if i < k then numB (sub l (16 + 4 * i) 4) else 0
theorem wrow_length (l : List Nat) (k : Nat) : (wrow l k).length = 8 := by simp [wrow]
theorem wrow_get (l : List Nat) (k i : Nat) (h : i < 8) : (wrow l k).getD i 0 = if i < k then numB (sub l (16 + 4 * i) 4) else 0 := by simp [wrow, List.getD, h]
theorem wrow_set (l : List Nat) (k : Nat) (h : k < 8) : (wrow l k).set k (numB (sub l (16 + 4 * k) 4)) = wrow l (k + 1) := by
  apply List.ext_getElem?; intro i
  rw [List.getElem?_set]
  by_cases hi : i < 8
  · by_cases he : k = i
    · subst he; simp [wrow, hi]
    · rw [if_neg he]
      simp [wrow, hi]
      have : (i < k + 1) ↔ (i < k) := by omega
      simp [this]
  · rw [List.getElem?_eq_none (by rw [wrow_length]; omega), if_neg (by omega), List.getElem?_eq_none (by rw [wrow_length]; omega)]
theorem wrow_all (l : List Nat) : wrow l 8 = [numB (sub l 16 4), numB (sub l (20 + 4 * 0) 4), numB (sub l (20 + 4 * 1) 4), numB (sub l (20 + 4 * 2) 4), numB (sub l (20 + 4 * 3) 4), numB (sub l (20 + 4 * 4) 4), numB (sub l (20 + 4 * 5) 4), numB (sub l (20 + 4 * 6) 4)] := by rfl
/-- The bytes that wait, cell by cell. -/
theorem Own.cells {w : World} {base g n cap : Nat} {l : List Nat} (h : Own w base (.slice (some ⟨g, 0, none⟩) n cap) l) (i : Nat) (hi : i < l.length) : w.cell? ⟨g, i, none⟩ = some (.int .u8 ((l.getD i 0 : Nat) : Int)) := by
  obtain ⟨a', cap', he, hb', -⟩ := h.form
  injection he with he1 he2 he3
  obtain ⟨b', o', he', hc'⟩ := hb'.2.resolve_left (by rintro rfl; simp at hi)
  rw [← he1] at he'
  injection he' with he'
  injection he' with e1 e2
  have := hc' i hi
  rw [← e1, ← e2, Nat.zero_add] at this
  exact this
theorem Own.lt256 {w : World} {base : Nat} {v : Value} {l : List Nat} (h : Own w base v l) (i : Nat) : l.getD i 0 < 256 := by
  by_cases hi : i < l.length
  · exact h.2 _ (by simp [List.getD, List.getElem?_eq_getElem hi])
  · simp [List.getD, List.getElem?_eq_none (show l.length ≤ i by omega)]
/-- A cell of another block, new since w, is stored. -/
theorem Px.other {w wx : World} {B rb R tb q : Nat} {v : Value} {l : List Nat} {aa da : Option Addr} {ac dc : Nat} {p : PD} (h : Px w wx B rb R tb q v l aa ac da dc p) {b : Nat} {cs : Array Value} (hb : IsBlk wx b cs 61) (hw : w.heap.size ≤ b) (o : Nat) (x : Value) : Px w (wx.setCell ⟨b, o, none⟩ x) B rb R tb q v l aa ac da dc p := by
  have hbt : But (fun k => k = b) wx (wx.setCell ⟨b, o, none⟩ x) := (But.refl (fun k => k = b) wx).setCell (p := ⟨b, o, none⟩) rfl x
  refine ⟨h.rd.but hbt (fun e => blk_ne h.rd.blk hb (by decide) e) (fun k hk e => h.rd.own.ne_blk hb (by decide) (by rw [hk, e])) (fun a ha e => ?_), hbt.blk h.res (fun e => blk_ne h.res hb (by decide) e), hbt.blk h.blk (fun e => blk_ne h.blk hb (by decide) e), h.ne, h.but.setQ hw o x, h.hR, h.hq, hbt.own h.ao (fun k hk e => h.ao.ne_blk hb (by decide) (by rw [hk, e])), hbt.own h.od (fun k hk e => h.od.ne_blk hb (by decide) (by rw [hk, e])), h.nv⟩
  obtain ⟨tb', rfl, ht⟩ := h.rd.tab a ha
  exact blk_ne ht hb (by decide) e

set_option maxRecDepth 100000 in
set_option maxHeartbeats 2000000 in
theorem nxt_30 {w wx : World} {B rb R tb q q2 g n cap : Nat} {l : List Nat} {aa da : Option Addr} {ac dc : Nat} {p : PD} {h d : Bool} (hx : Px w wx B rb R tb q (.slice (some ⟨g, 0, none⟩) n cap) l aa ac da dc (tw p 0 0 0 0 0 0 0 0)) (hr : IsBlk wx q2 (nv .u32 (wrow l 0)) 61) (hq2 : w.heap.size ≤ q2) (h48 : 48 ≤ n) (hn : l.length = n) (hnc : n ≤ cap) (hcm : cap ≤ maxLen) (hlm : n ≤ 140737488355328) (hB : B ≤ w.heap.size) (at_ dn e : Nat) (hT : Told l h d at_ dn e (tw p (numB (sub l 16 4)) (numB (sub l (20 + 4 * 0) 4)) (numB (sub l (20 + 4 * 1) 4)) (numB (sub l (20 + 4 * 2) 4)) (numB (sub l (20 + 4 * 3) 4)) (numB (sub l (20 + 4 * 4) 4)) (numB (sub l (20 + 4 * 5) 4)) (numB (sub l (20 + 4 * 6) 4)))) {u1 u3 u4 u5 u7 u9 u14 u16 u17 u18 u19 u20 u21 u22 u23 u24 u25 u26 u27 u28 u29 u30 u31 u32 u33 u34 u35 u36 u37 u38 u39 u40 u41 u42 u43 u44 u45 u46 u47 u48 u49 u50 u51 u52 u53 u54 u55 u56 u57 u58 u59 u60 u61 u62 u63 u64 u65 u66 u67 u68 u69 u70 u71 u72 u73 u74 u75 u76 u77 u78 u79 u80 u81 u82 u83 u84 u85 u86 u87 u88 u89 u90 u91 u92 u93 u94 u95 u96 u97 u98 u99 u100 u101 u102 u103 u104 u105 u106 u107 u108 u109 u110 u111 u112 u113 u114 u115 u116 u117 u118 u119 u120 u121 u122 u123 u124 u125 u126 u127 u128 u129 u130 u131 u132 u133 u134 u135 u136 u137 u138 u139 u140 u141 u142 u143 u144 u145 u146 u147 u148 u149 u150 u151 u152 u153 u154 u155 u156 u157 u158 u159 u160 u161 u162 u163 u164 u165 u166 u167 u168 u169 u170 u171 u172 u173 u174 u175 u176 u177 u178 u179 u180 u181 u182 u183 u184 u185 u186 u187 u188 u189 u190 u191 u192 u193 u194 u195 u196 u197 u198 u199 u200 u201 u202 u203 u204 u205 u206 u207 u208 u209 u210 u211 u212 u213 u214 u215 u216 u217 u218 u219 u220 u221 u222 u223 u224 u225 u226 u227 u228 u229 u230 u231 u232 u233 u234 u235 u236 u237 u238 u239 u240 u241 u242 u243 u244 : Value} :
    Code.wp Try.prog (restOf Try.f16 30) (bodyPost Try.prog Try.f16 (NextR w B rb l h d)) ⟨(.pointer (some ⟨rb, 0, none⟩) :: u1 :: .bool d :: u3 :: u4 :: u5 :: .pointer (some ⟨R, 0, none⟩) :: u7 :: .slice (some ⟨g, 0, none⟩) n cap :: u9 :: .int .i64 (dn : Nat) :: .int .i64 (at_ : Nat) :: .int .i64 (e : Nat) :: .pointer (some ⟨q, 0, none⟩) :: u14 :: .pointer (some ⟨q2, 0, none⟩) :: u16 :: u17 :: u18 :: u19 :: u20 :: u21 :: u22 :: u23 :: u24 :: u25 :: u26 :: u27 :: u28 :: u29 :: u30 :: u31 :: u32 :: u33 :: u34 :: u35 :: u36 :: u37 :: u38 :: u39 :: u40 :: u41 :: u42 :: u43 :: u44 :: u45 :: u46 :: u47 :: u48 :: u49 :: u50 :: u51 :: u52 :: u53 :: u54 :: u55 :: u56 :: u57 :: u58 :: u59 :: u60 :: u61 :: u62 :: u63 :: u64 :: u65 :: u66 :: u67 :: u68 :: u69 :: u70 :: u71 :: u72 :: u73 :: u74 :: u75 :: u76 :: u77 :: u78 :: u79 :: u80 :: u81 :: u82 :: u83 :: u84 :: u85 :: u86 :: u87 :: u88 :: u89 :: u90 :: u91 :: u92 :: u93 :: u94 :: u95 :: u96 :: u97 :: u98 :: u99 :: u100 :: u101 :: u102 :: u103 :: u104 :: u105 :: u106 :: u107 :: u108 :: u109 :: u110 :: u111 :: u112 :: u113 :: u114 :: u115 :: u116 :: u117 :: u118 :: u119 :: u120 :: u121 :: u122 :: u123 :: u124 :: u125 :: u126 :: u127 :: u128 :: u129 :: u130 :: u131 :: u132 :: u133 :: u134 :: u135 :: u136 :: u137 :: u138 :: u139 :: u140 :: u141 :: u142 :: u143 :: u144 :: u145 :: u146 :: u147 :: u148 :: u149 :: u150 :: u151 :: u152 :: u153 :: u154 :: u155 :: u156 :: u157 :: u158 :: u159 :: u160 :: u161 :: u162 :: u163 :: u164 :: u165 :: u166 :: u167 :: u168 :: u169 :: u170 :: u171 :: u172 :: u173 :: u174 :: u175 :: u176 :: u177 :: u178 :: u179 :: u180 :: u181 :: u182 :: u183 :: u184 :: u185 :: u186 :: u187 :: u188 :: u189 :: u190 :: u191 :: u192 :: u193 :: u194 :: u195 :: u196 :: u197 :: u198 :: u199 :: u200 :: u201 :: u202 :: u203 :: u204 :: u205 :: u206 :: u207 :: u208 :: u209 :: u210 :: u211 :: u212 :: u213 :: u214 :: u215 :: u216 :: u217 :: u218 :: u219 :: u220 :: u221 :: u222 :: u223 :: u224 :: u225 :: u226 :: u227 :: u228 :: u229 :: u230 :: u231 :: u232 :: u233 :: u234 :: u235 :: u236 :: u237 :: u238 :: u239 :: u240 :: u241 :: u242 :: u243 :: u244 :: []).toArray, []⟩ wx := by
  have HX := Lib.hid (And.intro hx (And.intro hr (And.intro hn (And.intro hT hq2))))
  clear hx hr hn hT hq2
  have hcm2 : cap ≤ 9223372036854775807 := by unfold maxLen at hcm; omega
  conv => arg 2; whnf
  refine wp_seq_k (fun K hK => ?_)
  have HK := Lib.hid hK
  clear hK
  go_wp2_with fail
  go_loopw [164] (fun i wr => ∃ k : Nat, k ≤ 8 ∧ i = .int .i64 k ∧ Px w wr B rb R tb q (.slice (some ⟨g, 0, none⟩) n cap) l aa ac da dc (tw p 0 0 0 0 0 0 0 0) ∧ IsBlk wr q2 (nv .u32 (wrow l k)) 61) (fun i _ => 8 - (intOf i).toNat)
  case atStart => exact ⟨0, by omega, rfl, HX.out.1, HX.out.2.1⟩
  case round =>
    obtain ⟨k, hk, rfl, hpx, hrow⟩ := hrel
    by_cases hlt : k < 8
    · 
     as_aux_lemma =>
      obtain ⟨q4, hq4⟩ : ∃ q4, q4 = 4 * k := ⟨_, rfl⟩
      obtain ⟨o0, ho0⟩ : ∃ o, o = 16 + 4 * k := ⟨_, rfl⟩
      obtain ⟨o1, ho1⟩ : ∃ o, o = o0 + 1 := ⟨_, rfl⟩
      obtain ⟨o2, ho2⟩ : ∃ o, o = o0 + 2 := ⟨_, rfl⟩
      obtain ⟨o3, ho3⟩ : ∃ o, o = o0 + 3 := ⟨_, rfl⟩
      have e0 := hpx.rd.own.cells o0 (by rw [HX.out.2.2.1]; omega)
      have e1 := hpx.rd.own.cells o1 (by rw [HX.out.2.2.1]; omega)
      have e2 := hpx.rd.own.cells o2 (by rw [HX.out.2.2.1]; omega)
      have e3 := hpx.rd.own.cells o3 (by rw [HX.out.2.2.1]; omega)
      have g0 := hpx.rd.own.lt256 o0
      have g1 := hpx.rd.own.lt256 o1
      have g2 := hpx.rd.own.lt256 o2
      have g3 := hpx.rd.own.lt256 o3
      have ev := or4w _ _ _ _ g0 g1 g2 g3
      have hwk : l.getD o0 0 * 16777216 + l.getD o1 0 * 65536 + l.getD o2 0 * 256 + l.getD o3 0 = numB (sub l (16 + 4 * k) 4) := by rw [← ho0, ho1, ho2, ho3, numB_sub_four l o0 (by rw [HX.out.2.2.1]; omega)]
      rw [hwk] at ev
      have w0 : IntKind.i64.wrap (4 * (k : Int)) = (q4 : Int) := by rw [IntWalk.i64_in _ (by omega)]; omega
      have w1 : IntKind.i64.wrap (16 + (q4 : Int)) = (o0 : Int) := by rw [IntWalk.i64_in _ (by omega)]; omega
      have w2 : IntKind.i64.wrap (17 + (q4 : Int)) = (o1 : Int) := by rw [IntWalk.i64_in _ (by omega)]; omega
      have w3 : IntKind.i64.wrap (18 + (q4 : Int)) = (o2 : Int) := by rw [IntWalk.i64_in _ (by omega)]; omega
      have w4 : IntKind.i64.wrap (19 + (q4 : Int)) = (o3 : Int) := by rw [IntWalk.i64_in _ (by omega)]; omega
      have b0 : (0 : Int) ≤ (o0 : Int) := by omega
      have b1 : (0 : Int) ≤ (o1 : Int) := by omega
      have b2 : (0 : Int) ≤ (o2 : Int) := by omega
      have b3 : (0 : Int) ≤ (o3 : Int) := by omega
      have b4 : (o0 : Int) < (n : Int) := by omega
      have b5 : (o1 : Int) < (n : Int) := by omega
      have b6 : (o2 : Int) < (n : Int) := by omega
      have b7 : (o3 : Int) < (n : Int) := by omega
      have c0 : (0 : Int) ≤ (k : Int) := by omega
      have c1 : (k : Int) < 8 := by omega
      have hne : g ≠ q2 := fun e => hpx.rd.own.ne_blk hrow (by decide) (by rw [e]; rfl)
      have hg := hrow.cell k (show (nv .u32 (wrow l k))[k]? = some (.int .u32 0) by rw [nv_get _ _ _ (by rw [wrow_length]; omega), wrow_get _ _ _ (by omega)]; simp)
      have hfz := hrow.fz k
      have hs : (nv .u32 (wrow l k)).setIfInBounds k (.int .u32 ((numB (sub l (16 + 4 * k) 4) : Nat) : Int)) = nv .u32 (wrow l (k + 1)) := by rw [nv_set, wrow_set _ _ (by omega)]
      have HE := Lib.hid (And.intro hpx (And.intro hrow hs))
      clear hwk hpx hrow hs ho0 ho1 ho2 ho3 hq4
      obtain ⟨y, hy⟩ : ∃ y, y = numB (sub l (16 + 4 * k) 4) := ⟨_, rfl⟩
      rw [← hy] at ev HE
      have HY := Lib.hid hy
      clear hy
      generalize l.getD o0 0 = x0 at *
      generalize l.getD o1 0 = x1 at *
      generalize l.getD o2 0 = x2 at *
      generalize l.getD o3 0 = x3 at *
      go_wp2_with fail
      go_region_held3 (fun w' => w'.cell? ⟨g, o0, none⟩ = some (.int .u8 x0) ∧ w'.cell? ⟨g, o1, none⟩ = some (.int .u8 x1) ∧ w'.cell? ⟨g, o2, none⟩ = some (.int .u8 x2) ∧ w'.cell? ⟨g, o3, none⟩ = some (.int .u8 x3)) (first | (go_keep; done) | (refine ⟨?_, ?_, ?_, ?_⟩ <;> (rw [cell_set_far' hne]; assumption))) (fail)
      go_wp2_with fail
      go_roundw
      case rel =>
        have h1 := HE.out.2.1.drew.set k (.int .u32 ((y : Nat) : Int))
        rw [HE.out.2.2] at h1
        exact ⟨k + 1, by omega, by go_num, (HE.out.1.drewN 1).other HE.out.2.1.drew HX.out.2.2.2.2 k _, h1⟩
      case measure => simp [intOf]; omega
    · have hk8 : k = 8 := by omega
      rw [hk8, wrow_all] at hrow
      have HR := Lib.hid (And.intro hpx hrow)
      clear hpx hrow hk8
      go_wp2_with fail
      refine HK.out _ _ ?_
      exact nxt_35 _ _ _ _ _ _ _ _ HR.out.1 HR.out.2 HX.out.2.2.1 hnc hcm hlm hB at_ dn e HX.out.2.2.2.1
end Go.Proofs.Ytaehaclmagnncaa
