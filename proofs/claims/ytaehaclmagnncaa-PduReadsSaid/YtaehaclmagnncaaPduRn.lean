-- slots 178
/-
  pdu: the reference's reader, its Next from the end.
-/
import Derived.Test.YtaehaclmagnncaaPduTo
import Derived.Test.YtaehaclmagnncaaPduRef
namespace Go.Proofs.Ytaehaclmagnncaa
set_option linter.unusedVariables false
set_option linter.unusedSimpArgs false
open Go.RowKit
attribute [local go_sem ↓] Go.wp_at_zero Go.wp_at_succ

/-- The reference's reader: its bytes, whether it is broken. -/
structure IsRr (w : World) (B rb : Nat) (v : Value) (l : List Nat) (br : Bool) : Prop where
  blk : IsBlk w rb #[v, .bool br] 40
  own : Own w B v l
  hB : B ≤ rb
section
variable {w w' : World} {B rb : Nat} {v : Value} {l : List Nat} {br : Bool}
theorem IsRr.but {S : Nat → Prop} (h : IsRr w B rb v l br) (hb : But S w w') (h1 : ¬ S rb) (h2 : ∀ k, v.ownBlock = some k → ¬ S k) : IsRr w' B rb v l br := ⟨hb.blk h.blk h1, hb.own h.own h2, h.hB⟩
theorem IsRr.below (h : IsRr w B rb v l br) (hb : Below w.heap.size w w') : IsRr w' B rb v l br :=
  h.but (S := fun _ => False) (But.of_below hb (Nat.le_refl _)) (fun h => h) (fun _ _ h => h)
theorem IsRr.drewN (h : IsRr w B rb v l br) (n : Nat) : IsRr (w.drewN n) B rb v l br := ⟨h.blk.drewN n, h.own, h.hB⟩
theorem IsRr.ne (h : IsRr w B rb v l br) : v.ownBlock ≠ some rb := h.own.ne_blk h.blk (by decide)
theorem IsRr.setRow (h : IsRr w B rb v l br) {g : Nat} {cs0 : Array Value} (hg : IsBlk w g cs0 28) (cs : Array Value) : IsRr (w.setRow g cs) B rb v l br := by
  have hb : But (fun k => k = g) w (w.setRow g cs) := ⟨rfl, rfl, rfl, by simp [World.setRow], fun k _ hn => Go.setRow_other w g k cs hn⟩
  exact h.but hb (fun e => blk_ne h.blk hg (by decide) e) (fun k hk e => h.own.ne_blk hg (by decide) (by rw [hk, e]))
end
/-- What it leaves. -/
def NextRr (w : World) (B rb : Nat) (l : List Nat) (h d : Bool) (e : Ending) (w' : World) : Prop :=
  ∃ cs v', e = .returned (.tuple #[.agg cs, .int .i64 ((findP l h d).code : Nat)]) ∧ IsPdv w' cs (pduP l h d) ∧ IsRr w' B rb v' (restP l h d) (findP l h d == .broken) ∧ But (fun k => k = rb) w w' ∧ NV w rb v'
/-- The PDU is being filled. -/
structure Py (w wx : World) (B rb R q : Nat) (v : Value) (l : List Nat) (aa : Option Addr) (ac : Nat) (da : Option Addr) (dc : Nat) (p : PD) : Prop where
  rd : IsRr wx B rb v l false
  res : IsBlk wx R pdZ 28
  blk : IsBlk wx q (pdC p aa ac da dc) 28
  ne : q ≠ R
  but : But (fun k => k = rb) w wx
  hR : w.heap.size ≤ R
  hq : w.heap.size ≤ q
  ao : Own wx w.heap.size (.slice aa p.ahs.length ac) p.ahs
  od : Own wx w.heap.size (.slice da p.data.length dc) p.data
  nv : NV w rb v
section
variable {w wx wy : World} {B rb R q : Nat} {v : Value} {l : List Nat} {aa da : Option Addr} {ac dc : Nat} {p : PD}
theorem Py.below (h : Py w wx B rb R q v l aa ac da dc p) (hb : Below wx.heap.size wx wy) : Py w wy B rb R q v l aa ac da dc p :=
  ⟨h.rd.below hb, h.res.below hb h.res.lt, h.blk.below hb h.blk.lt, h.ne, h.but.trans (But.of_below hb (Nat.le_refl _)), h.hR, h.hq, h.ao.below hb, h.od.below hb, h.nv⟩
theorem Py.drewN (h : Py w wx B rb R q v l aa ac da dc p) (k : Nat) : Py w (wx.drewN k) B rb R q v l aa ac da dc p :=
  ⟨h.rd.drewN k, h.res.drewN k, h.blk.drewN k, h.ne, h.but.drewN k, h.hR, h.hq, h.ao, h.od, h.nv⟩
theorem Py.store (h : Py w wx B rb R q v l aa ac da dc p) (o : Nat) (x : Value) {p' : PD} {aa' : Option Addr} {ac' : Nat} {da' : Option Addr} {dc' : Nat} (hp : (pdC p aa ac da dc).setIfInBounds o x = pdC p' aa' ac' da' dc')
    (ha : Own (wx.setCell ⟨q, o, none⟩ x) w.heap.size (.slice aa' p'.ahs.length ac') p'.ahs) (hd : Own (wx.setCell ⟨q, o, none⟩ x) w.heap.size (.slice da' p'.data.length dc') p'.data) : Py w (wx.setCell ⟨q, o, none⟩ x) B rb R q v l aa' ac' da' dc' p' := by
  have hb : But (fun k => k = q) wx (wx.setCell ⟨q, o, none⟩ x) := (But.refl (fun k => k = q) wx).setCell (p := ⟨q, o, none⟩) rfl x
  exact ⟨h.rd.but hb (fun e => blk_ne h.rd.blk h.blk (by decide) e) (fun k hk e => h.rd.own.ne_blk h.blk (by decide) (by rw [hk, e])), hb.blk h.res (fun e => h.ne e.symm), hp ▸ h.blk.set o x, h.ne, h.but.setQ h.hq o x, h.hR, h.hq, ha, hd, h.nv⟩
theorem Py.keep (h : Py w wx B rb R q v l aa ac da dc p) {u : Value} {m : List Nat} (ho : Own wx w.heap.size u m) (o : Nat) (x : Value) : Own (wx.setCell ⟨q, o, none⟩ x) w.heap.size u m := by
  have hb : But (fun k => k = q) wx (wx.setCell ⟨q, o, none⟩ x) := (But.refl (fun k => k = q) wx).setCell (p := ⟨q, o, none⟩) rfl x
  exact hb.own ho (fun k hk e => ho.ne_blk h.blk (by decide) (by rw [hk, e]))
theorem Py.rest {v' : Value} {m : List Nat} (h : Py w wx B rb R q v l aa ac da dc p) (ho : Own wx w.heap.size v' m) (hB : B ≤ w.heap.size) : Py w (wx.setCell ⟨rb, 0, none⟩ v') B rb R q v' m aa ac da dc p := by
  have hb : But (fun k => k = rb) wx (wx.setCell ⟨rb, 0, none⟩ v') := (But.refl (fun k => k = rb) wx).setCell (p := ⟨rb, 0, none⟩) rfl v'
  exact ⟨⟨h.rd.blk.set 0 v', (hb.own ho (fun k hk e => ho.ne_blk h.rd.blk (by decide) (by rw [hk, e]))).mono hB, h.rd.hB⟩, hb.blk h.res (fun e => blk_ne h.res h.rd.blk (by decide) e), hb.blk h.blk (fun e => blk_ne h.blk h.rd.blk (by decide) e), h.ne, h.but.trans hb, h.hR, h.hq, hb.own h.ao (fun k hk e => h.ao.ne_blk h.rd.blk (by decide) (by rw [hk, e])), hb.own h.od (fun k hk e => h.od.ne_blk h.rd.blk (by decide) (by rw [hk, e])), fun k hk => .inl (ho.base_le k hk)⟩
theorem Py.done {m : List Nat} {hh d : Bool} {f : Fd} (h : Py w wx B rb R q v m aa ac da dc p) (hf : findP l hh d = f) (hp : pduP l hh d = p) (hm : restP l hh d = m) (hb : f ≠ .broken) :
    NextRr w B rb l hh d (.returned (.tuple #[.agg (pdC p aa ac da dc), .int .i64 (f.code : Nat)])) (wx.setRow R (pdC p aa ac da dc)) := by
  have hbt : But (fun k => k = R) wx (wx.setRow R (pdC p aa ac da dc)) := ⟨rfl, rfl, rfl, by simp [World.setRow], fun k _ hn => Go.setRow_other wx R k _ hn⟩
  have hbf : (f == Fd.broken) = false := by cases f <;> first | rfl | exact absurd rfl hb
  have ha := hbt.own h.ao (fun k hk e => h.ao.ne_blk h.res (by decide) (by rw [hk, e]))
  have hd := hbt.own h.od (fun k hk e => h.od.ne_blk h.res (by decide) (by rw [hk, e]))
  refine ⟨pdC p aa ac da dc, v, by rw [hf], ?_, ?_, h.but.setRow h.hR _, h.nv⟩
  · rw [hp]
    obtain ⟨a1, c1, e1, k1, -⟩ := ha.form
    obtain ⟨a2, c2, e2, k2, -⟩ := hd.form
    injection e1 with e11 e12 e13
    injection e2 with e21 e22 e23
    exact ⟨aa, ac, da, dc, rfl, e11 ▸ k1, e21 ▸ k2, ha.capz, hd.capz⟩
  · rw [hm, hf, hbf]
    exact h.rd.setRow h.res _
end

set_option maxRecDepth 100000 in
set_option maxHeartbeats 1000000 in
theorem rxt_34 {w wx : World} {B rb R q : Nat} {v : Value} {l m : List Nat} {aa da : Option Addr} {ac dc : Nat} {p : PD} {h d : Bool} (hx : Py w wx B rb R q v m aa ac da dc p) (hf : findP l h d = .whole) (hp : pduP l h d = p) (hm : restP l h d = m) {u0 u1 u2 u3 u4 u5 u7 u8 u9 u10 u11 u12 u14 u15 u16 u17 u18 u19 u20 u21 u22 u23 u24 u25 u26 u27 u28 u29 u30 u31 u32 u33 u34 u35 u36 u37 u38 u39 u40 u41 u42 u43 u44 u45 u46 u47 u48 u49 u50 u51 u52 u53 u54 u55 u56 u57 u58 u59 u60 u61 u62 u63 u64 u65 u66 u67 u68 u69 u70 u71 u72 u73 u74 u75 u76 u77 u78 u79 u80 u81 u82 u83 u84 u85 u86 u87 u88 u89 u90 u91 u92 u93 u94 u95 u96 u97 u98 u99 u100 u101 u102 u103 u104 u105 u106 u107 u108 u109 u110 u111 u112 u113 u114 u115 u116 u117 u118 u119 u120 u121 u122 u123 u124 u125 u126 u127 u128 u129 u130 u131 u132 u133 u134 u135 u136 u137 u138 u139 u140 u141 u142 u143 u144 u145 u146 u147 u148 u149 u150 u151 u152 u153 u154 u155 u156 u157 u158 u159 u160 u161 u162 u163 u164 u165 u166 u167 u168 u169 u170 u171 u172 u173 u174 u175 u176 u177 : Value} :
    Code.wp Try.prog (restOf Try.f17 34) (bodyPost Try.prog Try.f17 (NextRr w B rb l h d)) ⟨(u0 :: u1 :: u2 :: u3 :: u4 :: u5 :: .pointer (some ⟨R, 0, none⟩) :: u7 :: u8 :: u9 :: u10 :: u11 :: u12 :: .pointer (some ⟨q, 0, none⟩) :: u14 :: u15 :: u16 :: u17 :: u18 :: u19 :: u20 :: u21 :: u22 :: u23 :: u24 :: u25 :: u26 :: u27 :: u28 :: u29 :: u30 :: u31 :: u32 :: u33 :: u34 :: u35 :: u36 :: u37 :: u38 :: u39 :: u40 :: u41 :: u42 :: u43 :: u44 :: u45 :: u46 :: u47 :: u48 :: u49 :: u50 :: u51 :: u52 :: u53 :: u54 :: u55 :: u56 :: u57 :: u58 :: u59 :: u60 :: u61 :: u62 :: u63 :: u64 :: u65 :: u66 :: u67 :: u68 :: u69 :: u70 :: u71 :: u72 :: u73 :: u74 :: u75 :: u76 :: u77 :: u78 :: u79 :: u80 :: u81 :: u82 :: u83 :: u84 :: u85 :: u86 :: u87 :: u88 :: u89 :: u90 :: u91 :: u92 :: u93 :: u94 :: u95 :: u96 :: u97 :: u98 :: u99 :: u100 :: u101 :: u102 :: u103 :: u104 :: u105 :: u106 :: u107 :: u108 :: u109 :: u110 :: u111 :: u112 :: u113 :: u114 :: u115 :: u116 :: u117 :: u118 :: u119 :: u120 :: u121 :: u122 :: u123 :: u124 :: u125 :: u126 :: u127 :: u128 :: u129 :: u130 :: u131 :: u132 :: u133 :: u134 :: u135 :: u136 :: u137 :: u138 :: u139 :: u140 :: u141 :: u142 :: u143 :: u144 :: u145 :: u146 :: u147 :: u148 :: u149 :: u150 :: u151 :: u152 :: u153 :: u154 :: u155 :: u156 :: u157 :: u158 :: u159 :: u160 :: u161 :: u162 :: u163 :: u164 :: u165 :: u166 :: u167 :: u168 :: u169 :: u170 :: u171 :: u172 :: u173 :: u174 :: u175 :: u176 :: u177 :: []).toArray, []⟩ wx := by
  have HX := Lib.hid (And.intro hx (And.intro hf (And.intro hp hm)))
  clear hx hf hp hm
  conv => arg 2; whnf
  go_wp2_with (first
    | (refine wpList_load_row (by rfl) 28 (.tmp 13) (by rfl) q (by rfl) 28 (pdC p aa ac da dc) (0, 0) _ (by exact HX.out.1.blk) Try.underlying28 rfl (by kernel_rfl) ?_)
    | (refine wpList_store_row (by rfl) 28 (.tmp 6) (.tmp 177) (by rfl) R (pdC p aa ac da dc) (by rfl) (by rfl) 28 pdZ (by exact HX.out.1.res) (by kernel_rfl) (by rfl) (pdC_one p aa ac da dc) ?_))
  refine bodyPost_ret (v := .tuple #[.agg (pdC p aa ac da dc), .int .i64 1]) (results_cell_tmp Try.results17 _ _ R 28 (pdC p aa ac da dc) _ (by rfl) (isBlk_setRow HX.out.1.res _) _ (by rfl) Try.underlying28 rfl (by kernel_rfl)) rfl ?_
  exact HX.out.1.done HX.out.2.1 HX.out.2.2.1 HX.out.2.2.2 (by decide)


set_option maxRecDepth 100000 in
set_option maxHeartbeats 2000000 in
theorem rxt_33n {w wx : World} {B rb R q g n cap at_ dn : Nat} {v : Value} {l m : List Nat} {aa : Option Addr} {ac : Nat} {p : PD} {h d : Bool} (hx : Py w wx B rb R q v m aa ac none 0 p) (hby : IsBytes wx (cutA (some ⟨g, 0, none⟩) cap at_) (sub l at_ dn)) (hml : (sub l at_ dn).length = dn) (hat : at_ + dn ≤ cap) (hlm : cap ≤ 9223372036854775807) (hdn : dn ≤ 256) (hcond : ¬ cap = at_) (hd : p.data = []) (hf : findP l h d = .whole) (hp : pduP l h d = { p with data := sub l at_ dn }) (hm : restP l h d = m) {u0 u1 u2 u3 u4 u5 u7 u10 u12 u14 u15 u16 u17 u18 u19 u20 u21 u22 u23 u24 u25 u26 u27 u28 u29 u30 u31 u32 u33 u34 u35 u36 u37 u38 u39 u40 u41 u42 u43 u44 u45 u46 u47 u48 u49 u50 u51 u52 u53 u54 u55 u56 u57 u58 u59 u60 u61 u62 u63 u64 u65 u66 u67 u68 u69 u70 u71 u72 u73 u74 u75 u76 u77 u78 u79 u80 u81 u82 u83 u84 u85 u86 u87 u88 u89 u90 u91 u92 u93 u94 u95 u96 u97 u98 u99 u100 u101 u102 u103 u104 u105 u106 u107 u108 u109 u110 u111 u112 u113 u114 u115 u116 u117 u118 u119 u120 u121 u122 u123 u124 u125 u126 u127 u128 u129 u130 u131 u132 u133 u134 u135 u136 u137 u138 u139 u140 u141 u142 u143 u144 u145 u146 u147 u148 u149 u150 u151 u152 u153 u154 u155 u156 u157 u158 u159 u160 u161 u162 u163 u164 u165 u166 u167 u168 u169 u170 u171 u172 u173 u174 u175 u176 u177 : Value} :
    Code.wp Try.prog (restOf Try.f17 33) (bodyPost Try.prog Try.f17 (NextRr w B rb l h d)) ⟨(u0 :: u1 :: u2 :: u3 :: u4 :: u5 :: .pointer (some ⟨R, 0, none⟩) :: u7 :: .slice (some ⟨g, 0, none⟩) n cap :: .int .i64 (dn : Nat) :: u10 :: .int .i64 (at_ : Nat) :: u12 :: .pointer (some ⟨q, 0, none⟩) :: u14 :: u15 :: u16 :: u17 :: u18 :: u19 :: u20 :: u21 :: u22 :: u23 :: u24 :: u25 :: u26 :: u27 :: u28 :: u29 :: u30 :: u31 :: u32 :: u33 :: u34 :: u35 :: u36 :: u37 :: u38 :: u39 :: u40 :: u41 :: u42 :: u43 :: u44 :: u45 :: u46 :: u47 :: u48 :: u49 :: u50 :: u51 :: u52 :: u53 :: u54 :: u55 :: u56 :: u57 :: u58 :: u59 :: u60 :: u61 :: u62 :: u63 :: u64 :: u65 :: u66 :: u67 :: u68 :: u69 :: u70 :: u71 :: u72 :: u73 :: u74 :: u75 :: u76 :: u77 :: u78 :: u79 :: u80 :: u81 :: u82 :: u83 :: u84 :: u85 :: u86 :: u87 :: u88 :: u89 :: u90 :: u91 :: u92 :: u93 :: u94 :: u95 :: u96 :: u97 :: u98 :: u99 :: u100 :: u101 :: u102 :: u103 :: u104 :: u105 :: u106 :: u107 :: u108 :: u109 :: u110 :: u111 :: u112 :: u113 :: u114 :: u115 :: u116 :: u117 :: u118 :: u119 :: u120 :: u121 :: u122 :: u123 :: u124 :: u125 :: u126 :: u127 :: u128 :: u129 :: u130 :: u131 :: u132 :: u133 :: u134 :: u135 :: u136 :: u137 :: u138 :: u139 :: u140 :: u141 :: u142 :: u143 :: u144 :: u145 :: u146 :: u147 :: u148 :: u149 :: u150 :: u151 :: u152 :: u153 :: u154 :: u155 :: u156 :: u157 :: u158 :: u159 :: u160 :: u161 :: u162 :: u163 :: u164 :: u165 :: u166 :: u167 :: u168 :: u169 :: u170 :: u171 :: u172 :: u173 :: u174 :: u175 :: u176 :: u177 :: []).toArray, []⟩ wx := by
  have hcn : (some ⟨g, at_, none⟩ : Option Addr) = none → cap - at_ = 0 := fun h => by cases h
  have hby : IsBytes wx (some ⟨g, at_, none⟩ : Option Addr) (sub l at_ dn) := by
    unfold cutA at hby
    rw [if_neg hcond] at hby
    simp only [Option.map_some, Go.WideShapes.add_plain, Nat.zero_add] at hby
    exact hby
  obtain ⟨a1, ha1⟩ : ∃ a1 : Nat, a1 = at_ + dn := ⟨_, rfl⟩
  have zw : IntKind.i64.wrap ((at_ : Int) + (dn : Int)) = (a1 : Int) := by rw [IntWalk.i64_in _ (by omega)]; omega
  have z1 : (0 : Int) ≤ (a1 : Int) := by omega
  have z2 : (a1 : Int) ≤ (cap : Int) := by omega
  have z3 : (at_ : Int) ≤ (a1 : Int) := by omega
  have z4 : a1 - at_ = dn := by omega
  have z5 : a1 ≤ cap := by omega
  have z6 : at_ ≤ a1 := by omega
  have z7 : (0 : Int) ≤ (at_ : Int) := by omega
  have c15 := hx.blk.cell 15 (v := .slice none p.data.length 0) rfl
  rw [hd] at c15
  have c15 : wx.drew.cell? ⟨q, 15, none⟩ = some (.slice none 0 0) := c15
  have HX := Lib.hid (And.intro hx (And.intro hf (And.intro hp (And.intro hm (And.intro hby (And.intro hml hd))))))
  have HC := Lib.hid (And.intro hcond ha1)
  have HZ := HC
  clear hx hf hp hm hby hml hd ha1 hat
  conv => arg 2; whnf
  refine wp_seq_k (fun K hK => ?_)
  have HK := Lib.hid hK
  clear hK
  refine wp_region_held_drew (S := fun w' => True) (by kernel_rfl) trivial (fun hHeld => ?_)
  refine wpAnyH_take (i := 0) (v := ?_) rfl (by kernel_rfl) (by kernel_rfl) (by kernel_rfl) (fun _ _ _ h => h) (Or.inl ⟨by rfl, ?_⟩) (by with_reducible assumption) ?_
  rotate_left
  · intro w hSw; (try dsimp only at hSw); (try go_split_ands); go_simp; (try with_reducible rfl)
  (try simp only [Act.put, List.getElem_toArray, List.getElem_cons_succ, List.getElem_cons_zero, List.setIfInBounds_toArray, List.set_cons_zero, List.set_cons_succ])
  refine wpAnyH_take (i := 2) (v := ?_) rfl (by kernel_rfl) (by kernel_rfl) (by kernel_rfl) (fun _ _ _ h => h) (Or.inl ⟨by rfl, ?_⟩) (by with_reducible assumption) ?_
  rotate_left
  · intro w hSw; (try dsimp only at hSw); (try go_split_ands); go_simp; (try with_reducible rfl)
  (try simp only [Act.put, List.getElem_toArray, List.getElem_cons_succ, List.getElem_cons_zero, List.setIfInBounds_toArray, List.set_cons_zero, List.set_cons_succ])
  refine wpAnyH_take (i := 3) (v := ?_) rfl (by kernel_rfl) (by kernel_rfl) (by kernel_rfl) (fun _ _ _ h => h) (Or.inl ⟨by rfl, ?_⟩) (by with_reducible assumption) ?_
  rotate_left
  · intro w hSw; (try dsimp only at hSw); (try go_split_ands); go_simp; (try with_reducible rfl)
  (try simp only [Act.put, List.getElem_toArray, List.getElem_cons_succ, List.getElem_cons_zero, List.setIfInBounds_toArray, List.set_cons_zero, List.set_cons_succ])
  refine wpAnyH_take (i := 4) (v := ?_) rfl (by kernel_rfl) (by kernel_rfl) (by kernel_rfl) (fun _ _ _ h => h) (Or.inl ⟨by rfl, ?_⟩) (by with_reducible assumption) ?_
  rotate_left
  · intro w hSw; (try dsimp only at hSw); (try go_split_ands); go_simp; (try with_reducible rfl)
  (try simp only [Act.put, List.getElem_toArray, List.getElem_cons_succ, List.getElem_cons_zero, List.setIfInBounds_toArray, List.set_cons_zero, List.set_cons_succ])
  refine wpAnyH_take (i := 5) (v := ?_) rfl (by kernel_rfl) (by kernel_rfl) (by kernel_rfl) (fun _ _ _ h => h) (Or.inl ⟨by rfl, ?_⟩) (by with_reducible assumption) ?_
  rotate_left
  · intro w hSw; (try dsimp only at hSw); (try go_split_ands); go_simp; (try with_reducible rfl)
  (try simp only [Act.put, List.getElem_toArray, List.getElem_cons_succ, List.getElem_cons_zero, List.setIfInBounds_toArray, List.set_cons_zero, List.set_cons_succ])
  refine wpAnyH_take (i := 6) (v := ?_) rfl (by kernel_rfl) (by kernel_rfl) (by kernel_rfl) (fun _ _ _ h => h) (Or.inl ⟨by rfl, ?_⟩) (by with_reducible assumption) ?_
  rotate_left
  · intro w hSw; (try dsimp only at hSw); (try go_split_ands); go_simp; (try with_reducible rfl)
  (try simp only [Act.put, List.getElem_toArray, List.getElem_cons_succ, List.getElem_cons_zero, List.setIfInBounds_toArray, List.set_cons_zero, List.set_cons_succ])
  refine wpAnyH_take (i := 7) (v := ?_) rfl (by kernel_rfl) (by kernel_rfl) (by kernel_rfl) (fun _ _ _ h => h) (Or.inl ⟨by rfl, ?_⟩) (by with_reducible assumption) ?_
  rotate_left
  · intro w hSw; (try dsimp only at hSw); (try go_split_ands); go_simp; (try with_reducible rfl)
  (try simp only [Act.put, List.getElem_toArray, List.getElem_cons_succ, List.getElem_cons_zero, List.setIfInBounds_toArray, List.set_cons_zero, List.set_cons_succ])
  refine wpAnyH_ready (rs := [1]) (by kernel_rfl) (by simp) ?_
  refine AllReadyH.cons rfl (fun K2 hK2 => ?_) AllReadyH.nil
  go_simp
  refine hK2.out _ _ trivial (fun hHeld => ?_)
  clear hK2 K2 c15
  (try simp only [Act.put, List.getElem_toArray, List.getElem_cons_succ, List.getElem_cons_zero, List.setIfInBounds_toArray, List.set_cons_zero, List.set_cons_succ])
  refine wpAnyH_ready (rs := [8]) (by kernel_rfl) (by simp) ?_
  refine AllReadyH.cons rfl (fun K2 hK2 => ?_) AllReadyH.nil
  refine step_app' (by rfl) (.tmp 168) (.tmp 174) (by rfl) wx.heap.size (.slice none 0 0) [] (by rfl) (Own.nil _ _) (some ⟨g, at_, none⟩ : Option Addr) dn (cap - at_) (sub l at_ dn) (by rfl) HX.out.2.2.2.2.2.1.symm HX.out.2.2.2.2.1 hcn (by rw [HX.out.2.2.2.2.2.1]; show 0 + dn ≤ _; omega) (Nat.le_refl _) ?_
  intro v' w1 ho1 hb1 hg1
  have HBn : Hid (Below wx.heap.size wx w1) := Lib.hid ((Below.refl _ _).drew.trans hb1)
  have HO := Lib.hid (ho1.mono HX.out.1.but.size)
  obtain ⟨va, vn, vc, rfl, hvn⟩ := ho1.slice
  have hvn2 : vn = (sub l at_ dn).length := hvn.out
  clear ho1 hb1 hg1 hvn
  subst hvn2
  refine hK2.out _ _ trivial (fun hHeld => ?_)
  clear hK2 K2
  (try simp only [Act.put, List.getElem_toArray, List.getElem_cons_succ, List.getElem_cons_zero, List.setIfInBounds_toArray, List.set_cons_zero, List.set_cons_succ])
  refine wpAnyH_take (i := 9) (v := ?_) rfl (by kernel_rfl) (by kernel_rfl) (by kernel_rfl) (fun _ _ _ h => h) (Or.inl ⟨by rfl, ?_⟩) (by with_reducible assumption) ?_
  rotate_left
  · intro w hSw; (try dsimp only at hSw); (try go_split_ands); go_simp; (try with_reducible rfl)
  (try simp only [Act.put, List.getElem_toArray, List.getElem_cons_succ, List.getElem_cons_zero, List.setIfInBounds_toArray, List.set_cons_zero, List.set_cons_succ])
  have c15 : w1.cell? ⟨q, 15, none⟩ = some (.slice none p.data.length 0) := (HX.out.1.below HBn.out).blk.cell 15 rfl
  have fz : w1.frozen? ⟨q, 15, none⟩ = false := (HX.out.1.below HBn.out).blk.fz 15
  refine wpAnyH_ready (rs := [10]) (by kernel_rfl) (by simp) ?_
  refine AllReadyH.cons rfl (fun K2 hK2 => ?_) AllReadyH.nil
  go_simp
  refine hK2.out _ _ trivial (fun hHeld => ?_)
  clear hK2 K2 hHeld c15 fz
  (try simp only [Act.put, List.getElem_toArray, List.getElem_cons_succ, List.getElem_cons_zero, List.setIfInBounds_toArray, List.set_cons_zero, List.set_cons_succ])
  refine wpAnyH_done (by kernel_rfl) ?_ _
  refine HK.out _ _ ?_
  have hx1 := HX.out.1.below HBn.out
  have hx2 := hx1.store 15 (.slice va (sub l at_ dn).length vc) (p' := { p with data := sub l at_ dn }) (aa' := aa) (ac' := ac) (da' := va) (dc' := vc) rfl (hx1.keep hx1.ao 15 _) (hx1.keep HO.out 15 _)
  exact rxt_34 hx2 HX.out.2.1 HX.out.2.2.1 HX.out.2.2.2.1

set_option maxRecDepth 100000 in
set_option maxHeartbeats 2000000 in
theorem rxt_33p {w wx : World} {B rb R q g n cap at_ dn : Nat} {v : Value} {l m : List Nat} {aa : Option Addr} {ac : Nat} {p : PD} {h d : Bool} (hx : Py w wx B rb R q v m aa ac none 0 p) (hby : IsBytes wx (cutA (some ⟨g, 0, none⟩) cap at_) (sub l at_ dn)) (hml : (sub l at_ dn).length = dn) (hat : at_ + dn ≤ cap) (hlm : cap ≤ 9223372036854775807) (hdn : dn ≤ 256) (hcond : cap = at_) (hd : p.data = []) (hf : findP l h d = .whole) (hp : pduP l h d = { p with data := sub l at_ dn }) (hm : restP l h d = m) {u0 u1 u2 u3 u4 u5 u7 u10 u12 u14 u15 u16 u17 u18 u19 u20 u21 u22 u23 u24 u25 u26 u27 u28 u29 u30 u31 u32 u33 u34 u35 u36 u37 u38 u39 u40 u41 u42 u43 u44 u45 u46 u47 u48 u49 u50 u51 u52 u53 u54 u55 u56 u57 u58 u59 u60 u61 u62 u63 u64 u65 u66 u67 u68 u69 u70 u71 u72 u73 u74 u75 u76 u77 u78 u79 u80 u81 u82 u83 u84 u85 u86 u87 u88 u89 u90 u91 u92 u93 u94 u95 u96 u97 u98 u99 u100 u101 u102 u103 u104 u105 u106 u107 u108 u109 u110 u111 u112 u113 u114 u115 u116 u117 u118 u119 u120 u121 u122 u123 u124 u125 u126 u127 u128 u129 u130 u131 u132 u133 u134 u135 u136 u137 u138 u139 u140 u141 u142 u143 u144 u145 u146 u147 u148 u149 u150 u151 u152 u153 u154 u155 u156 u157 u158 u159 u160 u161 u162 u163 u164 u165 u166 u167 u168 u169 u170 u171 u172 u173 u174 u175 u176 u177 : Value} :
    Code.wp Try.prog (restOf Try.f17 33) (bodyPost Try.prog Try.f17 (NextRr w B rb l h d)) ⟨(u0 :: u1 :: u2 :: u3 :: u4 :: u5 :: .pointer (some ⟨R, 0, none⟩) :: u7 :: .slice (some ⟨g, 0, none⟩) n cap :: .int .i64 (dn : Nat) :: u10 :: .int .i64 (at_ : Nat) :: u12 :: .pointer (some ⟨q, 0, none⟩) :: u14 :: u15 :: u16 :: u17 :: u18 :: u19 :: u20 :: u21 :: u22 :: u23 :: u24 :: u25 :: u26 :: u27 :: u28 :: u29 :: u30 :: u31 :: u32 :: u33 :: u34 :: u35 :: u36 :: u37 :: u38 :: u39 :: u40 :: u41 :: u42 :: u43 :: u44 :: u45 :: u46 :: u47 :: u48 :: u49 :: u50 :: u51 :: u52 :: u53 :: u54 :: u55 :: u56 :: u57 :: u58 :: u59 :: u60 :: u61 :: u62 :: u63 :: u64 :: u65 :: u66 :: u67 :: u68 :: u69 :: u70 :: u71 :: u72 :: u73 :: u74 :: u75 :: u76 :: u77 :: u78 :: u79 :: u80 :: u81 :: u82 :: u83 :: u84 :: u85 :: u86 :: u87 :: u88 :: u89 :: u90 :: u91 :: u92 :: u93 :: u94 :: u95 :: u96 :: u97 :: u98 :: u99 :: u100 :: u101 :: u102 :: u103 :: u104 :: u105 :: u106 :: u107 :: u108 :: u109 :: u110 :: u111 :: u112 :: u113 :: u114 :: u115 :: u116 :: u117 :: u118 :: u119 :: u120 :: u121 :: u122 :: u123 :: u124 :: u125 :: u126 :: u127 :: u128 :: u129 :: u130 :: u131 :: u132 :: u133 :: u134 :: u135 :: u136 :: u137 :: u138 :: u139 :: u140 :: u141 :: u142 :: u143 :: u144 :: u145 :: u146 :: u147 :: u148 :: u149 :: u150 :: u151 :: u152 :: u153 :: u154 :: u155 :: u156 :: u157 :: u158 :: u159 :: u160 :: u161 :: u162 :: u163 :: u164 :: u165 :: u166 :: u167 :: u168 :: u169 :: u170 :: u171 :: u172 :: u173 :: u174 :: u175 :: u176 :: u177 :: []).toArray, []⟩ wx := by
  have hcn : (some ⟨g, 0, none⟩ : Option Addr) = none → cap - at_ = 0 := fun h => by cases h
  have hby : IsBytes wx (some ⟨g, 0, none⟩ : Option Addr) (sub l at_ dn) := by
    unfold cutA at hby
    rw [if_pos hcond] at hby
    exact hby
  obtain ⟨a1, ha1⟩ : ∃ a1 : Nat, a1 = at_ + dn := ⟨_, rfl⟩
  have zw : IntKind.i64.wrap ((at_ : Int) + (dn : Int)) = (a1 : Int) := by rw [IntWalk.i64_in _ (by omega)]; omega
  have z1 : (0 : Int) ≤ (a1 : Int) := by omega
  have z2 : (a1 : Int) ≤ (cap : Int) := by omega
  have z3 : (at_ : Int) ≤ (a1 : Int) := by omega
  have z4 : a1 - at_ = dn := by omega
  have z5 : a1 ≤ cap := by omega
  have z6 : at_ ≤ a1 := by omega
  have z7 : (0 : Int) ≤ (at_ : Int) := by omega
  have c15 := hx.blk.cell 15 (v := .slice none p.data.length 0) rfl
  rw [hd] at c15
  have c15 : wx.drew.cell? ⟨q, 15, none⟩ = some (.slice none 0 0) := c15
  have HX := Lib.hid (And.intro hx (And.intro hf (And.intro hp (And.intro hm (And.intro hby (And.intro hml hd))))))
  have HC := Lib.hid (And.intro hcond ha1)
  have hneT : (cap = at_) = True := eq_true hcond
  clear hcond
  clear hx hf hp hm hby hml hd ha1 hat
  conv => arg 2; whnf
  refine wp_seq_k (fun K hK => ?_)
  have HK := Lib.hid hK
  clear hK
  refine wp_region_held_drew (S := fun w' => True) (by kernel_rfl) trivial (fun hHeld => ?_)
  refine wpAnyH_take (i := 0) (v := ?_) rfl (by kernel_rfl) (by kernel_rfl) (by kernel_rfl) (fun _ _ _ h => h) (Or.inl ⟨by rfl, ?_⟩) (by with_reducible assumption) ?_
  rotate_left
  · intro w hSw; (try dsimp only at hSw); (try go_split_ands); go_simp; (try with_reducible rfl)
  (try simp only [Act.put, List.getElem_toArray, List.getElem_cons_succ, List.getElem_cons_zero, List.setIfInBounds_toArray, List.set_cons_zero, List.set_cons_succ])
  refine wpAnyH_take (i := 2) (v := ?_) rfl (by kernel_rfl) (by kernel_rfl) (by kernel_rfl) (fun _ _ _ h => h) (Or.inl ⟨by rfl, ?_⟩) (by with_reducible assumption) ?_
  rotate_left
  · intro w hSw; (try dsimp only at hSw); (try go_split_ands); go_simp; (try with_reducible rfl)
  (try simp only [Act.put, List.getElem_toArray, List.getElem_cons_succ, List.getElem_cons_zero, List.setIfInBounds_toArray, List.set_cons_zero, List.set_cons_succ])
  refine wpAnyH_take (i := 3) (v := ?_) rfl (by kernel_rfl) (by kernel_rfl) (by kernel_rfl) (fun _ _ _ h => h) (Or.inl ⟨by rfl, ?_⟩) (by with_reducible assumption) ?_
  rotate_left
  · intro w hSw; (try dsimp only at hSw); (try go_split_ands); go_simp; (try with_reducible rfl)
  (try simp only [Act.put, List.getElem_toArray, List.getElem_cons_succ, List.getElem_cons_zero, List.setIfInBounds_toArray, List.set_cons_zero, List.set_cons_succ])
  refine wpAnyH_take (i := 4) (v := ?_) rfl (by kernel_rfl) (by kernel_rfl) (by kernel_rfl) (fun _ _ _ h => h) (Or.inl ⟨by rfl, ?_⟩) (by with_reducible assumption) ?_
  rotate_left
  · intro w hSw; (try dsimp only at hSw); (try go_split_ands); go_simp; (try with_reducible rfl)
  (try simp only [Act.put, List.getElem_toArray, List.getElem_cons_succ, List.getElem_cons_zero, List.setIfInBounds_toArray, List.set_cons_zero, List.set_cons_succ])
  refine wpAnyH_take (i := 5) (v := ?_) rfl (by kernel_rfl) (by kernel_rfl) (by kernel_rfl) (fun _ _ _ h => h) (Or.inl ⟨by rfl, ?_⟩) (by with_reducible assumption) ?_
  rotate_left
  · intro w hSw; (try dsimp only at hSw); (try go_split_ands); go_simp; (try with_reducible rfl)
  (try simp only [Act.put, List.getElem_toArray, List.getElem_cons_succ, List.getElem_cons_zero, List.setIfInBounds_toArray, List.set_cons_zero, List.set_cons_succ])
  refine wpAnyH_take (i := 6) (v := ?_) rfl (by kernel_rfl) (by kernel_rfl) (by kernel_rfl) (fun _ _ _ h => h) (Or.inl ⟨by rfl, ?_⟩) (by with_reducible assumption) ?_
  rotate_left
  · intro w hSw; (try dsimp only at hSw); (try go_split_ands); go_simp; (try with_reducible rfl)
  (try simp only [Act.put, List.getElem_toArray, List.getElem_cons_succ, List.getElem_cons_zero, List.setIfInBounds_toArray, List.set_cons_zero, List.set_cons_succ])
  refine wpAnyH_take (i := 7) (v := ?_) rfl (by kernel_rfl) (by kernel_rfl) (by kernel_rfl) (fun _ _ _ h => h) (Or.inl ⟨by rfl, ?_⟩) (by with_reducible assumption) ?_
  rotate_left
  · intro w hSw; (try dsimp only at hSw); (try go_split_ands); go_simp; (try with_reducible rfl)
  (try simp only [Act.put, List.getElem_toArray, List.getElem_cons_succ, List.getElem_cons_zero, List.setIfInBounds_toArray, List.set_cons_zero, List.set_cons_succ])
  refine wpAnyH_ready (rs := [1]) (by kernel_rfl) (by simp) ?_
  refine AllReadyH.cons rfl (fun K2 hK2 => ?_) AllReadyH.nil
  go_simp
  refine hK2.out _ _ trivial (fun hHeld => ?_)
  clear hK2 K2 c15
  (try simp only [Act.put, List.getElem_toArray, List.getElem_cons_succ, List.getElem_cons_zero, List.setIfInBounds_toArray, List.set_cons_zero, List.set_cons_succ])
  refine wpAnyH_ready (rs := [8]) (by kernel_rfl) (by simp) ?_
  refine AllReadyH.cons rfl (fun K2 hK2 => ?_) AllReadyH.nil
  refine step_app' (by rfl) (.tmp 168) (.tmp 174) (by rfl) wx.heap.size (.slice none 0 0) [] (by rfl) (Own.nil _ _) (some ⟨g, 0, none⟩ : Option Addr) dn (cap - at_) (sub l at_ dn) (by rfl) HX.out.2.2.2.2.2.1.symm HX.out.2.2.2.2.1 hcn (by rw [HX.out.2.2.2.2.2.1]; show 0 + dn ≤ _; omega) (Nat.le_refl _) ?_
  intro v' w1 ho1 hb1 hg1
  have HBn : Hid (Below wx.heap.size wx w1) := Lib.hid ((Below.refl _ _).drew.trans hb1)
  have HO := Lib.hid (ho1.mono HX.out.1.but.size)
  obtain ⟨va, vn, vc, rfl, hvn⟩ := ho1.slice
  have hvn2 : vn = (sub l at_ dn).length := hvn.out
  clear ho1 hb1 hg1 hvn
  subst hvn2
  refine hK2.out _ _ trivial (fun hHeld => ?_)
  clear hK2 K2
  (try simp only [Act.put, List.getElem_toArray, List.getElem_cons_succ, List.getElem_cons_zero, List.setIfInBounds_toArray, List.set_cons_zero, List.set_cons_succ])
  refine wpAnyH_take (i := 9) (v := ?_) rfl (by kernel_rfl) (by kernel_rfl) (by kernel_rfl) (fun _ _ _ h => h) (Or.inl ⟨by rfl, ?_⟩) (by with_reducible assumption) ?_
  rotate_left
  · intro w hSw; (try dsimp only at hSw); (try go_split_ands); go_simp; (try with_reducible rfl)
  (try simp only [Act.put, List.getElem_toArray, List.getElem_cons_succ, List.getElem_cons_zero, List.setIfInBounds_toArray, List.set_cons_zero, List.set_cons_succ])
  have c15 : w1.cell? ⟨q, 15, none⟩ = some (.slice none p.data.length 0) := (HX.out.1.below HBn.out).blk.cell 15 rfl
  have fz : w1.frozen? ⟨q, 15, none⟩ = false := (HX.out.1.below HBn.out).blk.fz 15
  refine wpAnyH_ready (rs := [10]) (by kernel_rfl) (by simp) ?_
  refine AllReadyH.cons rfl (fun K2 hK2 => ?_) AllReadyH.nil
  go_simp
  refine hK2.out _ _ trivial (fun hHeld => ?_)
  clear hK2 K2 hHeld c15 fz
  (try simp only [Act.put, List.getElem_toArray, List.getElem_cons_succ, List.getElem_cons_zero, List.setIfInBounds_toArray, List.set_cons_zero, List.set_cons_succ])
  refine wpAnyH_done (by kernel_rfl) ?_ _
  refine HK.out _ _ ?_
  have hx1 := HX.out.1.below HBn.out
  have hx2 := hx1.store 15 (.slice va (sub l at_ dn).length vc) (p' := { p with data := sub l at_ dn }) (aa' := aa) (ac' := ac) (da' := va) (dc' := vc) rfl (hx1.keep hx1.ao 15 _) (hx1.keep HO.out 15 _)
  exact rxt_34 hx2 HX.out.2.1 HX.out.2.2.1 HX.out.2.2.2.1

end Go.Proofs.Ytaehaclmagnncaa
