-- slots 178
/-
  pdu: the reference's Next, from the end (4).
-/
import Derived.Test.YtaehaclmagnncaaPduRp
import Derived.Test.YtaehaclmagnncaaPduIf
namespace Go.Proofs.Ytaehaclmagnncaa
set_option linter.unusedVariables false
set_option linter.unusedSimpArgs false
open Go.RowKit
attribute [local go_sem ↓] Go.wp_at_zero Go.wp_at_succ

/-- The reference's Next ahead of the PDU. -/
structure Ny (w wx : World) (B rb R : Nat) (v : Value) (l : List Nat) : Prop where
  rd : IsRr wx B rb v l false
  res : IsBlk wx R pdZ 28
  but : But (fun k => k = rb) w wx
  hR : w.heap.size ≤ R
  nv : NV w rb v
theorem Ny.below {w wx wy : World} {B rb R : Nat} {v : Value} {l : List Nat} (h : Ny w wx B rb R v l) (hb : Below wx.heap.size wx wy) : Ny w wy B rb R v l :=
  ⟨h.rd.below hb, h.res.below hb h.res.lt, h.but.trans (But.of_below hb (Nat.le_refl _)), h.hR, h.nv⟩
theorem Ny.start {w wx W : World} {B rb R q : Nat} {v : Value} {l : List Nat} {p : PD} (h : Ny w wx B rb R v l) (hb : Below wx.heap.size wx W) (hq : IsBlk W q pdZ 28) (hqs : wx.heap.size ≤ q) (ha : p.ahs = []) (hd : p.data = []) :
    Py w (W.setRow q (pdC p none 0 none 0)) B rb R q v l none 0 none 0 p := by
  have hb2 : Below wx.heap.size wx (W.setRow q (pdC p none 0 none 0)) := below_setRow hb q hqs _
  have hx := h.below hb2
  refine ⟨hx.rd, hx.res, isBlk_setRow hq _, ?_, hx.but, hx.hR, Nat.le_trans h.but.size hqs, ?_, ?_, hx.nv⟩
  · have := h.res.lt
    omega
  · rw [ha]; exact Own.nil _ _
  · rw [hd]; exact Own.nil _ _
theorem Ny.nothing {w wx : World} {B rb R : Nat} {v : Value} {l : List Nat} {h d : Bool} (hx : Ny w wx B rb R v l) (hf : findP l h d = .nothing) : NextRr w B rb l h d (.returned (.tuple #[.agg pdZ, .int .i64 0])) (wx.setRow R pdZ) := by
  refine ⟨pdZ, v, by rw [hf]; rfl, ?_, ?_, hx.but.setRow hx.hR _, hx.nv⟩
  · rw [(nothing_told hf).1]; exact pdv_zero _
  · rw [(nothing_told hf).2, hf]; exact hx.rd.setRow hx.res _
theorem Ny.broken {w wx wy : World} {B rb R : Nat} {v : Value} {l : List Nat} {h d : Bool} (hx : Ny w wx B rb R v l) (hf : findP l h d = .broken) (hs : IsRr wy B rb (.slice none 0 0) [] true) (hb : But (fun k => k = rb) wx wy) : NextRr w B rb l h d (.returned (.tuple #[.agg pdZ, .int .i64 3])) (wy.setRow R pdZ) := by
  have hres : IsBlk wy R pdZ 28 := hb.blk hx.res (fun e => blk_ne hx.rd.blk hx.res (by decide) e.symm)
  refine ⟨pdZ, .slice none 0 0, by rw [hf]; rfl, ?_, ?_, (hx.but.trans hb).setRow hx.hR _, fun k hk => by simp [Value.ownBlock] at hk⟩
  · rw [(broken_told hf).1]; exact pdv_zero _
  · rw [(broken_told hf).2, hf]; exact hs.setRow hres _

set_option maxRecDepth 100000 in
set_option maxHeartbeats 4000000 in
theorem rxt_22 {w wx : World} {B rb R g n cap at_ dn e an hd : Nat} {l : List Nat} {h d : Bool} (hx : Ny w wx B rb R (.slice (some ⟨g, 0, none⟩) n cap) l) (hhd : hd = 48 + an) (h48 : 48 + an ≤ n) (han : ahsN l = an) (hn : l.length = n) (hnc : n ≤ cap) (hlm : cap ≤ 9223372036854775807) (hl47 : n ≤ 140737488355328) (hB : B ≤ w.heap.size) (hdn : dn ≤ 256) (hT : Told l h d at_ dn e (readP l)) {u1 u3 u4 u5 u7 u13 u14 u15 u16 u17 u18 u19 u20 u21 u22 u23 u24 u25 u26 u27 u28 u29 u30 u31 u32 u33 u34 u35 u36 u37 u38 u39 u40 u41 u42 u43 u44 u45 u46 u47 u48 u49 u50 u51 u52 u53 u54 u55 u56 u57 u58 u59 u60 u61 u62 u63 u64 u65 u66 u67 u68 u69 u70 u71 u72 u73 u74 u75 u76 u77 u78 u79 u80 u81 u82 u83 u84 u85 u86 u87 u88 u89 u90 u91 u92 u93 u94 u95 u96 u97 u98 u99 u100 u101 u102 u103 u104 u105 u106 u107 u108 u109 u110 u111 u112 u113 u114 u115 u116 u117 u118 u119 u120 u121 u122 u123 u124 u125 u126 u127 u128 u129 u130 u131 u132 u133 u134 u135 u136 u137 u138 u139 u140 u141 u142 u143 u144 u145 u146 u147 u148 u149 u150 u151 u152 u153 u154 u155 u156 u157 u158 u159 u160 u161 u162 u163 u164 u165 u166 u167 u168 u169 u170 u171 u172 u173 u174 u175 u176 u177 : Value} :
    Code.wp Try.prog (restOf Try.f17 22) (bodyPost Try.prog Try.f17 (NextRr w B rb l h d)) ⟨(.pointer (some ⟨rb, 0, none⟩) :: u1 :: .bool d :: u3 :: u4 :: u5 :: .pointer (some ⟨R, 0, none⟩) :: u7 :: .slice (some ⟨g, 0, none⟩) n cap :: .int .i64 (dn : Nat) :: .int .i64 (hd : Nat) :: .int .i64 (at_ : Nat) :: .int .i64 (e : Nat) :: u13 :: u14 :: u15 :: u16 :: u17 :: u18 :: u19 :: u20 :: u21 :: u22 :: u23 :: u24 :: u25 :: u26 :: u27 :: u28 :: u29 :: u30 :: u31 :: u32 :: u33 :: u34 :: u35 :: u36 :: u37 :: u38 :: u39 :: u40 :: u41 :: u42 :: u43 :: u44 :: u45 :: u46 :: u47 :: u48 :: u49 :: u50 :: u51 :: u52 :: u53 :: u54 :: u55 :: u56 :: u57 :: u58 :: u59 :: u60 :: u61 :: u62 :: u63 :: u64 :: u65 :: u66 :: u67 :: u68 :: u69 :: u70 :: u71 :: u72 :: u73 :: u74 :: u75 :: u76 :: u77 :: u78 :: u79 :: u80 :: u81 :: u82 :: u83 :: u84 :: u85 :: u86 :: u87 :: u88 :: u89 :: u90 :: u91 :: u92 :: u93 :: u94 :: u95 :: u96 :: u97 :: u98 :: u99 :: u100 :: u101 :: u102 :: u103 :: u104 :: u105 :: u106 :: u107 :: u108 :: u109 :: u110 :: u111 :: u112 :: u113 :: u114 :: u115 :: u116 :: u117 :: u118 :: u119 :: u120 :: u121 :: u122 :: u123 :: u124 :: u125 :: u126 :: u127 :: u128 :: u129 :: u130 :: u131 :: u132 :: u133 :: u134 :: u135 :: u136 :: u137 :: u138 :: u139 :: u140 :: u141 :: u142 :: u143 :: u144 :: u145 :: u146 :: u147 :: u148 :: u149 :: u150 :: u151 :: u152 :: u153 :: u154 :: u155 :: u156 :: u157 :: u158 :: u159 :: u160 :: u161 :: u162 :: u163 :: u164 :: u165 :: u166 :: u167 :: u168 :: u169 :: u170 :: u171 :: u172 :: u173 :: u174 :: u175 :: u176 :: u177 :: []).toArray, []⟩ wx := by
  have HS : Hid (∀ w', Below wx.heap.size wx w' → (w'.cell? ⟨g, 0, none⟩ = some (.int .u8 (l.getD 0 0 : Nat)) ∧ w'.cell? ⟨g, 1, none⟩ = some (.int .u8 (l.getD 1 0 : Nat))) ∧ Below wx.heap.size wx w') := Lib.hid (fun w' hw => by
    have hc := (hx.rd.below hw).own
    exact ⟨⟨hc.cells 0 (by omega), hc.cells 1 (by omega)⟩, hw⟩)
  have HBy : ∀ w', Below wx.heap.size wx w' → IsBytes w' (some ⟨g, 0, none⟩) l := fun w' hw => by
    obtain ⟨a', cap', he, hb', -⟩ := (hx.rd.below hw).own.form
    injection he with he1 he2 he3
    rw [he1]; exact hb'
  have q8 : ¬ cap = 8 := by omega
  have q16 : ¬ cap = 16 := by omega
  have hc8 : ∀ w', Below wx.heap.size wx w' → IsBytes w' (some ⟨g, 8, none⟩) (sub l 8 8) := fun w' hw => by
    have := isBytes_cut (HBy w' hw) cap 8 16 (by omega) (by omega) (by omega)
    unfold cutA at this
    rw [if_neg q8] at this
    simpa [Go.WideShapes.add_plain, sub] using this
  have hc16 : ∀ w', Below wx.heap.size wx w' → IsBytes w' (some ⟨g, 16, none⟩) (sub l 16 4) := fun w' hw => by
    have := isBytes_cut (HBy w' hw) cap 16 20 (by omega) (by omega) (by omega)
    unfold cutA at this
    rw [if_neg q16] at this
    simpa [Go.WideShapes.add_plain, sub] using this
  have hl8 : (sub l 8 8).length = 8 := by unfold sub; rw [List.length_take, List.length_drop]; omega
  have hl16 : (sub l 16 4).length = 4 := by unfold sub; rw [List.length_take, List.length_drop]; omega
  have HN8 := Lib.hid (fun w' (hw : Below wx.heap.size wx w') => num_any (some ⟨g, 8, none⟩) (sub l 8 8) 8 (cap - 8) w' hl8 (hc8 w' hw) (by omega))
  have HN16 := Lib.hid (fun w' (hw : Below wx.heap.size wx w') => num_any (some ⟨g, 16, none⟩) (sub l 16 4) 4 (cap - 16) w' hl16 (hc16 w' hw) (by omega))
  have hlt16 := numB_sub_lt l hx.rd.own.lt256 16 (by omega)
  have g0 := hx.rd.own.lt256 0
  obtain ⟨y8, hy8⟩ : ∃ y, y = numB (sub l 8 8) := ⟨_, rfl⟩
  obtain ⟨y16, hy16⟩ : ∃ y, y = numB (sub l 16 4) := ⟨_, rfl⟩
  obtain ⟨c0, hc0⟩ : ∃ c, c = l.getD 0 0 := ⟨_, rfl⟩
  obtain ⟨c1, hc1⟩ : ∃ c, c = l.getD 1 0 := ⟨_, rfl⟩
  obtain ⟨y0, hy0⟩ : ∃ y, y = c0 % 64 := ⟨_, rfl⟩
  obtain ⟨im, him⟩ : ∃ y, y = decide (64 ≤ c0) := ⟨_, rfl⟩
  rw [← hy8] at HN8
  rw [← hy16] at HN16 hlt16
  rw [← hc0, ← hc1] at HS
  rw [← hc0] at g0
  have r1 : Int.tmod (c0 : Int) 64 = (y0 : Int) := by rw [Int.tmod_eq_emod_of_nonneg (by omega)]; omega
  have r2 : (c0 : Int) % 64 = (y0 : Int) := by omega
  have r3 : IntKind.u8.wrap (y0 : Int) = (y0 : Int) := by rw [IntKind.wrap_u8]; omega
  have r4 : IntKind.i64.wrap (y0 : Int) = (y0 : Int) := IntWalk.i64_in _ (by omega)
  have r5 : decide ((64 : Int) ≤ (c0 : Int)) = im := by rw [him]; simp; omega
  have r6 : decide (64 ≤ c0) = im := him.symm
  have r7 : IntKind.u32.wrap (y16 : Int) = (y16 : Int) := by rw [IntKind.wrap_u32]; omega
  have e1 : readP l = { op := (y0 : Nat), imm := im, flags := c1, lun := y8, tag := y16, words := wordsP l, ahs := sub l 48 an, s0 := l.getD 2 0, s1 := l.getD 3 0 } := by
    unfold readP
    rw [← hc0, ← hc1, ← hy0, ← him, ← hy8, ← hy16, han]
  rw [e1] at hT
  have HX := Lib.hid (And.intro hx (And.intro hn hT))
  have HLe := Lib.hid hx.but.size
  clear hx hn hT e1 hy0 him hy8 hy16 hc0 hc1 HBy hc8 hc16 hl8 hl16 han
  have HHD := Lib.hid hhd
  clear hhd
  have v7 : (0 : Int) < (n : Int) := by omega
  have v8 : (1 : Int) < (n : Int) := by omega
  have v9 : 0 < n := by omega
  have v10 : 1 < n := by omega
  have v12 : (16 : Int) ≤ (cap : Int) := by omega
  have v13 : (20 : Int) ≤ (cap : Int) := by omega
  have v14 : 16 ≤ cap := by omega
  have v15 : 20 ≤ cap := by omega
  conv => arg 2; whnf
  refine wp_seq_k (fun K hK => ?_)
  have HK := Lib.hid hK
  clear hK
  refine wp_region_held_drew (S := fun w' => (w'.cell? ⟨g, 0, none⟩ = some (.int .u8 (c0 : Nat)) ∧ w'.cell? ⟨g, 1, none⟩ = some (.int .u8 (c1 : Nat))) ∧ Below wx.heap.size wx w') (by kernel_rfl) (by exact HS.out _ (Below.refl _ _).drew) (fun hHeld => ?_)
  refine wpAnyH_take (i := 0) (v := ?_) rfl (by kernel_rfl) (by kernel_rfl) (by kernel_rfl) (fun _ _ _ h => h) (Or.inl ⟨by rfl, ?_⟩) (by with_reducible assumption) ?_
  rotate_left
  · intro w hSw; (try dsimp only at hSw); (try go_split_ands); go_simp; (try with_reducible rfl)
  (try simp only [Act.put, List.getElem_toArray, List.getElem_cons_succ, List.getElem_cons_zero, List.setIfInBounds_toArray, List.set_cons_zero, List.set_cons_succ])
  refine wpAnyH_take (i := 1) (v := ?_) rfl (by kernel_rfl) (by kernel_rfl) (by kernel_rfl) (fun _ _ _ h => h) (Or.inl ⟨by rfl, ?_⟩) (by with_reducible assumption) ?_
  rotate_left
  · intro w hSw; (try dsimp only at hSw); (try go_split_ands); go_simp; (try with_reducible rfl)
  (try simp only [Act.put, List.getElem_toArray, List.getElem_cons_succ, List.getElem_cons_zero, List.setIfInBounds_toArray, List.set_cons_zero, List.set_cons_succ])
  refine wpAnyH_take (i := 2) (v := ?_) rfl (by kernel_rfl) (by kernel_rfl) (by kernel_rfl) (fun _ _ _ h => h) (Or.inl ⟨by rfl, ?_⟩) (by with_reducible assumption) ?_
  rotate_left
  · intro w hSw; (try dsimp only at hSw); (try go_split_ands); go_simp; (try with_reducible rfl)
  (try simp only [Act.put, List.getElem_toArray, List.getElem_cons_succ, List.getElem_cons_zero, List.setIfInBounds_toArray, List.set_cons_zero, List.set_cons_succ])
  refine wpAnyH_take (i := 3) (v := ?_) rfl (by kernel_rfl) (by kernel_rfl) (by kernel_rfl) (fun _ _ _ h => h) (Or.inl ⟨by rfl, ?_⟩) (by with_reducible assumption) ?_
  rotate_left
  · intro w hSw; (try dsimp only at hSw); (try go_split_ands); go_simp; (try with_reducible rfl)
  (try simp only [Act.put, List.getElem_toArray, List.getElem_cons_succ, List.getElem_cons_zero, List.setIfInBounds_toArray, List.set_cons_zero, List.set_cons_succ])
  refine wpAnyH_take (i := 4) (v := ?_) rfl (by kernel_rfl) (by kernel_rfl) (by kernel_rfl) (fun _ _ _ h => h) (Or.inl ⟨by rfl, ?_⟩) (by with_reducible assumption) ?_
  rotate_left
  · intro w hSw; (try dsimp only at hSw); (try go_split_ands); go_simp; (try with_reducible rfl)
  (try simp only [Act.put, List.getElem_toArray, List.getElem_cons_succ, List.getElem_cons_zero, List.setIfInBounds_toArray, List.set_cons_zero, List.set_cons_succ])
  refine wpAnyH_take (i := 5) (v := ?_) rfl (by kernel_rfl) (by kernel_rfl) (by kernel_rfl) (fun _ _ _ h => h) (Or.inl ⟨by rfl, ?_⟩) (by with_reducible assumption) ?_
  rotate_left
  · intro w hSw; (try dsimp only at hSw); (try go_split_ands); go_simp; (try with_reducible rfl)
  (try simp only [Act.put, List.getElem_toArray, List.getElem_cons_succ, List.getElem_cons_zero, List.setIfInBounds_toArray, List.set_cons_zero, List.set_cons_succ])
  refine wpAnyH_take (i := 6) (v := ?_) rfl (by kernel_rfl) (by kernel_rfl) (by kernel_rfl) (fun _ _ _ h => h) (Or.inl ⟨by rfl, ?_⟩) (by with_reducible assumption) ?_
  rotate_left
  · intro w hSw; (try dsimp only at hSw); (try go_split_ands); go_simp; (try with_reducible rfl)
  (try simp only [Act.put, List.getElem_toArray, List.getElem_cons_succ, List.getElem_cons_zero, List.setIfInBounds_toArray, List.set_cons_zero, List.set_cons_succ])
  refine wpAnyH_take (i := 7) (v := ?_) rfl (by kernel_rfl) (by kernel_rfl) (by kernel_rfl) (fun _ _ _ h => h) (Or.inl ⟨by rfl, ?_⟩) (by with_reducible assumption) ?_
  rotate_left
  · intro w hSw; (try dsimp only at hSw); (try go_split_ands); go_simp; (try with_reducible rfl)
  (try simp only [Act.put, List.getElem_toArray, List.getElem_cons_succ, List.getElem_cons_zero, List.setIfInBounds_toArray, List.set_cons_zero, List.set_cons_succ])
  refine wpAnyH_take (i := 8) (v := ?_) rfl (by kernel_rfl) (by kernel_rfl) (by kernel_rfl) (fun _ _ _ h => h) (Or.inl ⟨by rfl, ?_⟩) (by with_reducible assumption) ?_
  rotate_left
  · intro w hSw; (try dsimp only at hSw); (try go_split_ands); go_simp; (try with_reducible rfl)
  (try simp only [Act.put, List.getElem_toArray, List.getElem_cons_succ, List.getElem_cons_zero, List.setIfInBounds_toArray, List.set_cons_zero, List.set_cons_succ])
  refine wpAnyH_take (i := 9) (v := ?_) rfl (by kernel_rfl) (by kernel_rfl) (by kernel_rfl) (fun _ _ _ h => h) (Or.inl ⟨by rfl, ?_⟩) (by with_reducible assumption) ?_
  rotate_left
  · intro w hSw; (try dsimp only at hSw); (try go_split_ands); go_simp; (try with_reducible rfl)
  (try simp only [Act.put, List.getElem_toArray, List.getElem_cons_succ, List.getElem_cons_zero, List.setIfInBounds_toArray, List.set_cons_zero, List.set_cons_succ])
  refine wpAnyH_take (i := 10) (v := ?_) rfl (by kernel_rfl) (by kernel_rfl) (by kernel_rfl) (fun _ _ _ h => h) (Or.inl ⟨by rfl, ?_⟩) (by with_reducible assumption) ?_
  rotate_left
  · intro w hSw; (try dsimp only at hSw); (try go_split_ands); go_simp; (try with_reducible rfl)
  (try simp only [Act.put, List.getElem_toArray, List.getElem_cons_succ, List.getElem_cons_zero, List.setIfInBounds_toArray, List.set_cons_zero, List.set_cons_succ])
  refine wpAnyH_take (i := 11) (v := ?_) rfl (by kernel_rfl) (by kernel_rfl) (by kernel_rfl) (fun _ _ _ h => h) (Or.inl ⟨by rfl, ?_⟩) (by with_reducible assumption) ?_
  rotate_left
  · intro w hSw; (try dsimp only at hSw); (try go_split_ands); go_simp; (try with_reducible rfl)
  (try simp only [Act.put, List.getElem_toArray, List.getElem_cons_succ, List.getElem_cons_zero, List.setIfInBounds_toArray, List.set_cons_zero, List.set_cons_succ])
  refine wpAnyH_take (i := 12) (v := ?_) rfl (by kernel_rfl) (by kernel_rfl) (by kernel_rfl) (fun _ _ _ h => h) (Or.inl ⟨by rfl, ?_⟩) (by with_reducible assumption) ?_
  rotate_left
  · intro w hSw; (try dsimp only at hSw); (try go_split_ands); go_simp; (try with_reducible rfl)
  (try simp only [Act.put, List.getElem_toArray, List.getElem_cons_succ, List.getElem_cons_zero, List.setIfInBounds_toArray, List.set_cons_zero, List.set_cons_succ])
  refine wpAnyH_take (i := 13) (v := ?_) rfl (by kernel_rfl) (by kernel_rfl) (by kernel_rfl) (fun _ _ _ h => h) (Or.inl ⟨by rfl, ?_⟩) (by with_reducible assumption) ?_
  rotate_left
  · intro w hSw; (try dsimp only at hSw); (try go_split_ands); go_simp; (try with_reducible rfl)
  (try simp only [Act.put, List.getElem_toArray, List.getElem_cons_succ, List.getElem_cons_zero, List.setIfInBounds_toArray, List.set_cons_zero, List.set_cons_succ])
  refine wpAnyH_take (i := 15) (v := ?_) rfl (by kernel_rfl) (by kernel_rfl) (by kernel_rfl) (fun _ _ _ h => h) (Or.inl ⟨by rfl, ?_⟩) (by with_reducible assumption) ?_
  rotate_left
  · intro w hSw; (try dsimp only at hSw); (try go_split_ands); go_simp; (try with_reducible rfl)
  (try simp only [Act.put, List.getElem_toArray, List.getElem_cons_succ, List.getElem_cons_zero, List.setIfInBounds_toArray, List.set_cons_zero, List.set_cons_succ])
  refine wpAnyH_take (i := 16) (v := ?_) rfl (by kernel_rfl) (by kernel_rfl) (by kernel_rfl) (fun _ _ _ h => h) (Or.inl ⟨by rfl, ?_⟩) (by with_reducible assumption) ?_
  rotate_left
  · intro w hSw; (try dsimp only at hSw); (try go_split_ands); go_simp; (try with_reducible rfl)
  (try simp only [Act.put, List.getElem_toArray, List.getElem_cons_succ, List.getElem_cons_zero, List.setIfInBounds_toArray, List.set_cons_zero, List.set_cons_succ])
  have HW := Lib.hid hHeld.2
  generalize wx.drew = V0 at *
  refine wpAnyH_ready (rs := [14, 20]) (by kernel_rfl) (by simp) ?_
  refine AllReadyH.cons rfl (fun K2 hK2 => ?_) (AllReadyH.cons rfl (fun K2 hK2 => ?_) (AllReadyH.nil))
  · go_simp
    go_at_call 27
    refine (HN8.out _ HW.out).mono ?_
    rintro e1 Wn ⟨rfl, rfl⟩
    refine hK2.out _ _ (HS.out _ HW.out) (fun hHeld => ?_)
    clear hK2 K2
    (try simp only [Act.put, List.getElem_toArray, List.getElem_cons_succ, List.getElem_cons_zero, List.setIfInBounds_toArray, List.set_cons_zero, List.set_cons_succ])
    refine wpAnyH_ready (rs := [17, 20]) (by kernel_rfl) (by simp) ?_
    refine AllReadyH.cons rfl (fun K2 hK2 => ?_) (AllReadyH.cons rfl (fun K2 hK2 => ?_) (AllReadyH.nil))
    · go_simp
      go_at_call 27
      refine (HN16.out _ HW.out).mono ?_
      rintro e1 Wn ⟨rfl, rfl⟩
      refine hK2.out _ _ (HS.out _ HW.out) (fun hHeld => ?_)
      clear hK2 K2
      (try simp only [Act.put, List.getElem_toArray, List.getElem_cons_succ, List.getElem_cons_zero, List.setIfInBounds_toArray, List.set_cons_zero, List.set_cons_succ])
      refine wpAnyH_take (i := 18) (v := ?_) rfl (by kernel_rfl) (by kernel_rfl) (by kernel_rfl) (fun _ _ _ h => h) (Or.inl ⟨by rfl, ?_⟩) (by with_reducible assumption) ?_
      rotate_left
      · intro w hSw; (try dsimp only at hSw); (try go_split_ands); go_simp; (try with_reducible rfl)
      (try simp only [Act.put, List.getElem_toArray, List.getElem_cons_succ, List.getElem_cons_zero, List.setIfInBounds_toArray, List.set_cons_zero, List.set_cons_succ])
      refine wpAnyH_take (i := 19) (v := ?_) rfl (by kernel_rfl) (by kernel_rfl) (by kernel_rfl) (fun _ _ _ h => h) (Or.inl ⟨by rfl, ?_⟩) (by with_reducible assumption) ?_
      rotate_left
      · intro w hSw; (try dsimp only at hSw); (try go_split_ands); go_simp; (try with_reducible rfl)
      (try simp only [Act.put, List.getElem_toArray, List.getElem_cons_succ, List.getElem_cons_zero, List.setIfInBounds_toArray, List.set_cons_zero, List.set_cons_succ])
      refine wpAnyH_ready (rs := [20]) (by kernel_rfl) (by simp) ?_
      refine AllReadyH.cons rfl (fun K2 hK2 => ?_) (AllReadyH.nil)
      go_simp
      have HQ : Hid (IsBlk (V0.alloc (.cells pdZ 28)) V0.heap.size pdZ 28) := Lib.hid (IsBlk.new V0 _ _)
      have HQS : Hid (wx.heap.size ≤ V0.heap.size) := Lib.hid HW.out.size
      have HW3 : Hid (Below wx.heap.size wx (V0.alloc (.cells pdZ 28))) := Lib.hid (HW.out.alloc HW.out.size _)
      refine hK2.out _ (V0.alloc (.cells pdZ 28)) (HS.out _ HW3.out) (fun hHeld => ?_)
      clear hK2 K2 HW
      have HW := Lib.hid HW3.out
      clear HW3
      obtain ⟨q, hq⟩ : ∃ q, V0.heap.size = q := ⟨_, rfl⟩
      rw [hq] at HQ HQS ⊢
      clear hq
      generalize V0.alloc (.cells pdZ 28) = V1 at *
      (try simp only [Act.put, List.getElem_toArray, List.getElem_cons_succ, List.getElem_cons_zero, List.setIfInBounds_toArray, List.set_cons_zero, List.set_cons_succ])
      refine wpAnyH_ready (rs := [21]) (by kernel_rfl) (by simp) ?_
      refine AllReadyH.cons rfl (fun K2 hK2 => ?_) (AllReadyH.nil)
      refine step_store_row (by rfl) 28 (.tmp 13) (.tmp 111) (by rfl) q (pdC { op := (y0 : Nat), imm := im, flags := c1, lun := y8, tag := y16 } none 0 none 0) (by rfl) (by rfl) 28 pdZ (by exact HQ.out) (by kernel_rfl) (by rfl) (pdC_one _ _ _ _ _) ?_
      have hpx := HX.out.1.start (p := { op := (y0 : Nat), imm := im, flags := c1, lun := y8, tag := y16 }) HW.out HQ.out HQS.out rfl rfl
      refine hK2.out _ _ (HS.out _ (below_setRow HW.out _ HQS.out _)) (fun hHeld => ?_)
      clear hK2 K2 hHeld
      (try simp only [Act.put, List.getElem_toArray, List.getElem_cons_succ, List.getElem_cons_zero, List.setIfInBounds_toArray, List.set_cons_zero, List.set_cons_succ])
      refine wpAnyH_done (by kernel_rfl) ?_ _
      refine HK.out _ _ ?_
      exact rxt_23 (p := { op := (y0 : Nat), imm := im, flags := c1, lun := y8, tag := y16 }) hpx HHD.out h48 HX.out.2.1 hnc hlm hl47 hB hdn HX.out.2.2
    · go_simp
      have HQ : Hid (IsBlk (V0.alloc (.cells pdZ 28)) V0.heap.size pdZ 28) := Lib.hid (IsBlk.new V0 _ _)
      have HQS : Hid (wx.heap.size ≤ V0.heap.size) := Lib.hid HW.out.size
      have HW3 : Hid (Below wx.heap.size wx (V0.alloc (.cells pdZ 28))) := Lib.hid (HW.out.alloc HW.out.size _)
      refine hK2.out _ (V0.alloc (.cells pdZ 28)) (HS.out _ HW3.out) (fun hHeld => ?_)
      clear hK2 K2 HW
      have HW := Lib.hid HW3.out
      clear HW3
      obtain ⟨q, hq⟩ : ∃ q, V0.heap.size = q := ⟨_, rfl⟩
      rw [hq] at HQ HQS ⊢
      clear hq
      generalize V0.alloc (.cells pdZ 28) = V1 at *
      (try simp only [Act.put, List.getElem_toArray, List.getElem_cons_succ, List.getElem_cons_zero, List.setIfInBounds_toArray, List.set_cons_zero, List.set_cons_succ])
      refine wpAnyH_ready (rs := [17]) (by kernel_rfl) (by simp) ?_
      refine AllReadyH.cons rfl (fun K2 hK2 => ?_) (AllReadyH.nil)
      go_simp
      go_at_call 27
      refine (HN16.out _ HW.out).mono ?_
      rintro e1 Wn ⟨rfl, rfl⟩
      refine hK2.out _ _ (HS.out _ HW.out) (fun hHeld => ?_)
      clear hK2 K2
      (try simp only [Act.put, List.getElem_toArray, List.getElem_cons_succ, List.getElem_cons_zero, List.setIfInBounds_toArray, List.set_cons_zero, List.set_cons_succ])
      refine wpAnyH_take (i := 18) (v := ?_) rfl (by kernel_rfl) (by kernel_rfl) (by kernel_rfl) (fun _ _ _ h => h) (Or.inl ⟨by rfl, ?_⟩) (by with_reducible assumption) ?_
      rotate_left
      · intro w hSw; (try dsimp only at hSw); (try go_split_ands); go_simp; (try with_reducible rfl)
      (try simp only [Act.put, List.getElem_toArray, List.getElem_cons_succ, List.getElem_cons_zero, List.setIfInBounds_toArray, List.set_cons_zero, List.set_cons_succ])
      refine wpAnyH_take (i := 19) (v := ?_) rfl (by kernel_rfl) (by kernel_rfl) (by kernel_rfl) (fun _ _ _ h => h) (Or.inl ⟨by rfl, ?_⟩) (by with_reducible assumption) ?_
      rotate_left
      · intro w hSw; (try dsimp only at hSw); (try go_split_ands); go_simp; (try with_reducible rfl)
      (try simp only [Act.put, List.getElem_toArray, List.getElem_cons_succ, List.getElem_cons_zero, List.setIfInBounds_toArray, List.set_cons_zero, List.set_cons_succ])
      refine wpAnyH_ready (rs := [21]) (by kernel_rfl) (by simp) ?_
      refine AllReadyH.cons rfl (fun K2 hK2 => ?_) (AllReadyH.nil)
      refine step_store_row (by rfl) 28 (.tmp 13) (.tmp 111) (by rfl) q (pdC { op := (y0 : Nat), imm := im, flags := c1, lun := y8, tag := y16 } none 0 none 0) (by rfl) (by rfl) 28 pdZ (by exact HQ.out) (by kernel_rfl) (by rfl) (pdC_one _ _ _ _ _) ?_
      have hpx := HX.out.1.start (p := { op := (y0 : Nat), imm := im, flags := c1, lun := y8, tag := y16 }) HW.out HQ.out HQS.out rfl rfl
      refine hK2.out _ _ (HS.out _ (below_setRow HW.out _ HQS.out _)) (fun hHeld => ?_)
      clear hK2 K2 hHeld
      (try simp only [Act.put, List.getElem_toArray, List.getElem_cons_succ, List.getElem_cons_zero, List.setIfInBounds_toArray, List.set_cons_zero, List.set_cons_succ])
      refine wpAnyH_done (by kernel_rfl) ?_ _
      refine HK.out _ _ ?_
      exact rxt_23 (p := { op := (y0 : Nat), imm := im, flags := c1, lun := y8, tag := y16 }) hpx HHD.out h48 HX.out.2.1 hnc hlm hl47 hB hdn HX.out.2.2
  · go_simp
    have HQ : Hid (IsBlk (V0.alloc (.cells pdZ 28)) V0.heap.size pdZ 28) := Lib.hid (IsBlk.new V0 _ _)
    have HQS : Hid (wx.heap.size ≤ V0.heap.size) := Lib.hid HW.out.size
    have HW3 : Hid (Below wx.heap.size wx (V0.alloc (.cells pdZ 28))) := Lib.hid (HW.out.alloc HW.out.size _)
    refine hK2.out _ (V0.alloc (.cells pdZ 28)) (HS.out _ HW3.out) (fun hHeld => ?_)
    clear hK2 K2 HW
    have HW := Lib.hid HW3.out
    clear HW3
    obtain ⟨q, hq⟩ : ∃ q, V0.heap.size = q := ⟨_, rfl⟩
    rw [hq] at HQ HQS ⊢
    clear hq
    generalize V0.alloc (.cells pdZ 28) = V1 at *
    (try simp only [Act.put, List.getElem_toArray, List.getElem_cons_succ, List.getElem_cons_zero, List.setIfInBounds_toArray, List.set_cons_zero, List.set_cons_succ])
    refine wpAnyH_ready (rs := [14]) (by kernel_rfl) (by simp) ?_
    refine AllReadyH.cons rfl (fun K2 hK2 => ?_) (AllReadyH.nil)
    go_simp
    go_at_call 27
    refine (HN8.out _ HW.out).mono ?_
    rintro e1 Wn ⟨rfl, rfl⟩
    refine hK2.out _ _ (HS.out _ HW.out) (fun hHeld => ?_)
    clear hK2 K2
    (try simp only [Act.put, List.getElem_toArray, List.getElem_cons_succ, List.getElem_cons_zero, List.setIfInBounds_toArray, List.set_cons_zero, List.set_cons_succ])
    refine wpAnyH_ready (rs := [17]) (by kernel_rfl) (by simp) ?_
    refine AllReadyH.cons rfl (fun K2 hK2 => ?_) (AllReadyH.nil)
    go_simp
    go_at_call 27
    refine (HN16.out _ HW.out).mono ?_
    rintro e1 Wn ⟨rfl, rfl⟩
    refine hK2.out _ _ (HS.out _ HW.out) (fun hHeld => ?_)
    clear hK2 K2
    (try simp only [Act.put, List.getElem_toArray, List.getElem_cons_succ, List.getElem_cons_zero, List.setIfInBounds_toArray, List.set_cons_zero, List.set_cons_succ])
    refine wpAnyH_take (i := 18) (v := ?_) rfl (by kernel_rfl) (by kernel_rfl) (by kernel_rfl) (fun _ _ _ h => h) (Or.inl ⟨by rfl, ?_⟩) (by with_reducible assumption) ?_
    rotate_left
    · intro w hSw; (try dsimp only at hSw); (try go_split_ands); go_simp; (try with_reducible rfl)
    (try simp only [Act.put, List.getElem_toArray, List.getElem_cons_succ, List.getElem_cons_zero, List.setIfInBounds_toArray, List.set_cons_zero, List.set_cons_succ])
    refine wpAnyH_take (i := 19) (v := ?_) rfl (by kernel_rfl) (by kernel_rfl) (by kernel_rfl) (fun _ _ _ h => h) (Or.inl ⟨by rfl, ?_⟩) (by with_reducible assumption) ?_
    rotate_left
    · intro w hSw; (try dsimp only at hSw); (try go_split_ands); go_simp; (try with_reducible rfl)
    (try simp only [Act.put, List.getElem_toArray, List.getElem_cons_succ, List.getElem_cons_zero, List.setIfInBounds_toArray, List.set_cons_zero, List.set_cons_succ])
    refine wpAnyH_ready (rs := [21]) (by kernel_rfl) (by simp) ?_
    refine AllReadyH.cons rfl (fun K2 hK2 => ?_) (AllReadyH.nil)
    refine step_store_row (by rfl) 28 (.tmp 13) (.tmp 111) (by rfl) q (pdC { op := (y0 : Nat), imm := im, flags := c1, lun := y8, tag := y16 } none 0 none 0) (by rfl) (by rfl) 28 pdZ (by exact HQ.out) (by kernel_rfl) (by rfl) (pdC_one _ _ _ _ _) ?_
    have hpx := HX.out.1.start (p := { op := (y0 : Nat), imm := im, flags := c1, lun := y8, tag := y16 }) HW.out HQ.out HQS.out rfl rfl
    refine hK2.out _ _ (HS.out _ (below_setRow HW.out _ HQS.out _)) (fun hHeld => ?_)
    clear hK2 K2 hHeld
    (try simp only [Act.put, List.getElem_toArray, List.getElem_cons_succ, List.getElem_cons_zero, List.setIfInBounds_toArray, List.set_cons_zero, List.set_cons_succ])
    refine wpAnyH_done (by kernel_rfl) ?_ _
    refine HK.out _ _ ?_
    exact rxt_23 (p := { op := (y0 : Nat), imm := im, flags := c1, lun := y8, tag := y16 }) hpx HHD.out h48 HX.out.2.1 hnc hlm hl47 hB hdn HX.out.2.2
end Go.Proofs.Ytaehaclmagnncaa
