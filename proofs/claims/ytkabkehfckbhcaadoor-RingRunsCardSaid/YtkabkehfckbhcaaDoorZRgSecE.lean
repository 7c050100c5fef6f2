/-
  ring: the reference's Sectors: its end.
-/
import Derived.Test.YtkabkehfckbhcaaDoorZRgAdd
import Derived.Test.YtkabkehfckbhcaaDoorZRgNx
namespace Go.Proofs.YtkabkehfckbhcaaDoor
set_option linter.unusedVariables false
set_option linter.unusedSimpArgs false
open Go.RowKit

/-- Sectors gathered, and all bytes. -/
structure SecQ (w8 wr : World) (v : Value) (L : List (List Nat)) (va : Value) (m : List Nat) : Prop where
  gath : Gath w8 wr v L
  own : Own wr w8.heap.size va m
section
variable {w8 wr w' : World} {v va : Value} {L : List (List Nat)} {m : List Nat}
theorem SecQ.ne (h : SecQ w8 wr v L va m) : ∀ k, v.ownBlock = some k → va.ownBlock ≠ some k := fun k hk => by
  obtain ⟨cur, hc⟩ := h.gath.row.tag k hk
  exact h.own.ne_blk (b := k) (cs := cur) (t := 48) hc (by decide)
theorem SecQ.below (h : SecQ w8 wr v L va m) (hw : Below wr.heap.size wr w') : SecQ w8 w' v L va m :=
  ⟨h.gath.below hw, (But.of_below (S := fun _ => False) hw (Nat.le_refl _)).own h.own (fun _ _ => id)⟩
theorem SecQ.more (h : SecQ w8 wr v L va m) {w4 : World} {v' : Value} {L' : List (List Nat)} (hb : Below wr.heap.size wr w4) (hg : Gath w8 w' v' L') (q2 : w4.grownBy w' v.ownBlock) : SecQ w8 w' v' L' va m := by
  have hbt : But (fun j => v.ownBlock = some j) wr w' := (But.of_below (S := fun j => v.ownBlock = some j) hb (Nat.le_refl _)).grown q2 (fun k hk => hk)
  exact ⟨hg, hbt.own h.own (fun j hj e => h.ne j e hj)⟩
theorem SecQ.app (h : SecQ w8 wr v L va m) {va' : Value} {x : List Nat} (h1 : Own w' w8.heap.size va' (m ++ x)) (h2 : Below w8.heap.size wr w') (h3 : wr.grownBy w' va.ownBlock) : SecQ w8 w' v L va' (m ++ x) := by
  have hbt : But (fun j => va.ownBlock = some j) wr w' := (But.refl _ wr).grown h3 (fun k hk => hk)
  exact ⟨⟨h.gath.bel.trans h2, h.gath.row.but hbt (fun j hj e => h.ne j hj e)⟩, h1⟩
end
theorem wpList_app_pgQ {ops : Array Oper} {rest : List Oper} {o : Oper} {a : Act} {w wr : World} {Q : Exit → Act → World → Prop} {pa : Option Addr} {pc n : Nat} {L : List (List Nat)} {p : List Nat} {va : Value} {m : List Nat} (hgd : o.guard = none) (s x : Operand)
    (ho : o.op = .call { callee := .builtin .append, args := #[s, x], argTypes := #[41, 41] }) (HG : SecQ w wr (.slice pa n pc) L va m) (hn : L.length = n) (hp : p.length = 64) (hs : a.eval s = .slice pa n pc) (hx : a.eval x = .slice (some ⟨wr.heap.size, 0, none⟩) 1 1) (hL : n ≤ 10000)
    (h : ∀ v' w', SecQ w w' v' (L ++ [p]) va m → wpList Tryd.prog ops Q rest (a.put o.dst v') w') : wpList Tryd.prog ops Q (o :: rest) a (wr.alloc (.cells (nv .u8 p) 48)) := by
  obtain ⟨it, z, hi1, hi2, hi3, hi4, hi5⟩ := pg_typ
  have hb : Below wr.heap.size wr (wr.alloc (.cells (nv .u8 p) 48)) := (Below.refl _ _).alloc (Nat.le_refl _) _
  have hown := (HG.gath.row.below hb).2
  rw [hn] at hown
  refine wpList_append_src _ hgd s x 41 ho w.heap.size 48 it z 64 64 Tryd.underlying41 hi1 hi2 hi3 hi4 (by rw [hi5]; rfl) (by decide) _ n _ hs hown _ 1 1 (bv p) hx (pg_src wr p hp) (by intro e; cases e) (bv_one _) (by unfold maxLen; omega) (by omega) (Nat.le_trans HG.gath.bel.size hb.size) fun v' w' q1 q2 q3 => ?_
  rw [← hn] at q1
  exact h v' w' (HG.more hb (HG.gath.more hp hb q1 q2) q2)
theorem bv_take (n : Nat) (l : List Nat) : bv (l.take n) = (bv l).take n := by simp [bv, List.map_take]
theorem bv_drop (n : Nat) (l : List Nat) : bv (l.drop n) = (bv l).drop n := by simp [bv, List.map_drop]
/-- A digest laid into the first of a row of sectors. -/
theorem row_copied {w : World} {base g n cap : Nat} {p D : List Nat} {L : List (List Nat)} (h : RowF w base 48 64 bv (.slice (some ⟨g, 0, none⟩) n cap) (p :: L)) (hp : p.length = 64) (hD : D.length = 32) :
    ∃ cur, IsBlk w g cur 48 ∧ 64 ≤ cur.size ∧ RowF (w.setRow g (cur.toList.take 10 ++ bv D ++ cur.toList.drop 42).toArray) base 48 64 bv (.slice (some ⟨g, 0, none⟩) n cap) ((p.take 10 ++ (D ++ p.drop 42)) :: L) := by
  obtain ⟨g', cap', cur, e, hg, hh, hn, hm, hs, ht⟩ := h.block (by simp)
  injection e with e1 e2 e3
  injection e1 with e1
  injection e1 with e1
  subst e1 e3
  rw [List.length_cons] at hn ht e2
  have hall : ∀ q ∈ (p.take 10 ++ (D ++ p.drop 42)) :: L, (bv q).length = 64 := fun q hq => by
    rcases List.mem_cons.1 hq with rfl | hq
    · rw [bv_length, List.length_append, List.length_append, List.length_take, List.length_drop]; omega
    · exact h.1 q (List.mem_cons_of_mem _ hq)
  refine ⟨cur, hh, by omega, hall, by rw [flat_length hall], .inr ⟨g, cap, _, by rw [List.length_cons, e2], hg, isBlk_setRow hh _, by rw [List.length_cons]; exact hn, hm, ?_, ?_⟩⟩
  · rw [List.size_toArray, List.length_append, List.length_append, List.length_take, List.length_drop, bv_length, Array.length_toList]; omega
  · have h10 : cur.toList.take 10 = bv (p.take 10) := by
      have := congrArg (List.take 10) ht
      rw [List.take_take, Nat.min_eq_left (by omega), List.flatMap_cons, List.take_append_of_le_length (by rw [bv_length]; omega)] at this
      rw [this, bv_take]
    have h42 : (cur.toList.drop 42).take ((L.length + 1) * 64 - 42) = bv (p.drop 42) ++ L.flatMap bv := by
      have := congrArg (List.drop 42) ht
      rw [List.drop_take, List.flatMap_cons, List.drop_append_of_le_length (by rw [bv_length]; omega)] at this
      rw [this, bv_drop]
    rw [List.length_cons, h10, List.flatMap_cons, bv_append, bv_append, List.take_append, List.take_of_length_le (by rw [List.length_append, bv_length, bv_length, List.length_take]; omega), List.length_append, bv_length, bv_length, List.length_take, hp, hD, show (L.length + 1) * 64 - (min 10 64 + 32) = (L.length + 1) * 64 - 42 by omega, h42]
    simp only [List.append_assoc]
theorem step_copy_first {ops : Array Oper} {o : Oper} {a : Act} {w : World} {K : Act → World → Prop} {Q : Exit → Act → World → Prop} {E : Prop} (hgd : o.guard = none) (d s : Operand)
    (ho : o.op = .call { callee := .builtin .copy, args := #[d, s], argTypes := #[91, 91] }) (g sb : Nat)
    (hdv : a.eval d = .slice (some ⟨g, 10, none⟩) 32 54) (hsv : a.eval s = .slice (some ⟨sb, 0, none⟩) 32 32) (cur : Array Value) (D : List Nat) (hp : IsBlk w g cur 48) (hpl : 64 ≤ cur.size) (hD : IsBlk w sb (nv .u8 D) 23) (hDl : D.length = 32)
    (h : K (a.put o.dst (.int .i64 32)) (w.setRow g (cur.toList.take 10 ++ (bv D ++ cur.toList.drop 42)).toArray)) : if Region.wanted o (yielded ops a.tmps) = true then Oper.wp Tryd.prog o a w K Q else E := by
  rw [if_pos (by simp [Region.wanted, hgd])]
  have hbl : (bv D).length = 32 := by rw [bv_length, hDl]
  have hrun := run_copy_row (P := Tryd.prog) w 91 91 o.type 5 g 10 32 54 ⟨sb, 0, none⟩ 32 32 cur 48 (bv D)
    (by kernel_rfl) (by kernel_rfl) hp (by rw [hbl]; rfl) (fun j v hj => by
      rw [Addr.add_mid, Nat.zero_add]
      refine hD.cell j ?_
      show (bv D).toArray[j]? = some v
      rw [List.getElem?_toArray]
      exact hj) (by rw [hbl]; omega) (bv_one D)
  rw [hbl] at hrun
  unfold Oper.wp
  simp [execOp, ho, resolve, invoke, builtin, hdv, hsv, hrun, Result.andThen]
  exact h
theorem results_sec {P : Program} {fn : Func} {p q : Tmp} {ty : TypeId} (h : fn.results = #[.tmp q, .cell p ty]) (tmps : Array Value) (w : World) (g : Nat) (t : TypeId) (cs : Array Value) (fr : Nat × Nat) (d : TypeDesc)
    (hp : tmps.getD p undef = .pointer (some ⟨g, 0, none⟩)) (hg : w.heap[g]? = some (.cells cs t fr))
    (hu : P.underlying ty = some d) (hd : (match d with | .struct _ | .array _ _ => true | _ => false) = true) (hi : (P.info? ty).map (·.size) = some cs.size) :
    (results fn tmps).run P w = .ok (.tuple #[tmps.getD q undef, .agg cs]) w := by
  have hp' : tmps[p]?.getD undef = .pointer (some ⟨g, 0, none⟩) := by simpa using hp
  simp [results, h, hp', asAddr, run_loadVar_row w g t ty cs fr d hg hu hd hi]
theorem sec_ret {w2 : World} {sm : Nat} {m : List Nat} (hm : m.length = 32) {a : Act} {v : Value} {R : Ending → World → Prop} (hk : IsBlk w2 sm (nv .u8 m) 23)
    (h4 : a.tmps.getD 4 undef = v) (h5 : a.tmps.getD 5 undef = .pointer (some ⟨sm, 0, none⟩)) (hd : a.defers = [])
    (hR : R (.returned (.tuple #[v, .agg (nv .u8 m)])) w2) : bodyPost Tryd.prog Tryd.f12 R .ret a w2 := by
  refine bodyPost_ret (v := .tuple #[v, .agg (nv .u8 m)]) ?_ hd hR
  subst h4
  exact results_sec Tryd.results12 _ _ sm 23 (nv .u8 m) (0, 0) _ h5 hk Tryd.underlying23 rfl (by rw [nv_size, hm]; kernel_rfl)
theorem flat_pgs (L : List (List Nat)) (h : ∀ p ∈ L, p.length = 64) : L.flatten.length = 64 * L.length := by
  induction L with
  | nil => rfl
  | cons p r ih => rw [List.flatten_cons, List.length_append, h p (by simp), ih (fun q hq => h q (by simp [hq])), List.length_cons]; omega
theorem sumIn_le {last : List Nat} {num : Nat} {l : List CH} (hll : last.length = 32) (hok : ∀ c ∈ l, CHok c) (hk : l.length ≤ 64) : (sumIn last num l).length ≤ 100000 := by
  have h1 := flat_pgs (bodyPgs l) (fun p hp => (bodyPgs_ok hok p hp).1)
  have h2 := bodyPgs_length l
  unfold takes at h2
  unfold sumIn
  rw [List.length_append, List.length_append, headB_length, hll, h1]
  omega
/-- What Sectors answers. -/
def SecPost (W : World) (num : Nat) (last : List Nat) (l : List CH) : Ending → World → Prop := fun e w' => ∃ v, e = .returned (.tuple #[v, .agg (nv .u8 (recSum last num l))]) ∧ RowF w' W.heap.size 48 64 bv v (recPgs last num l) ∧ Below W.heap.size W w'
/-- What stands when the head is laid. -/
structure SecE (W w8 : World) (sm : Nat) : Prop where
  smb : IsBlk w8 sm (nv .u8 Z32) 23
  sml : W.heap.size ≤ sm
  bel : Below W.heap.size W w8
set_option maxRecDepth 100000 in
set_option maxHeartbeats 8000000 in
theorem sec_end {W w8 wr : World} {sm num : Nat} {last : List Nat} {l : List CH} {v va : Value} (HE : Hid (SecE W w8 sm)) (hk64 : l.length ≤ 64) (hll : last.length = 32) (hok : ∀ c ∈ l, CHok c) (HQ : Hid (SecQ w8 wr v (padPg (headB num l.length) :: bodyPgs l) va (sumIn last num l))) {u0 u1 u2 u3 u4 u7 u8 u10 u11 u12 u13 u14 u15 u16 u17 u18 u19 u20 u21 u22 u23 u24 u25 u26 u27 u28 u29 u30 u31 u32 u33 u34 u35 u36 u37 u38 u39 u40 u41 u42 u43 u44 u45 u46 u47 u48 u49 u50 u51 u52 u53 u54 u55 u56 u57 u58 u59 u60 u61 u62 u63 u64 u65 u66 u67 u68 u69 u70 u71 u72 u73 u74 u75 u76 u77 u78 u79 u80 u81 u82 u83 u84 u85 u86 u87 u88 u89 u90 u91 u92 u93 u94 u95 u96 u97 u98 u99 u100 u101 u102 u103 u104 u105 u106 u107 u108 u109 u110 u111 u112 u113 u114 u115 u116 u117 u118 u119 u120 u121 u122 u123 u124 u125 u126 u127 u128 u129 u130 u131 u132 u133 u134 u135 : Value} :
    Code.wp Tryd.prog (restOf Tryd.f12 33) (bodyPost Tryd.prog Tryd.f12 (SecPost W num last l)) ⟨(u0 :: u1 :: u2 :: u3 :: u4 :: .pointer (some ⟨sm, 0, none⟩) :: v :: u7 :: u8 :: va :: u10 :: u11 :: u12 :: u13 :: u14 :: u15 :: u16 :: u17 :: u18 :: u19 :: u20 :: u21 :: u22 :: u23 :: u24 :: u25 :: u26 :: u27 :: u28 :: u29 :: u30 :: u31 :: u32 :: u33 :: u34 :: u35 :: u36 :: u37 :: u38 :: u39 :: u40 :: u41 :: u42 :: u43 :: u44 :: u45 :: u46 :: u47 :: u48 :: u49 :: u50 :: u51 :: u52 :: u53 :: u54 :: u55 :: u56 :: u57 :: u58 :: u59 :: u60 :: u61 :: u62 :: u63 :: u64 :: u65 :: u66 :: u67 :: u68 :: u69 :: u70 :: u71 :: u72 :: u73 :: u74 :: u75 :: u76 :: u77 :: u78 :: u79 :: u80 :: u81 :: u82 :: u83 :: u84 :: u85 :: u86 :: u87 :: u88 :: u89 :: u90 :: u91 :: u92 :: u93 :: u94 :: u95 :: u96 :: u97 :: u98 :: u99 :: u100 :: u101 :: u102 :: u103 :: u104 :: u105 :: u106 :: u107 :: u108 :: u109 :: u110 :: u111 :: u112 :: u113 :: u114 :: u115 :: u116 :: u117 :: u118 :: u119 :: u120 :: u121 :: u122 :: u123 :: u124 :: u125 :: u126 :: u127 :: u128 :: u129 :: u130 :: u131 :: u132 :: u133 :: u134 :: u135 :: []).toArray, []⟩ wr := by
  conv => arg 2; whnf
  obtain ⟨a, m, c, e, HLN⟩ := HQ.out.own.slice
  subst e
  have hbl := bodyPgs_length l
  have hml := sumIn_le (num := num) hll hok hk64
  have hsum := sumR_any wr a m c (sumIn last num l) HLN (HQ.out.own.isB) HQ.out.own.capz (by have := HLN.out; omega)
  have hDl : (digest (sumIn last num l)).length = 32 := digest_length _
  obtain ⟨pa, pn, pc, e, HN⟩ := HQ.out.gath.slice'
  subst e
  have n0 : (0 : Int) < (pn : Int) := by rw [HN.out, List.length_cons]; omega
  have n1 : 0 < pn := by omega
  change Calls _ _ _ _ (fun e w' => e = .returned (.agg (nv .u8 (recSum last num l))) ∧ _) at hsum
  change (recSum last num l).length = 32 at hDl
  generalize hD : recSum last num l = Dg at *
  have HDL := Lib.hid (And.intro hDl hD)
  clear hDl hD hml
  have H8 := Lib.hid (HE.out.smb.below HQ.out.gath.bel HE.out.smb.lt)
  go_upto_region 34 with (first
    | (go_at_call 33; (with_reducible refine hsum.mono ?_); rintro e w9 ⟨rfl, hb9⟩; have H9 := Lib.hid hb9; clear hb9)
    | (refine wpList_alloc_info (by rfl) 23 (by rfl) (.agg (nv .u8 Z32)) (nv .u8 Z32) (by kernel_rfl) rfl ?_)
    | (refine wpList_store_row (by rfl) 23 (.tmp 16) (.tmp 128) (by rfl) _ (nv .u8 Dg) (by rfl) (by rfl) 23 (nv .u8 Z32) (heap_alloc_new _ _) (by rw [nv_size, HDL.out.1]; kernel_rfl) (by rw [nv_size, nv_size, HDL.out.1]; rfl) (nv_one _ _) ?_))
  have hv1 := sum_var w9 Dg
  change IsBlk ((w9.alloc (.cells (nv .u8 Z32) 23)).setRow w9.heap.size (nv .u8 Dg)) w9.heap.size (nv .u8 Dg) 23 ∧ Below w9.heap.size w9 ((w9.alloc (.cells (nv .u8 Z32) 23)).setRow w9.heap.size (nv .u8 Dg)) at hv1
  generalize (w9.alloc (.cells (nv .u8 Z32) 23)).setRow w9.heap.size (nv .u8 Dg) = wA at hv1 ⊢
  have hbW : Below wr.heap.size wr wA := H9.out.trans (hv1.2.mono H9.out.size)
  have hQA := HQ.out.gath.below hbW
  have hsmA := H8.out.below hbW H8.out.lt
  have hpl : (padPg (headB num l.length)).length = 64 := padPg_length _ (by rw [headB_length]; decide)
  obtain ⟨pg, hpg⟩ : ∃ g, pa = some ⟨g, 0, none⟩ := by
    obtain ⟨g, cap, cur, e, -⟩ := hQA.row.block (by simp)
    injection e with e1 _ _
    exact ⟨g, e1⟩
  subst hpg
  obtain ⟨cur, hcur, hcs, hrow⟩ := row_copied (D := Dg) hQA.row hpl HDL.out.1
  rw [List.append_assoc, ← HDL.out.2, head_copy] at hrow
  rw [HDL.out.2] at hrow
  have HA := Lib.hid (And.intro hv1.1 (And.intro hQA.bel (And.intro hsmA (And.intro hcur (And.intro hcs hrow)))))
  clear hv1 hbW hQA hsmA hcur hcs hrow hpl
  refine wp_region_any (by kernel_rfl) ?_
  change wpAny _ _ _ _ _ _ _ (World.drew _)
  refine wpAny_take (i := 0) (v := ?_) rfl (by kernel_rfl) (by kernel_rfl) (by kernel_rfl) (fun _ _ _ h => h) (Or.inl ⟨by rfl, ?_⟩) ?_
  rotate_left
  · intro w; go_simp; (try with_reducible rfl)
  (try simp only [Act.put, List.getElem_toArray, List.getElem_cons_succ, List.getElem_cons_zero, List.setIfInBounds_toArray, List.set_cons_zero, List.set_cons_succ])
  refine wpAny_take (i := 1) (v := ?_) rfl (by kernel_rfl) (by kernel_rfl) (by kernel_rfl) (fun _ _ _ h => h) (Or.inl ⟨by rfl, ?_⟩) ?_
  rotate_left
  · intro w; go_simp; (try with_reducible rfl)
  (try simp only [Act.put, List.getElem_toArray, List.getElem_cons_succ, List.getElem_cons_zero, List.setIfInBounds_toArray, List.set_cons_zero, List.set_cons_succ])
  refine wpAny_take (i := 2) (v := ?_) rfl (by kernel_rfl) (by kernel_rfl) (by kernel_rfl) (fun _ _ _ h => h) (Or.inl ⟨by rfl, ?_⟩) ?_
  rotate_left
  · intro w; go_simp; (try with_reducible rfl)
  (try simp only [Act.put, List.getElem_toArray, List.getElem_cons_succ, List.getElem_cons_zero, List.setIfInBounds_toArray, List.set_cons_zero, List.set_cons_succ])
  refine wpAny_take (i := 3) (v := ?_) rfl (by kernel_rfl) (by kernel_rfl) (by kernel_rfl) (fun _ _ _ h => h) (Or.inl ⟨by rfl, ?_⟩) ?_
  rotate_left
  · intro w; go_simp; (try with_reducible rfl)
  (try simp only [Act.put, List.getElem_toArray, List.getElem_cons_succ, List.getElem_cons_zero, List.setIfInBounds_toArray, List.set_cons_zero, List.set_cons_succ])
  refine wpAny_ready (rs := [4]) (by kernel_rfl) (by simp) ?_
  refine AllReady.cons rfl (fun K9 hK9 => ?_) AllReady.nil
  refine step_copy_first (by rfl) _ _ (by rfl) pg w9.heap.size (by rfl) (by rfl) cur Dg HA.out.2.2.2.1.drew HA.out.2.2.2.2.1 HA.out.1.drew HDL.out.1 ?_
  refine hK9 _ _ ?_
  clear hK9 K9
  (try simp only [Act.put, List.getElem_toArray, List.getElem_cons_succ, List.getElem_cons_zero, List.setIfInBounds_toArray, List.set_cons_zero, List.set_cons_succ])
  refine wpAny_done (by kernel_rfl) ?_ _
  have hbt : But (fun k => k = pg) wA.drew (wA.drew.setRow pg (cur.toList.take 10 ++ (bv Dg ++ cur.toList.drop 42)).toArray) := setRow_but _ _ _
  have hpgl : w8.heap.size ≤ pg := HQ.out.gath.row.base_le pg rfl
  have hrow : RowF (wA.drew.setRow pg (cur.toList.take 10 ++ (bv Dg ++ cur.toList.drop 42)).toArray) w8.heap.size 48 64 bv (.slice (some ⟨pg, 0, none⟩) pn pc) (headPg last num l :: bodyPgs l) := HA.out.2.2.2.2.2.of_block (fun k hk => rfl)
  have hne : w9.heap.size ≠ pg := fun e => by
    have h1 : wA.heap[pg]? = some (.cells (nv .u8 Dg) 23) := e ▸ HA.out.1
    have h2 : wA.heap[pg]? = some (.cells cur 48) := HA.out.2.2.2.1
    rw [h1] at h2
    injection h2 with h2
    injection h2 with _ h3 _
    exact absurd h3 (by decide)
  have hsb : IsBlk (wA.drew.setRow pg (cur.toList.take 10 ++ (bv Dg ++ cur.toList.drop 42)).toArray) w9.heap.size (nv .u8 Dg) 23 := hbt.blk HA.out.1.drew hne
  have hsm : IsBlk (wA.drew.setRow pg (cur.toList.take 10 ++ (bv Dg ++ cur.toList.drop 42)).toArray) sm (nv .u8 Z32) 23 := hbt.blk HA.out.2.2.1.drew (fun e => by have := HE.out.smb.lt; omega)
  have hbl3 : Below w8.heap.size w8 (wA.drew.setRow pg (cur.toList.take 10 ++ (bv Dg ++ cur.toList.drop 42)).toArray) := HA.out.2.1.drew.trans (hbt.below HA.out.2.1.drew.size (fun k hk => hk ▸ hpgl))
  have HB := Lib.hid (And.intro hsb (And.intro hsm (And.intro hbl3 hrow)))
  clear hsb hsm hbl3 hrow hbt hpgl hne
  generalize wA.drew.setRow pg (cur.toList.take 10 ++ (bv Dg ++ cur.toList.drop 42)).toArray = wB at HB ⊢
  have hlay := dg_laid (w := wB.drew) HB.out.2.1.drew (by rfl) HDL.out.1
  have hsw : w8.heap.size ≤ wB.heap.size := HB.out.2.2.1.size
  have hlt8 := HE.out.smb.lt
  have hbf : Below W.heap.size W (wB.drew.setCells sm 0 (bv Dg)) := ((HE.out.bel.trans (HB.out.2.2.1.mono HE.out.bel.size)).drew).trans (hlay.2.1.below (Nat.le_trans HE.out.bel.size hsw) (fun j hj => hj ▸ HE.out.sml))
  have hrow : RowF (wB.drew.setCells sm 0 (bv Dg)) W.heap.size 48 64 bv (.slice (some ⟨pg, 0, none⟩) pn pc) (headPg last num l :: bodyPgs l) := ((HB.out.2.2.2.below ((Below.refl _ _).drew)).but hlay.2.1 (fun j hj e => by have := HB.out.2.2.2.base_le j hj; omega)).mono HE.out.bel.size
  have hsb' : IsBlk (wB.drew.setCells sm 0 (bv Dg)) w9.heap.size (nv .u8 Dg) 23 := hlay.2.1.blk HB.out.1.drew (fun e => by have := HQ.out.gath.bel.size; have := H9.out.size; omega)
  have HL := Lib.hid (And.intro hlay.1 (And.intro hbf hrow))
  have HTH := Lib.hid hlay.2.2
  clear hlay hbf hrow hsw hlt8
  go_upto_region 35 with fail
  refine wp_region_held_drew (S := fun w' => IsBlk w' w9.heap.size (nv .u8 Dg) 23) (by kernel_rfl) HB.out.1.drew (fun hHeld => ?_)
  refine wpAnyH_take (i := 0) (v := ?_) rfl (by kernel_rfl) (by kernel_rfl) (by kernel_rfl) (fun _ _ _ h => h) (Or.inl ⟨by rfl, ?_⟩) (by with_reducible assumption) ?_
  rotate_left
  · intro w hSw; (try dsimp only at hSw); (try go_split_ands); go_simp; (try with_reducible rfl)
  (try simp only [Act.put, List.getElem_toArray, List.getElem_cons_succ, List.getElem_cons_zero, List.setIfInBounds_toArray, List.set_cons_zero, List.set_cons_succ])
  refine wpAnyH_take (i := 1) (v := .agg (bv Dg).toArray) rfl (by kernel_rfl) (by kernel_rfl) (by kernel_rfl) (fun _ _ _ h => h) (yieldsIf_load_mid (by rfl) 23 (.tmp 16) (by rfl) w9.heap.size 0 (by rfl) (bv Dg) _ (fun w hS => range_blk hS) Tryd.underlying23 rfl (by rw [bv_length, HDL.out.1]; kernel_rfl)) (by with_reducible assumption) ?_
  (try simp only [Act.put, List.getElem_toArray, List.getElem_cons_succ, List.getElem_cons_zero, List.setIfInBounds_toArray, List.set_cons_zero, List.set_cons_succ])
  refine wpAnyH_take (i := 2) (v := ?_) rfl (by kernel_rfl) (by kernel_rfl) (by kernel_rfl) (fun _ _ _ h => h) (Or.inl ⟨by rfl, ?_⟩) (by with_reducible assumption) ?_
  rotate_left
  · intro w hSw; (try dsimp only at hSw); (try go_split_ands); go_simp; (try with_reducible rfl)
  (try simp only [Act.put, List.getElem_toArray, List.getElem_cons_succ, List.getElem_cons_zero, List.setIfInBounds_toArray, List.set_cons_zero, List.set_cons_succ])
  refine wpAnyH_ready (rs := [3]) (by kernel_rfl) (by simp) ?_
  refine AllReadyH.cons rfl (fun K9 hK9 => ?_) AllReadyH.nil
  rw [if_pos (by rfl)]
  simp only [List.getElem_toArray, List.getElem_cons_succ, List.getElem_cons_zero]
  refine wp_store_mid 23 (.tmp 5) (.tmp 135) (by rfl) sm 0 (bv Dg).toArray (by rfl) (by rfl) (by rw [List.size_toArray, bv_length, HDL.out.1]; exact HTH.out) (by rw [List.size_toArray, bv_length, HDL.out.1]; kernel_rfl) (all_oneCell_toArray (bv_one _)) ?_
  refine hK9.out _ _ hsb' (fun hHeld => ?_)
  clear hK9 K9 hsb'
  (try simp only [Act.put, List.getElem_toArray, List.getElem_cons_succ, List.getElem_cons_zero, List.setIfInBounds_toArray, List.set_cons_zero, List.set_cons_succ])
  refine wpAnyH_done (by kernel_rfl) ?_ _
  clear hHeld
  change Exit.then _ _ _ _ (wB.drew.setCells sm 0 (bv Dg))
  generalize wB.drew.setCells sm 0 (bv Dg) = wz at HL ⊢
  go_wp2_with fail
  refine sec_ret HDL.out.1 HL.out.1 (v := .slice (some ⟨pg, 0, none⟩) pn pc) rfl rfl rfl ⟨_, by rw [HDL.out.2], HL.out.2.2, HL.out.2.1⟩
end Go.Proofs.YtkabkehfckbhcaaDoor
