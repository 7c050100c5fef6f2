/-
  pdu: Feed, and append of a string: where the row lies then.
-/
import Derived.Test.YtaehaclmagnncaaPduRd
import Derived.Lib.AppendStr
namespace Go.Proofs.Ytaehaclmagnncaa
set_option linter.unusedVariables false
set_option linter.unusedSimpArgs false
open Go.RowKit Go.Lib
attribute [local go_sem ↓] Go.wp_at_zero Go.wp_at_succ

theorem run_append_mv {P : Program} (w : World) (base : Nat) (t u ty e : TypeId) (i : TypeInfo) (ht : P.underlying t = some (.slice e)) (hu : P.underlying u = some .string) (hi : P.info? e = some i) (hz : i.zero = some (.int .u8 0))
    (hsize : i.size = 1) (hby : i.bytes = 1)
    (v : Value) (n : Nat) (xs : List Value) (hown : w.ownsRow base e 1 v n xs) (s : ByteArray)
    (h63 : n + s.size ≤ maxLen) (hbytes : n + s.size ≤ 140737488355328) (hbase : base ≤ w.heap.size) :
    ∃ v' w', (Builtin.append_ #[t, u] ty #[v, .string s]).run P w = .ok v' w' ∧ w'.ownsRow base e 1 v' (n + s.size) (xs ++ strCells s) ∧ w.grownBy w' v.ownBlock ∧ (v'.ownBlock = v.ownBlock ∨ v'.ownBlock = some w.heap.size) := by
  obtain ⟨v', w', hr1, h2, h3, h4⟩ := run_append_own_string (P := P) w base t u ty e i ht hu hi hz hsize hby v n xs hown s h63 hbytes hbase
  refine ⟨v', w', hr1, h2, h3, ?_⟩
  have hsmall : n + s.size ≤ 9223372036854775807 := by simp only [maxLen] at h63; omega
  have hxl : xs.length = n := by simpa using hown.1
  rcases hown.2 with ⟨rfl, rfl⟩ | ⟨g, cap, cur, rfl, hbg, hg, hnc, hcm, hcs, htake⟩
  · have hx : xs = [] := List.eq_nil_of_length_eq_zero hxl
    subst hx
    by_cases hm : s.size = 0
    · left
      rw [h4.2 ⟨rfl, hm⟩]
    · have hr := run_append_nil_string (P := P) w t u ty e i (.int .u8 0) ht hu hi hz s (by omega) (by omega) (by rw [hby]; omega)
      rw [hr] at hr1
      injection hr1 with e1 e2
      right
      rw [← e1]
      rfl
  · by_cases hroom : n + s.size ≤ cap
    · have hcs' : cur.size = cap := by simpa using hcs
      have hr := run_append_room_string (P := P) w t u ty e i ht hu hi hsize g n cap cur hg s hroom (by omega)
      rw [hr] at hr1
      injection hr1 with e1 e2
      left
      rw [← e1]
      rfl
    · have holds : ∀ j u, xs[j]? = some u → w.cell? ((⟨g, 0, none⟩ : Addr).add j) = some u := hown.cells (g := g) rfl
      have hr := run_append_grow_string (P := P) w t u ty e i (.int .u8 0) ht hu hi hz ⟨g, 0, none⟩ n cap xs (by rw [hsize]; simpa using hxl) holds s (by omega) (by omega) (by rw [hby]; exact growslice_fits (by omega) (by omega))
      rw [hr] at hr1
      injection hr1 with e1 e2
      right
      rw [← e1]
      rfl
theorem wpList_appM {ops : Array Oper} {rest : List Oper} {o : Oper} {a : Act} {w : World} {Q : Exit → Act → World → Prop} (hgd : o.guard = none) (s x : Operand)
    (ho : o.op = .call { callee := .builtin .append, args := #[s, x], argTypes := #[23, 9] })
    (base : Nat) (v : Value) (l : List Nat) (hs : a.eval s = v) (hown : Own w base v l) (t : ByteArray) (hx : a.eval x = .string t)
    (hlen : l.length + t.size ≤ 140737488355328) (hbase : base ≤ w.heap.size)
    (h : ∀ v' w', Own w' base v' (l ++ byB t) → Below base w w' → w.grownBy w' v.ownBlock → (v'.ownBlock = v.ownBlock ∨ v'.ownBlock = some w.heap.size) → wpList Try.prog ops Q rest (a.put o.dst v') w') :
    wpList Try.prog ops Q (o :: rest) a w := by
  obtain ⟨i0, hi, hz0, hz1, hz2⟩ := info_parts Try.info8
  refine wpList_plain hgd fun K hK => ?_
  obtain ⟨v', w', hr, h2, h3, h4⟩ := run_append_mv (P := Try.prog) w base 23 9 o.type 5 i0 Try.underlying23 Try.underlying9 hi hz0 hz1 hz2 v l.length (bv l) hown.1 t (by unfold maxLen; omega) hlen hbase
  unfold Oper.wp execOp
  simp only [ho, resolve, invoke, builtin, Sem.run_bind, Sem.run_pure, Result.andThen_ok, List.map_toArray, List.map_cons, List.map_nil, hs, hx, hr]
  refine hK _ _ (h v' w' ⟨by rw [bv_append, List.length_append, byB_length]; rw [strCells_bv] at h2; exact h2, ?_⟩ ((Below.refl base w).grown h3 hbase hown.base_le) h3 h4)
  intro c hc
  rcases List.mem_append.1 hc with hc | hc
  · exact hown.2 c hc
  · exact byB_lt t c hc
set_option maxHeartbeats 1000000 in
theorem feed_mv {w : World} {B rb : Nat} {v : Value} {tp : Option Addr} {l : List Nat} (h : IsRd w B rb v tp l false) (s : ByteArray) (hs : l.length + s.size ≤ 140737488355328) (hB : B ≤ w.heap.size) :
    Calls Try.prog 15 #[.pointer (some ⟨rb, 0, none⟩), .string s] w fun e w' => e = .returned (.tuple #[]) ∧ ∃ v', IsRd w' B rb v' tp (l ++ byB s) false ∧ But (RdS rb v) w w' ∧ (v'.ownBlock = v.ownBlock ∨ v'.ownBlock = some w.heap.size) := by
  have c0 := h.blk.cell 0 (v := v) rfl
  have c1 := h.blk.cell 1 (v := .bool false) rfl
  have fz := h.blk.fz
  have H := Lib.hid h
  have hne := h.ne
  have HNE := Lib.hid hne
  clear h hne
  go_enter Try.func15, Try.ntmps15
  go_wp2_with (at_builtin; refine wpList_appM rfl (.tmp 17) (.tmp 18) rfl B v l rfl H.out.own s rfl hs hB ?_; intro v' w1 ho hb hg hv; obtain ⟨va, vn, vc, rfl, hvn⟩ := ho.slice; have k1 := H.out.blk.grown hg HNE.out; have d0 := k1.cell 0 (v := v) rfl; have fz1 := k1.fz; have HG := Lib.hid (And.intro ho (And.intro hb (And.intro hg k1))); have HV := Lib.hid hv; clear ho hb hg k1 hv)
  go_end0
  have hne' := HG.out.1.ne_blk HG.out.2.2.2 (by decide)
  have hbut : But (RdS rb v) w (w1.setCell ⟨rb, 0, none⟩ (.slice va vn vc)) := ((But.refl _ w).grown HG.out.2.2.1 (fun k hk => .inr hk)).setCell (p := ⟨rb, 0, none⟩) (.inl rfl) _
  refine ⟨rfl, .slice va vn vc, ⟨?_, ?_, fun a ha => ?_, H.out.hB⟩, hbut, HV.out⟩
  · have := HG.out.2.2.2.set 0 (.slice va vn vc)
    exact this
  · exact ((But.refl (fun k => k = rb) w1).setCell (p := ⟨rb, 0, none⟩) rfl (.slice va vn vc)).own HG.out.1 (fun k hk e => hne' (by rw [hk, e]))
  · obtain ⟨tb, rfl, ht⟩ := H.out.tab a ha
    refine ⟨tb, rfl, hbut.blk ht ?_⟩
    rintro (e | e)
    · exact blk_ne ht H.out.blk (by decide) e
    · exact H.out.own.ne_blk ht (by decide) e
end Go.Proofs.Ytaehaclmagnncaa
