/-
  ring: record in plain lists; what its loop keeps.
-/
import Derived.Test.YtkabkehfckbhcaaDoorZRgAdd
import Derived.Test.YtkabkehfckbhcaaDoorMgG
namespace Go.Proofs.YtkabkehfckbhcaaDoor
set_option linter.unusedVariables false
set_option linter.unusedSimpArgs false
open Go.RowKit

/-- Some cells of an element stored. -/
theorem RowF.part {α : Type} {f : α → List Value} {c : Nat} {w : World} {base : Nat} {t : TypeId} {v : Value} {l : List α} (h : RowF w base t c f v l) {k o : Nat} {x y : α} (hy : l[k]? = some y) (vs : List Value) (hx : (f x).length = c) (ho : o + vs.length ≤ c)
    (hp : ∀ j, j < c → (f x)[j]? = if o ≤ j ∧ j < o + vs.length then vs[j - o]? else (f y)[j]?) {g : Nat} (hg : v.ownBlock = some g) : RowF (w.setCells g (k * c + o) vs) base t c f v (l.set k x) := by
  have hk : k < l.length := (List.getElem?_eq_some_iff.1 hy).1
  obtain ⟨g', cap, cur, rfl, hb, hh, hn, hm, hs, ht⟩ := h.block (by intro h0; rw [h0] at hk; simp at hk)
  obtain rfl : g' = g := by simpa [Value.ownBlock] using hg
  obtain ⟨_, _, h3⟩ := heap_setCells g' vs (k * c + o) w
  obtain ⟨cur', h4, h5, h6⟩ := h3 _ _ hh
  have hfs : ∀ y ∈ l.set k x, (f y).length = c := fun y hy => by
    rcases List.mem_or_eq_of_mem_set hy with h0 | rfl
    · exact h.1 y h0
    · exact hx
  have hle : (k + 1) * c ≤ l.length * c := Nat.mul_le_mul_right c hk
  have hle2 : l.length * c ≤ cap * c := Nat.mul_le_mul_right c hn
  rw [Nat.add_mul] at hle
  by_cases hc0 : c = 0
  · refine ⟨hfs, by rw [flat_length hfs], .inr ⟨g', cap, cur', by rw [List.length_set], hb, h4, by rw [List.length_set]; exact hn, hm, by omega, ?_⟩⟩
    have e1 : (l.set k x).flatMap f = [] := List.eq_nil_of_length_eq_zero (by rw [flat_length hfs, hc0]; simp)
    rw [e1, hc0]; simp
  have hc : 0 < c := by omega
  refine ⟨hfs, by rw [flat_length hfs], .inr ⟨g', cap, cur', by rw [List.length_set], hb, h4, by rw [List.length_set]; exact hn, hm, by omega, ?_⟩⟩
  apply flat_ext hfs hc (by simp only [List.length_take, Array.length_toList, List.length_set]; omega)
  intro i j z hz hj
  have hil : i < l.length := by
    have := (List.getElem?_eq_some_iff.1 hz).1
    rwa [List.length_set] at this
  have hli : (i + 1) * c ≤ l.length * c := Nat.mul_le_mul_right c hil
  rw [Nat.add_mul] at hli
  rw [List.getElem?_take, List.length_set, if_pos (by omega), Array.getElem?_toList, h6]
  rw [List.getElem?_set] at hz
  by_cases hik : k = i
  · subst hik
    rw [if_pos rfl, if_pos hk] at hz
    obtain rfl := Option.some.inj hz
    rw [hp j hj]
    by_cases hr : o ≤ j ∧ j < o + vs.length
    · rw [if_pos (by omega), if_pos hr, show k * c + j - (k * c + o) = j - o by omega]
    · rw [if_neg (by omega), if_neg hr, ← flat_get h.1 hy hj, ← ht, List.getElem?_take, if_pos (by omega), Array.getElem?_toList]
  · rw [if_neg hik] at hz
    have hne : ¬ (k * c + o ≤ i * c + j ∧ i * c + j < k * c + o + vs.length) := by
      intro hh
      rcases Nat.lt_or_gt_of_ne hik with h0 | h0
      · have : (k + 1) * c ≤ i * c := Nat.mul_le_mul_right c h0
        rw [Nat.add_mul] at this; omega
      · have : (i + 1) * c ≤ k * c := Nat.mul_le_mul_right c h0
        rw [Nat.add_mul] at this; omega
    rw [if_neg (fun hh => hne hh.2), ← flat_get h.1 hz hj, ← ht, List.getElem?_take, if_pos (by omega), Array.getElem?_toList]

/-- The changes, as far as they are gathered: a numbers, b pages. -/
def recL (s : RS) (d : DK) (k a b : Nat) : List CH := (List.range k).map fun c => (if c < a then (chAt s d k c).1 else 0, if c < b then (chAt s d k c).2 else zeroPg)
theorem recL_length (s : RS) (d : DK) (k a b : Nat) : (recL s d k a b).length = k := by simp [recL]
theorem recL_get (s : RS) (d : DK) (k a b c : Nat) (h : c < k) : (recL s d k a b)[c]? = some (if c < a then (chAt s d k c).1 else 0, if c < b then (chAt s d k c).2 else zeroPg) := by
  simp [recL, List.getElem?_range, h]
theorem recL_at (s : RS) (d : DK) (k a b : Nat) (h : a < k) : (recL s d k a b).set a ((chAt s d k a).1, if a < b then (chAt s d k a).2 else zeroPg) = recL s d k (a + 1) b := by
  apply List.ext_getElem?
  intro i
  rw [List.getElem?_set, recL_length]
  by_cases hi : i < k
  · rw [recL_get _ _ _ _ _ _ hi, recL_get _ _ _ _ _ _ hi]
    by_cases e : a = i
    · subst e; simp [h]
    · rw [if_neg e]
      by_cases h1 : i < a
      · simp only [h1, if_true, show i < a + 1 by omega]
      · simp only [h1, if_false, show ¬ i < a + 1 by omega]
  · rw [if_neg (by omega), List.getElem?_eq_none (by rw [recL_length]; omega), List.getElem?_eq_none (by rw [recL_length]; omega)]
theorem recL_what (s : RS) (d : DK) (k a b : Nat) (h : b < k) : (recL s d k a b).set b (if b < a then (chAt s d k b).1 else 0, (chAt s d k b).2) = recL s d k a (b + 1) := by
  apply List.ext_getElem?
  intro i
  rw [List.getElem?_set, recL_length]
  by_cases hi : i < k
  · rw [recL_get _ _ _ _ _ _ hi, recL_get _ _ _ _ _ _ hi]
    by_cases e : b = i
    · subst e; simp [h]
    · rw [if_neg e]
      by_cases h1 : i < b
      · simp only [h1, if_true, show i < b + 1 by omega]
      · simp only [h1, if_false, show ¬ i < b + 1 by omega]
  · rw [if_neg (by omega), List.getElem?_eq_none (by rw [recL_length]; omega), List.getElem?_eq_none (by rw [recL_length]; omega)]
theorem recL_over (s : RS) (d : DK) (k a a' b : Nat) (h : k ≤ a) (h' : k ≤ a') : recL s d k a b = recL s d k a' b := by
  unfold recL
  apply List.map_congr_left
  intro c hc
  have := List.mem_range.1 hc
  simp only [show c < a by omega, show c < a' by omega, if_true]
theorem recL_full (s : RS) (d : DK) (k a b : Nat) (h : k ≤ a) (h' : k ≤ b) : recL s d k a b = (List.range k).map (chAt s d k) := by
  unfold recL
  apply List.map_congr_left
  intro c hc
  have := List.mem_range.1 hc
  simp only [show c < a by omega, show c < b by omega, if_true]
theorem recL_none (s : RS) (d : DK) (k : Nat) : recL s d k 0 0 = List.replicate k (0, zeroPg) := by
  apply List.ext_getElem?
  intro i
  by_cases hi : i < k
  · rw [recL_get _ _ _ _ _ _ hi, List.getElem?_replicate, if_pos hi]; rfl
  · rw [List.getElem?_eq_none (by rw [recL_length]; omega), List.getElem?_eq_none (by rw [List.length_replicate]; omega)]
/-- What is summed, behind j sectors. -/
def recT (s : RS) (d : DK) (p : List Nat) (j : Nat) : List Nat := s.last ++ p.take 10 ++ ((List.range j).map fun i => s.sector d (i + 1)).flatten
theorem recT_zero (s : RS) (d : DK) (p : List Nat) : recT s d p 0 = s.last ++ p.take 10 := by simp [recT]
theorem recT_succ (s : RS) (d : DK) (p : List Nat) (j : Nat) : recT s d p (j + 1) = recT s d p j ++ s.sector d (j + 1) := by
  unfold recT
  rw [List.range_succ, List.map_append, List.flatten_append, ← List.append_assoc]
  simp
theorem look_no {s : RS} {d : DK} {p : List Nat} {k T : Nat} (hp : p = s.sector d 0) (hk : k = p.getD 9 0) (hT : T = takes k) (h : ¬ (p.getD 0 0 = 84 ∧ leN ((p.drop 1).take 8) = s.num ∧ 1 ≤ k ∧ k ≤ 60 ∧ T ≤ s.n - s.used)) : (s.look d).1 = [] := by
  subst hp hk hT
  unfold RS.look
  simp only
  rw [if_neg (fun e => h ⟨e.1, e.2.1, e.2.2.1, e.2.2.2.1, e.2.2.2.2.1⟩)]
theorem look_of {s : RS} {d : DK} {p : List Nat} {k T : Nat} (hp : p = s.sector d 0) (hk : k = p.getD 9 0) (hT : T = takes k) (h : p.getD 0 0 = 84 ∧ leN ((p.drop 1).take 8) = s.num ∧ 1 ≤ k ∧ k ≤ 60 ∧ T ≤ s.n - s.used) : s.look d = if digest (recT s d p (T - 1)) = (p.drop 10).take 32 then ((List.range k).map (chAt s d k), digest (recT s d p (T - 1))) else ([], []) := by
  subst hp hk hT
  unfold RS.look recT
  simp only
  by_cases e : digest (s.last ++ List.take 10 (s.sector d 0) ++ (List.map (fun i => s.sector d (i + 1)) (List.range (takes ((s.sector d 0).getD 9 0) - 1))).flatten) = List.take 32 (List.drop 10 (s.sector d 0))
  · rw [if_pos e, if_pos ⟨h.1, h.2.1, h.2.2.1, h.2.2.2.1, h.2.2.2.2, e⟩]
  · rw [if_neg e, if_neg (fun x => e x.2.2.2.2.2)]
/-- What record's loop keeps: the hash, the row of changes. -/
structure RecR (w3 wr : World) (hb lb : Nat) (v : Value) (k : Nat) (m : List Nat) (L : List CH) : Prop where
  sum : IsSum wr hb hb v m
  row : RowF wr hb 79 65 chF (.slice (some ⟨lb, 0, none⟩) k k) L
  bel : Below hb w3 wr
  h0 : w3.heap.size = hb
  ne1 : lb ≠ hb
  ne2 : v.ownBlock ≠ some lb
section
variable {w3 wr w' : World} {hb lb : Nat} {v : Value} {k : Nat} {m : List Nat} {L : List CH}
theorem RecR.hbw (h : RecR w3 wr hb lb v k m L) : hb ≤ wr.heap.size := by rw [← h.h0]; exact h.bel.size
theorem RecR.lt (h : RecR w3 wr hb lb v k m L) : lb < wr.heap.size := h.row.lt lb rfl
theorem RecR.below (h : RecR w3 wr hb lb v k m L) (hw : Below wr.heap.size wr w') : RecR w3 w' hb lb v k m L :=
  ⟨h.sum.below hw, h.row.below hw, h.bel.trans (hw.mono h.hbw), h.h0, h.ne1, h.ne2⟩
theorem RecR.wrote (h : RecR w3 wr hb lb v k m L) {v' : Value} {x : List Nat} (h1 : IsSum w' hb hb v' (m ++ x)) (h2 : But (HashS hb v) wr w') (h3 : ∀ j, v'.ownBlock = some j → v.ownBlock = some j ∨ wr.heap.size ≤ j) : RecR w3 w' hb lb v' k (m ++ x) L := by
  refine ⟨h1, h.row.but h2 (fun j hj => ?_), h.bel.trans (h2.below h.hbw (fun j hj => ?_)), h.h0, h.ne1, fun e => ?_⟩
  · have e : j = lb := by simpa [Value.ownBlock] using hj.symm
    subst e
    rintro (e | e)
    · exact h.ne1 e
    · exact h.ne2 e
  · rcases hj with rfl | hj
    · exact Nat.le_refl _
    · exact h.sum.own.base_le j hj
  · rcases h3 lb e with e | e
    · exact h.ne2 e
    · have := h.lt; omega
theorem RecR.sumBut (h : RecR w3 wr hb lb v k m L) (hw : But (fun j => j = lb) wr w') : IsSum w' hb hb v m :=
  h.sum.but hw (fun e => h.ne1 e.symm) (fun j hj e => h.ne2 (by rw [hj, e]))
theorem chF_get (c : CH) (j : Nat) : (chF c)[j]? = if j = 0 then some (.int .i64 c.1) else (bv c.2)[j - 1]? := by
  unfold chF
  rcases j with _ | j
  · rfl
  · rw [if_neg (by omega)]; rfl
theorem RecR.setAt (h : RecR w3 wr hb lb v k m L) {c : Nat} {y : CH} (hy : L[c]? = some y) (z : Int) : RecR w3 (wr.setCell ⟨lb, c * 65, none⟩ (.int .i64 z)) hb lb v k m (L.set c (z, y.2)) := by
  have hyl : y.2.length = 64 := by
    have := h.row.1 y (List.mem_of_getElem? hy)
    rw [show (chF y).length = y.2.length + 1 by simp [chF, bv_length]] at this
    omega
  have hrow := h.row.part (x := (z, y.2)) hy [.int .i64 z] (o := 0) (chF_length _ hyl) (by simp) (fun j hj => by
    rw [chF_get, chF_get]
    by_cases e : j = 0
    · subst e; simp
    · have c : ¬ (0 ≤ j ∧ j < 0 + [Value.int .i64 z].length) := by simp; omega
      rw [if_neg c, if_neg e, if_neg e]) (g := lb) rfl
  have hbt : But (fun j => j = lb) wr (wr.setCell ⟨lb, c * 65, none⟩ (.int .i64 z)) := (But.refl (fun j => j = lb) wr).setCell (p := ⟨lb, c * 65, none⟩) rfl _
  exact ⟨h.sumBut hbt, hrow, h.bel.trans (hbt.below h.hbw (fun j hj => by rw [hj]; exact h.row.base_le lb rfl)), h.h0, h.ne1, h.ne2⟩
theorem RecR.setWhat (h : RecR w3 wr hb lb v k m L) {c : Nat} {y : CH} (hy : L[c]? = some y) (p : List Nat) (hp : p.length = 64) : RecR w3 (wr.setCells lb (c * 65 + 1) (bv p)) hb lb v k m (L.set c (y.1, p)) := by
  have hyl : y.2.length = 64 := by
    have := h.row.1 y (List.mem_of_getElem? hy)
    rw [show (chF y).length = y.2.length + 1 by simp [chF, bv_length]] at this
    omega
  have hrow := h.row.part (x := (y.1, p)) hy (bv p) (o := 1) (chF_length _ hp) (by rw [bv_length, hp]; decide) (fun j hj => by
    rw [chF_get, chF_get, bv_length, hp]
    by_cases e : j = 0
    · subst e; simp
    · have c : 1 ≤ j ∧ j < 1 + 64 := by omega
      rw [if_pos c, if_neg e]) (g := lb) rfl
  have hbt : But (fun j => j = lb) wr (wr.setCells lb (c * 65 + 1) (bv p)) := (But.refl (fun j => j = lb) wr).setCells (g := lb) rfl _ _
  exact ⟨h.sumBut hbt, hrow, h.bel.trans (hbt.below h.hbw (fun j hj => by rw [hj]; exact h.row.base_le lb rfl)), h.h0, h.ne1, h.ne2⟩
theorem RecR.there (h : RecR w3 wr hb lb v k m L) {c : Nat} {y : CH} (hy : L[c]? = some y) : wr.rangeAt lb (c * 65) (chF y) ∧ wr.there lb (c * 65) 65 := by
  obtain ⟨g, cap, e, h1, h2⟩ := h.row.range (by decide) hy
  injection e with e1 _ _
  injection e1 with e1
  injection e1 with e1
  subst e1
  exact ⟨h1, h2⟩
theorem there_part {w : World} {b o n i m : Nat} (h : w.there b o n) (hi : i + m ≤ n) : w.there b (o + i) m := fun j hj => by
  have := h (i + j) (by omega)
  rw [Nat.add_assoc]
  exact this
end
theorem chAt_fst (s : RS) (d : DK) (k j jj : Nat) (h : jj < 16) : (chAt s d k (16 * j + jj)).1 = ((leN (((s.sector d (j + 1)).drop (4 * jj)).take 4) : Nat) : Int) := by
  unfold chAt
  rw [show (16 * j + jj) / 16 = j by omega, show (16 * j + jj) % 16 = jj by omega, Nat.add_comm 1 j]
theorem chAt_snd (s : RS) (d : DK) (k c : Nat) : (chAt s d k c).2 = s.sector d ((k + 15) / 16 + c + 1) := by
  unfold chAt
  rw [show 1 + (k + 15) / 16 + c = (k + 15) / 16 + c + 1 by omega]
theorem ch_typ : ∃ it z, Tryd.prog.info? 79 = some it ∧ it.zero = some z ∧ it.size = 65 ∧ it.bytes = 72 ∧ z.cells = (chF (0, zeroPg)).toArray := by
  have h : (Tryd.prog.info? 79).bind (fun it => it.zero.map fun z => (it.size, it.bytes, z.cells)) = some (65, 72, (chF (0, zeroPg)).toArray) := by kernel_rfl
  obtain ⟨it, h1, h⟩ := Option.bind_eq_some_iff.1 h
  obtain ⟨z, h2, h3⟩ := Option.map_eq_some_iff.1 h
  injection h3 with h3 h4
  injection h4 with h4 h5
  exact ⟨it, z, h1, h2, h3, h4, h5⟩
/-- Two digests compared. -/
theorem run_eql_dg (p q : List Nat) (hp : p.length = 32) (hq : q.length = 32) (w : World) : (Op.equal 23 (.agg (nv .u8 p)) (.agg (nv .u8 q))).run Tryd.prog w = .ok (p == q) w := by
  have h := run_equalIn_array (P := Tryd.prog) (t := 23) (e := 5) (n := 32) (k := .u8) 9998 (by kernel_rfl) (by kernel_rfl) Tryd.sizeOf5
    (p.map fun (c : Nat) => (c : Int)) (q.map fun (c : Nat) => (c : Int)) (by rw [List.length_map, hp]) (by rw [List.length_map, hq]) w
  rw [nv_inj .u8, List.map_map, List.map_map] at h
  exact h
theorem binOp_eql_dg (p q : List Nat) : binOp .eql 23 (.agg (nv .u8 p)) (.agg (nv .u8 q)) = (do pure (.bool (← Op.equal 23 (.agg (nv .u8 p)) (.agg (nv .u8 q))))) := rfl
theorem binOp_neq_dg (p q : List Nat) : binOp .neq 23 (.agg (nv .u8 p)) (.agg (nv .u8 q)) = (do pure (.bool (!(← Op.equal 23 (.agg (nv .u8 p)) (.agg (nv .u8 q)))))) := rfl
theorem eqGuard_dg (op : BinOp) (x y : Operand) (p q : List Nat) (w : World) : (eqGuard op 23 x y (.agg (nv .u8 p)) (.agg (nv .u8 q))).run Tryd.prog w = .ok () w := run_eqGuard_agg _ op _ x y _ _ (by kernel_rfl)
set_option maxRecDepth 100000 in
theorem wp_neq_dg {o : Oper} {a : Act} {w : World} {K : Act → World → Prop} {Q : Exit → Act → World → Prop} (x y : Operand) (ho : o.op = .binOp .neq 23 x y 23) (p q : List Nat) (hp : p.length = 32) (hq : q.length = 32) (hx : a.eval x = .agg (nv .u8 p)) (hy : a.eval y = .agg (nv .u8 q))
    (h : K (a.put o.dst (.bool (!(p == q)))) w) : o.wp Tryd.prog a w K Q := by
  unfold Oper.wp execOp
  simp only [ho, hx, hy, binOp_neq_dg, Sem.run_bind, Sem.run_pure, eqGuard_dg, run_eql_dg p q hp hq w, Result.andThen_ok]
  exact h
theorem results_four {P : Program} {fn : Func} {p q r u : Tmp} {ty : TypeId} (h : fn.results = #[.tmp q, .cell p ty, .tmp r, .tmp u]) (tmps : Array Value) (w : World) (g : Nat) (t : TypeId) (cs : Array Value) (fr : Nat × Nat) (d : TypeDesc)
    (hp : tmps.getD p undef = .pointer (some ⟨g, 0, none⟩)) (hg : w.heap[g]? = some (.cells cs t fr))
    (hu : P.underlying ty = some d) (hd : (match d with | .struct _ | .array _ _ => true | _ => false) = true) (hi : (P.info? ty).map (·.size) = some cs.size) :
    (results fn tmps).run P w = .ok (.tuple #[tmps.getD q undef, .agg cs, tmps.getD r undef, tmps.getD u undef]) w := by
  have hp' : tmps[p]?.getD undef = .pointer (some ⟨g, 0, none⟩) := by simpa using hp
  simp [results, h, hp', asAddr, run_loadVar_row w g t ty cs fr d hg hu hd hi]
theorem record_ret {w2 : World} {rc : Nat} {m : RS} (hm : m.last.length = 32) {a : Act} {v x y : Value} {R : Ending → World → Prop} (hk : IsBlk w2 rc (markL m).toArray 25)
    (h2 : a.tmps.getD 2 undef = v) (h3 : a.tmps.getD 3 undef = .pointer (some ⟨rc, 0, none⟩)) (h4 : a.tmps.getD 4 undef = x) (h5 : a.tmps.getD 5 undef = y) (hd : a.defers = [])
    (hR : R (.returned (.tuple #[v, .agg (markL m).toArray, x, y])) w2) : bodyPost Tryd.prog Tryd.f39 R .ret a w2 := by
  refine bodyPost_ret (v := .tuple #[v, .agg (markL m).toArray, x, y]) ?_ hd hR
  subst h2 h4 h5
  exact results_four Tryd.results39 _ _ rc 25 (markL m).toArray (0, 0) _ h3 hk Tryd.underlying25 rfl (mark_info hm)
end Go.Proofs.YtkabkehfckbhcaaDoor
