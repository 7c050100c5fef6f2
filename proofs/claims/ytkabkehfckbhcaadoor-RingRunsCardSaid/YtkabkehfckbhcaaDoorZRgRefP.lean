/-
  ring: the reference's next in plain lists; what its loop keeps.
-/
import Derived.Test.YtkabkehfckbhcaaDoorZRgRef1
import Derived.Test.YtkabkehfckbhcaaDoorZRgRows
import Derived.Test.YtkabkehfckbhcaaDoorZShaRef
import Derived.Test.YtkabkehfckbhcaaDoorZStr
namespace Go.Proofs.YtkabkehfckbhcaaDoor
set_option linter.unusedVariables false
set_option linter.unusedSimpArgs false
open Go.RowKit

theorem leB_cons (n x : Nat) : leB (n + 1) x = (x % 256) :: leB n (x / 256) := by
  unfold leB
  rw [List.range_succ_eq_map, List.map_cons, List.map_map]
  congr 1
  · simp
  · apply List.map_congr_left
    intro i _
    show x / 2 ^ (8 * (i + 1)) % 256 = x / 256 / 2 ^ (8 * i) % 256
    rw [Nat.div_div_eq_div_mul, show 8 * (i + 1) = 8 + 8 * i by omega, Nat.pow_add]
theorem leB_leN : ∀ (l : List Nat), (∀ c ∈ l, c < 256) → leB l.length (leN l) = l
  | [], _ => rfl
  | c :: r, h => by
    have hc := h c (by simp)
    have ih := leB_leN r (fun y hy => h y (List.mem_cons_of_mem _ hy))
    rw [List.length_cons, leB_cons, leN, show (c + 256 * leN r) % 256 = c by omega, show (c + 256 * leN r) / 256 = leN r by omega, ih]
/-- The test of a head, as far as it came. -/
def okB (p : List Nat) (num i : Nat) : Bool := decide (p.getD 0 0 = 84) && decide ((p.drop 1).take i = leB i num)
theorem okB_zero (p : List Nat) (num : Nat) : okB p num 0 = decide (p.getD 0 0 = 84) := by simp [okB, leB]
theorem okB_succ {p : List Nat} (hp : p.length = 64) (num i : Nat) (hi : i < 8) : okB p num (i + 1) = (okB p num i && decide (p.getD (1 + i) 0 = num / 2 ^ (8 * i) % 256)) := by
  have hs : 1 + i < p.length := by omega
  have e : (p.drop 1)[i]? = some (p.getD (1 + i) 0) := by
    rw [List.getElem?_drop, List.getElem?_eq_getElem hs]
    simp [List.getD, List.getElem?_eq_getElem hs]
  have hl : ((p.drop 1).take i).length = (leB i num).length := by rw [leB_length, List.length_take, List.length_drop]; omega
  unfold okB
  rw [leB_succ, List.take_add_one, e, Bool.and_assoc]
  congr 1
  rw [← Bool.decide_and]
  apply decide_eq_decide.2
  constructor
  · intro h
    have := List.append_inj h hl
    exact ⟨this.1, by simpa using this.2⟩
  · rintro ⟨h1, h2⟩
    rw [h1, h2]
    rfl
theorem okB_end {p : List Nat} (hp : p.length = 64) (hb : ∀ c ∈ p, c < 256) {num : Nat} (hn : num < 18446744073709551616) : okB p num 8 = decide (p.getD 0 0 = 84 ∧ leN ((p.drop 1).take 8) = num) := by
  unfold okB
  rw [← Bool.decide_and]
  apply decide_eq_decide.2
  have hl : ((p.drop 1).take 8).length = 8 := by rw [List.length_take, List.length_drop, hp]; rfl
  have h1 := leB_leN ((p.drop 1).take 8) (fun c hc => hb c (List.mem_of_mem_drop (List.mem_of_mem_take hc)))
  rw [hl] at h1
  constructor
  · rintro ⟨a, b⟩
    exact ⟨a, by rw [b, leN_num num hn]⟩
  · rintro ⟨a, b⟩
    exact ⟨a, by rw [← b, h1]⟩
theorem Own.isB {w : World} {base : Nat} {a : Option Addr} {n c : Nat} {l : List Nat} (h : Own w base (.slice a n c) l) : IsBytes w a l := by
  obtain ⟨a', cap, e, hb, _⟩ := h.form
  obtain ⟨rfl, -, -⟩ := slice_inj e
  exact hb
/-- What the loop keeps: all bytes, the row of changes. -/
structure RecQ (w3 wr : World) (hb lb : Nat) (v : Value) (k : Nat) (m : List Nat) (L : List CH) : Prop where
  own : Own wr hb v m
  row : RowF wr hb 93 65 chF (.slice (some ⟨lb, 0, none⟩) k k) L
  bel : Below hb w3 wr
  h0 : w3.heap.size = hb
section
variable {w3 wr w' : World} {hb lb : Nat} {v : Value} {k : Nat} {m : List Nat} {L : List CH}
theorem RecQ.hbw (h : RecQ w3 wr hb lb v k m L) : hb ≤ wr.heap.size := by rw [← h.h0]; exact h.bel.size
theorem RecQ.lt (h : RecQ w3 wr hb lb v k m L) : lb < wr.heap.size := h.row.lt lb rfl
theorem RecQ.ne (h : RecQ w3 wr hb lb v k m L) : v.ownBlock ≠ some lb := by
  obtain ⟨cur, hc⟩ := h.row.tag lb rfl
  exact h.own.ne_blk (b := lb) (cs := cur) (t := 93) hc (by decide)
theorem RecQ.below (h : RecQ w3 wr hb lb v k m L) (hw : Below wr.heap.size wr w') : RecQ w3 w' hb lb v k m L :=
  ⟨(But.of_below (S := fun _ => False) hw (Nat.le_refl _)).own h.own (fun _ _ => id), h.row.below hw, h.bel.trans (hw.mono h.hbw), h.h0⟩
theorem RecQ.app (h : RecQ w3 wr hb lb v k m L) {v' : Value} {x : List Nat} (h1 : Own w' hb v' (m ++ x)) (h2 : Below hb wr w') (h3 : wr.grownBy w' v.ownBlock) : RecQ w3 w' hb lb v' k (m ++ x) L := by
  have hbt : But (fun j => v.ownBlock = some j) wr w' := (But.refl _ wr).grown h3 (fun k hk => hk)
  refine ⟨h1, h.row.but hbt (fun j hj e => ?_), h.bel.trans h2, h.h0⟩
  have e2 : j = lb := by simpa [Value.ownBlock] using hj.symm
  exact h.ne (by rw [e, e2])
theorem RecQ.ownBut (h : RecQ w3 wr hb lb v k m L) (hw : But (fun j => j = lb) wr w') : Own w' hb v m :=
  hw.own h.own (fun j hj e => h.ne (by rw [hj, e]))
theorem RecQ.setAt (h : RecQ w3 wr hb lb v k m L) {c : Nat} {y : CH} (hy : L[c]? = some y) (z : Int) : RecQ w3 (wr.setCell ⟨lb, c * 65, none⟩ (.int .i64 z)) hb lb v k m (L.set c (z, y.2)) := by
  have hyl : y.2.length = 64 := by
    have := h.row.1 y (List.mem_of_getElem? hy)
    rw [show (chF y).length = y.2.length + 1 by simp [chF, bv_length]] at this
    omega
  have hrow := h.row.part (x := (z, y.2)) hy [.int .i64 z] (o := 0) (chF_length _ hyl) (by simp) (fun j hj => by
    rw [chF_get, chF_get]
    by_cases e : j = 0
    · subst e; simp
    · have c : ¬ (0 ≤ j ∧ j < 0 + [Value.int .i64 z].length) := by simp; omega
      rw [if_neg c, if_neg e, if_neg e]) (g := lb) rfl
  have hbt : But (fun j => j = lb) wr (wr.setCell ⟨lb, c * 65, none⟩ (.int .i64 z)) := (But.refl (fun j => j = lb) wr).setCell (p := ⟨lb, c * 65, none⟩) rfl _
  exact ⟨h.ownBut hbt, hrow, h.bel.trans (hbt.below h.hbw (fun j hj => by rw [hj]; exact h.row.base_le lb rfl)), h.h0⟩
theorem RecQ.setWhat (h : RecQ w3 wr hb lb v k m L) {c : Nat} {y : CH} (hy : L[c]? = some y) (p : List Nat) (hp : p.length = 64) : RecQ w3 (wr.setCells lb (c * 65 + 1) (bv p)) hb lb v k m (L.set c (y.1, p)) := by
  have hyl : y.2.length = 64 := by
    have := h.row.1 y (List.mem_of_getElem? hy)
    rw [show (chF y).length = y.2.length + 1 by simp [chF, bv_length]] at this
    omega
  have hrow := h.row.part (x := (y.1, p)) hy (bv p) (o := 1) (chF_length _ hp) (by rw [bv_length, hp]; decide) (fun j hj => by
    rw [chF_get, chF_get, bv_length, hp]
    by_cases e : j = 0
    · subst e; simp
    · have c : 1 ≤ j ∧ j < 1 + 64 := by omega
      rw [if_pos c, if_neg e]) (g := lb) rfl
  have hbt : But (fun j => j = lb) wr (wr.setCells lb (c * 65 + 1) (bv p)) := (But.refl (fun j => j = lb) wr).setCells (g := lb) rfl _ _
  exact ⟨h.ownBut hbt, hrow, h.bel.trans (hbt.below h.hbw (fun j hj => by rw [hj]; exact h.row.base_le lb rfl)), h.h0⟩
theorem RecQ.there (h : RecQ w3 wr hb lb v k m L) {c : Nat} {y : CH} (hy : L[c]? = some y) : wr.rangeAt lb (c * 65) (chF y) ∧ wr.there lb (c * 65) 65 := by
  obtain ⟨g, cap, e, h1, h2⟩ := h.row.range (by decide) hy
  injection e with e1 _ _
  injection e1 with e1
  injection e1 with e1
  subst e1
  exact ⟨h1, h2⟩
end
/-- What next answers. -/
def NextPost (w : World) (s : RS) (d : DK) : Ending → World → Prop := fun e w' => Below w.heap.size w w' ∧ ∃ v m, e = .returned (.tuple #[v, .agg (nv .u8 m), .int .i64 0]) ∧ m.length = 32 ∧
    (((s.look d).1 = [] ∧ v = .slice none 0 0) ∨ ((s.look d).1 ≠ [] ∧ RowF w' w.heap.size 93 65 chF v (s.look d).1 ∧ m = (s.look d).2))
theorem results_next {P : Program} {fn : Func} {p q r : Tmp} {ty : TypeId} (h : fn.results = #[.tmp q, .cell p ty, .tmp r]) (tmps : Array Value) (w : World) (g : Nat) (t : TypeId) (cs : Array Value) (fr : Nat × Nat) (d : TypeDesc)
    (hp : tmps.getD p undef = .pointer (some ⟨g, 0, none⟩)) (hg : w.heap[g]? = some (.cells cs t fr))
    (hu : P.underlying ty = some d) (hd : (match d with | .struct _ | .array _ _ => true | _ => false) = true) (hi : (P.info? ty).map (·.size) = some cs.size) :
    (results fn tmps).run P w = .ok (.tuple #[tmps.getD q undef, .agg cs, tmps.getD r undef]) w := by
  have hp' : tmps[p]?.getD undef = .pointer (some ⟨g, 0, none⟩) := by simpa using hp
  simp [results, h, hp', asAddr, run_loadVar_row w g t ty cs fr d hg hu hd hi]
theorem next_ret {w2 : World} {rc : Nat} {m : List Nat} (hm : m.length = 32) {a : Act} {v x : Value} {R : Ending → World → Prop} (hk : IsBlk w2 rc (nv .u8 m) 23)
    (h2 : a.tmps.getD 2 undef = v) (h3 : a.tmps.getD 3 undef = .pointer (some ⟨rc, 0, none⟩)) (h4 : a.tmps.getD 4 undef = x) (hd : a.defers = [])
    (hR : R (.returned (.tuple #[v, .agg (nv .u8 m), x])) w2) : bodyPost Tryd.prog Tryd.f40 R .ret a w2 := by
  refine bodyPost_ret (v := .tuple #[v, .agg (nv .u8 m), x]) ?_ hd hR
  subst h2 h4
  exact results_next Tryd.results40 _ _ rc 23 (nv .u8 m) (0, 0) _ h3 hk Tryd.underlying23 rfl (by rw [nv_size, hm]; kernel_rfl)
/-- What stands when the head has passed the tests. -/
structure NxM (w w3 : World) (rr kb : Nat) (s : RS) (n kk : Nat) (d : DK) (rc sb pb : Nat) (p : List Nat) (k T : Nat) : Prop where
  hx : NxH w rr kb s n kk d
  h3 : NxH w3 rr kb s n kk d
  bel : Below w.heap.size w w3
  rc3 : IsBlk w3 rc (nv .u8 (List.replicate 32 0)) 23
  rcl : w.heap.size ≤ rc
  sb3 : IsBlk w3 sb (nv .u8 (List.replicate 32 0)) 23
  sbl : w.heap.size ≤ sb
  ne : rc ≠ sb
  pb3 : IsBlk w3 pb (nv .u8 p) 48
  pe : p = s.sector d 0
  pl : p.length = 64
  pbyte : ∀ c ∈ p, c < 256
  ke : k = p.getD 9 0
  Te : T = takes k
  lk : s.look d = if digest (recT s d p (T - 1)) = (p.drop 10).take 32 then ((List.range k).map (chAt s d k), digest (recT s d p (T - 1))) else ([], [])
theorem NxM.pb_ne {w w3 : World} {rr kb : Nat} {s : RS} {n kk : Nat} {d : DK} {rc sb pb : Nat} {p : List Nat} {k T : Nat} (h : NxM w w3 rr kb s n kk d rc sb pb p k T) : pb ≠ sb ∧ pb ≠ rc := by
  constructor
  · intro e
    have h1 : w3.heap[sb]? = some (.cells (nv .u8 p) 48) := e ▸ h.pb3
    have h2 : w3.heap[sb]? = some (.cells (nv .u8 (List.replicate 32 0)) 23) := h.sb3
    rw [h1] at h2
    injection h2 with h2
    injection h2 with _ h3 _
    exact absurd h3 (by decide)
  · intro e
    have h1 : w3.heap[rc]? = some (.cells (nv .u8 p) 48) := e ▸ h.pb3
    have h2 : w3.heap[rc]? = some (.cells (nv .u8 (List.replicate 32 0)) 23) := h.rc3
    rw [h1] at h2
    injection h2 with h2
    injection h2 with _ h3 _
    exact absurd h3 (by decide)
end Go.Proofs.YtkabkehfckbhcaaDoor
