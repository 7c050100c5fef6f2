/-
  disk: DiskPicks walked.
-/
import Derived.Test.YtjmjfgbpjecgfaaDoorDkKeeps
namespace Go.Proofs.YtjmjfgbpjecgfaaDoor
set_option linter.unusedVariables false
set_option linter.unusedSimpArgs false
open Go.RowKit

/-! Plain. -/
/-- The sector that a call names, of n. -/
def secOf (n : Nat) (z : Int) : Nat := ((wrap64 (z.tmod n + n)).tmod n).toNat
theorem secOf_eq {n : Nat} {z : Int} {F : Nat} (h : (wrap64 (z.tmod n + n)).tmod n = (F : Int)) : secOf n z = F := by unfold secOf; rw [h]; exact Int.toNat_natCast F
/-- What a call writes. -/
def wr1 (K : CallK) : List (Nat × List Nat) := if K.kd = 1 then [(secOf 10 K.i, pg1 K.c)] else []
def wrs (l : List CallK) : List (Nat × List Nat) := l.flatMap wr1
/-- The place of the last flush of the first k calls. -/
def lastOf (l : List CallK) : Nat → Nat
  | 0 => 0
  | k + 1 => if (l[k]?.map (·.kd)) = some 2 then k else lastOf l k
theorem lastOf_succ (l : List CallK) (k : Nat) : lastOf l (k + 1) = if (l[k]?.map (·.kd)) = some 2 then k else lastOf l k := rfl
theorem lastOf_le (l : List CallK) : ∀ k, lastOf l k ≤ k
  | 0 => Nat.le_refl _
  | k + 1 => by
    unfold lastOf
    split
    · omega
    · exact Nat.le_succ_of_le (lastOf_le l k)
theorem wrs_snoc {l : List CallK} {k : Nat} {K : CallK} (h : l[k]? = some K) {m : Nat} (hm : m ≤ k) : wrs ((l.take (k + 1)).drop m) = wrs ((l.take k).drop m) ++ wr1 K := by
  have hk : k < l.length := (List.getElem?_eq_some_iff.1 h).1
  have e : l.take (k + 1) = l.take k ++ [K] := by rw [List.take_add_one, h]; rfl
  rw [e, List.drop_append_of_le_length (by rw [List.length_take]; omega)]
  unfold wrs
  rw [List.flatMap_append]
  simp
theorem wrs_take {l : List CallK} {k : Nat} {K : CallK} (h : l[k]? = some K) : wrs (l.take (k + 1)) = wrs (l.take k) ++ wr1 K := wrs_snoc h (Nat.zero_le k)
theorem wrs_split (l : List CallK) (m k : Nat) (hm : m ≤ k) : wrs (l.take m) ++ wrs ((l.take k).drop m) = wrs (l.take k) := by
  unfold wrs
  rw [← List.flatMap_append]
  congr 1
  have : l.take m = (l.take k).take m := by rw [List.take_take, Nat.min_eq_left hm]
  rw [this, List.take_append_drop]
/-- The disk behind the first k calls. -/
structure AtK (l : List CallK) (k : Nat) (d : DK) : Prop where
  on : OnD 10 k d
  firm : d.firm = applyP (List.replicate 10 zeroPg) (wrs (l.take (lastOf l k)))
  pend : d.pend = wrs ((l.take k).drop (lastOf l k))
theorem atK_start (l : List CallK) : AtK l 0 (DK.new 10) := ⟨onD_new 10, rfl, rfl⟩
theorem atK_write {l : List CallK} {k : Nat} {d : DK} (h : AtK l k d) {K : CallK} (hK : l[k]? = some K) (h1 : K.kd = 1) {F : Nat} (hF : F < 10) (hs : secOf 10 K.i = F) : AtK l (k + 1) { d with pend := d.pend ++ [(F, pg1 K.c)] } := by
  have e : lastOf l (k + 1) = lastOf l k := by rw [lastOf_succ, hK]; simp [h1]
  refine ⟨onD_written h.on F hF _, by rw [e]; exact h.firm, ?_⟩
  rw [e, wrs_snoc hK (lastOf_le l k), ← h.pend, wr1, if_pos h1, hs]
theorem atK_flush {l : List CallK} {k : Nat} {d : DK} (h : AtK l k d) {K : CallK} (hK : l[k]? = some K) (h1 : K.kd = 2) : AtK l (k + 1) { d with firm := d.cur, pend := [] } := by
  have e : lastOf l (k + 1) = k := by rw [lastOf_succ, hK]; simp [h1]
  refine ⟨(onD_flush h.on).2.2.more (by omega), ?_, ?_⟩
  · show applyP d.firm d.pend = _
    rw [e, h.firm, h.pend, ← applyP_append, wrs_split _ _ _ (lastOf_le l k)]
  · rw [e, wrs_snoc hK (Nat.le_refl k)]
    have : (l.take k).drop k = [] := List.drop_eq_nil_of_le (by rw [List.length_take]; omega)
    rw [this, wr1, if_neg (by omega)]
    rfl
theorem atK_other {l : List CallK} {k : Nat} {d : DK} (h : AtK l k d) {K : CallK} (hK : l[k]? = some K) (h1 : K.kd ≠ 1) (h2 : K.kd ≠ 2) : AtK l (k + 1) d := by
  have e : lastOf l (k + 1) = lastOf l k := by rw [lastOf_succ, hK]; simp [h2]
  refine ⟨h.on.more (by omega), by rw [e]; exact h.firm, ?_⟩
  rw [e, wrs_snoc hK (lastOf_le l k), ← h.pend, wr1, if_neg h1, List.append_nil]
theorem onD_read {n k : Nat} {d : DK} (h : OnD n k d) {i : Nat} (hi : i < n) : d.readE (i : Int) = 0 ∧ d.read (i : Int) = d.cur.getD i zeroPg := by
  have hb : d.bad (i : Int) = false := by simp only [DK.bad, h.1, Bool.or_eq_false_iff, decide_eq_false_iff_not]; omega
  have he : d.readE (i : Int) = 0 := by unfold DK.readE; rw [h.2.2.1, hb]; rfl
  exact ⟨he, by unfold DK.read; rw [if_pos he]; rfl⟩
def ints (n : Nat) : List Int := (List.range n).map fun (i : Nat) => (i : Int)
theorem crash_all {n k : Nat} {d : DK} (h : OnD n k d) : d.crash (ints d.pend.length) = { d with firm := d.cur, pend := [] } := by
  have e : pickP d.pend (ints d.pend.length) 0 = d.pend := pickP_all _ _ 0 (fun i _ hi => by
    rw [List.contains_iff_mem]
    exact List.mem_map.2 ⟨i, List.mem_range.2 (by omega), rfl⟩)
  unfold DK.crash
  rw [e]
  obtain ⟨_, _, h1, h2, _⟩ := h
  show ({ firm := d.cur } : DK) = { firm := d.cur, pend := [], fuel := d.fuel, off := d.off }
  rw [h1, h2]
theorem crash_none {n k : Nat} {d : DK} (h : OnD n k d) : d.crash [] = { firm := d.firm } ∧ OnD n 0 ({ firm := d.firm } : DK) := by
  constructor
  · unfold DK.crash; rw [pickP_none]; rfl
  · exact ⟨h.1, Nat.le_refl _, rfl, rfl, fun x hx => by cases hx⟩
theorem wrs_lt (l : List CallK) : ∀ x ∈ wrs l, x.1 < 10 := by
  intro x hx
  unfold wrs at hx
  obtain ⟨K, _, h⟩ := List.mem_flatMap.1 hx
  unfold wr1 at h
  split at h
  · simp at h
    subst h
    obtain ⟨F, hF, eF⟩ := mod_pos K.i 10 (by decide) (by decide)
    show secOf 10 K.i < 10
    rw [secOf_eq eF]; exact hF
  · cases h
theorem wrs_length (l : List CallK) : (wrs l).length ≤ l.length := by
  induction l with
  | nil => exact Nat.le_refl _
  | cons K r ih =>
    have : wrs (K :: r) = wr1 K ++ wrs r := by unfold wrs; rw [List.flatMap_cons]
    rw [this, List.length_append, List.length_cons]
    have : (wr1 K).length ≤ 1 := by unfold wr1; split <;> simp
    omega
/-- The other disk: just what was written ahead of the last flush. -/
def eAt (l : List CallK) (m : Nat) : DK := { DK.new 10 with pend := wrs (l.take m) }
theorem eAt_on (l : List CallK) (m : Nat) (hm : m ≤ 200) : OnD 10 200 (eAt l m) := by
  refine ⟨by simp [eAt, DK.new], ?_, rfl, rfl, fun x hx => wrs_lt _ x hx⟩
  have := wrs_length (l.take m)
  have h2 : (l.take m).length ≤ m := by rw [List.length_take]; omega
  show (wrs (l.take m)).length ≤ 200
  omega
theorem eAt_write (l : List CallK) {k : Nat} {K : CallK} (hK : l[k]? = some K) (h1 : K.kd = 1) {F : Nat} (hF : F < 10) (hs : secOf 10 K.i = F) (hk : k ≤ 200) : (eAt l k).write (F : Int) (pg1 K.c) = eAt l (k + 1) := by
  rw [(onD_write (eAt_on l k hk) F hF _).1]
  unfold eAt
  rw [wrs_take hK, wr1, if_pos h1, hs]
theorem eAt_other (l : List CallK) {k : Nat} {K : CallK} (hK : l[k]? = some K) (h1 : K.kd ≠ 1) : eAt l (k + 1) = eAt l k := by
  unfold eAt
  rw [wrs_take hK, wr1, if_neg h1, List.append_nil]
theorem picks_law {l : List CallK} {k : Nat} {d : DK} (h : AtK l k d) (hk : k ≤ 200) {i : Nat} (hi : i < 10) : ({ firm := d.firm } : DK).read (i : Int) = (eAt l (lastOf l k)).read (i : Int) := by
  rw [(onD_read (crash_none h.on).2 hi).2, (onD_read (eAt_on l _ (Nat.le_trans (lastOf_le l k) hk)) hi).2]
  show d.firm.getD i zeroPg = _
  rw [h.firm]
  rfl

/-! Memory: two disks, and the two that a crash leaves. -/
theorem Dk.inside {B : Nat} {w : World} {db : Nat} {d : DK} (h : Dk B w db d) : DkN (fun k => k < B ∨ w.heap.size ≤ k) B w db d := by
  obtain ⟨fb, mb, cap, cv, h⟩ := h
  refine ⟨fb, mb, cap, cv, h, ?_, ?_, ?_, fun k hk => ?_⟩
  · have := h.blk.lt; have := h.bdb; omega
  · have := h.fb_lt; have := h.fb_base; omega
  · have := h.map.lt; have := h.bmb; omega
  · have := h.cache.lt k hk; have := h.cache.base_le k hk; omega
def NdP (lo hi : Nat) (k : Nat) : Prop := lo ≤ k ∧ k < hi
def NeP (lo hi : Nat) (k : Nat) : Prop := k < lo ∨ hi ≤ k
def NdQ (lo hi c0 : Nat) (k : Nat) : Prop := (lo ≤ k ∧ k < hi) ∨ c0 ≤ k
def NeQ (lo hi c : Nat) (k : Nat) : Prop := (k < lo ∨ hi ≤ k) ∧ k < c
def NxQ (c0 c : Nat) (k : Nat) : Prop := k < c0 ∨ c ≤ k
/-- First: two disks. -/
structure PA (W : World) (B lo hi db eb : Nat) (w : World) (d e : DK) : Prop where
  d : DkN (NdP lo hi) B w db d
  e : DkN (NeP lo hi) lo w eb e
  bel : Below W.heap.size W w
  hB : W.heap.size ≤ B
  hBlo : B ≤ lo
  hlo : lo ≤ hi
  hhi : hi ≤ w.heap.size
section
variable {W : World} {B lo hi c0 c db eb xb yb : Nat} {w w' : World} {d d' e e' x y : DK}
theorem PA.below (h : PA W B lo hi db eb w d e) (hb : Below w.heap.size w w') : PA W B lo hi db eb w' d e :=
  ⟨h.d.below hb, h.e.below hb, h.bel.trans (hb.mono h.bel.size), h.hB, h.hBlo, h.hlo, Nat.le_trans h.hhi hb.size⟩
theorem PA.turn (h : PA W B lo hi db eb w d e) (hd : DkN (NdP lo hi) B w' db d') (hb : Below B w w') (hc : But (fun k => ¬ NdP lo hi k) w w') : PA W B lo hi db eb w' d' e :=
  ⟨hd, h.e.but hc (fun k hk => by unfold NdP at hk; unfold NeP; omega), h.bel.trans (hb.mono h.hB), h.hB, h.hBlo, h.hlo, Nat.le_trans h.hhi hb.size⟩
/-- Then: four. -/
structure PB (W : World) (B lo hi c0 c db eb xb yb : Nat) (w : World) (d e x y : DK) : Prop where
  d : DkN (NdQ lo hi c0) B w db d
  e : DkN (NeQ lo hi c) lo w eb e
  x : DkN (NxQ c0 c) c0 w xb x
  y : DkN (NxQ c0 c) c0 w yb y
  bel : Below W.heap.size W w
  hB : W.heap.size ≤ B
  hBlo : B ≤ lo
  hlo : lo ≤ hi
  hc0 : hi ≤ c0
  hc : c0 ≤ c
  hs : c ≤ w.heap.size
theorem PB.below (h : PB W B lo hi c0 c db eb xb yb w d e x y) (hb : Below w.heap.size w w') : PB W B lo hi c0 c db eb xb yb w' d e x y :=
  ⟨h.d.below hb, h.e.below hb, h.x.below hb, h.y.below hb, h.bel.trans (hb.mono h.bel.size), h.hB, h.hBlo, h.hlo, h.hc0, h.hc, Nat.le_trans h.hs hb.size⟩
theorem PB.turnE (h : PB W B lo hi c0 c db eb xb yb w d e x y) (he : DkN (NeQ lo hi c) lo w' eb e') (hb : Below lo w w') (hc : But (fun k => ¬ NeQ lo hi c k) w w') : PB W B lo hi c0 c db eb xb yb w' d e' x y :=
  ⟨h.d.but hc (fun k hk => by unfold NeQ at hk; unfold NdQ; have := h.hc; omega), he, h.x.but hc (fun k hk => by unfold NeQ at hk; unfold NxQ; have := h.hc0; omega), h.y.but hc (fun k hk => by unfold NeQ at hk; unfold NxQ; have := h.hc0; omega),
    h.bel.trans (hb.mono (Nat.le_trans h.hB h.hBlo)), h.hB, h.hBlo, h.hlo, h.hc0, h.hc, Nat.le_trans h.hs hb.size⟩
theorem PB.turnD (h : PB W B lo hi c0 c db eb xb yb w d e x y) (hd : DkN (NdQ lo hi c0) B w' db d') (hb : Below B w w') (hc : But (fun k => ¬ NdQ lo hi c0 k) w w') : PB W B lo hi c0 c db eb xb yb w' d' e x y :=
  ⟨hd, h.e.but hc (fun k hk => by unfold NdQ at hk; unfold NeQ; have := h.hc; omega), h.x.but hc (fun k hk => by unfold NdQ at hk; unfold NxQ; omega), h.y.but hc (fun k hk => by unfold NdQ at hk; unfold NxQ; omega),
    h.bel.trans (hb.mono h.hB), h.hB, h.hBlo, h.hlo, h.hc0, h.hc, Nat.le_trans h.hs hb.size⟩
/-- The two crashes. -/
theorem PA.four {w2 w3 : World} (h : PA W B lo hi db eb w d e) (hx : Dk w.heap.size w2 xb x) (hb2 : Below w.heap.size w w2) (hy : Dk w2.heap.size w3 yb y) (hb3 : Below w2.heap.size w2 w3) : PB W B lo hi w.heap.size w3.heap.size db eb xb yb w3 d e x y := by
  have hb : Below w.heap.size w w3 := hb2.trans (hb3.mono hb2.size)
  refine ⟨(h.d.widen (fun k hk => ?_)).below hb, (h.e.fewer (fun k hk => hk.1)).below hb, (hx.inside.fewer (fun k hk => ?_)).below hb3, ?_, h.bel.trans (hb.mono h.bel.size), h.hB, h.hBlo, h.hlo, h.hhi, hb.size, Nat.le_refl _⟩
  · exact hk.imp (fun a => a) (fun a => a)
  · unfold NxQ at hk; have := hb3.size; omega
  · obtain ⟨fb, mb, cap, cv, h1, n1, n2, n3, n4⟩ := hy.inside
    have hs := hb2.size
    exact ⟨fb, mb, cap, cv, h1.base_mono hs, fun q => n1 (by unfold NxQ at q; omega), fun q => n2 (by unfold NxQ at q; omega), fun q => n3 (by unfold NxQ at q; omega), fun k hk q => n4 k hk (by unfold NxQ at q; omega)⟩
theorem pa_begin {w1 w2 w3 : World} (h1 : Below W.heap.size W w1) (h2 : Dk w1.heap.size w2 db (DK.new 10)) (hb2 : Below w1.heap.size w1 w2) (h3 : Dk w2.heap.size w3 eb (DK.new 10)) (hb3 : Below w2.heap.size w2 w3) : PA W w1.heap.size w2.heap.size w3.heap.size db eb w3 (DK.new 10) (DK.new 10) :=
  ⟨(h2.keep.fewer (fun k hk => hk.1)).below hb3, h3.inside.fewer (fun k hk => hk), (h1.trans (hb2.mono h1.size)).trans (hb3.mono (Nat.le_trans h1.size hb2.size)), h1.size, hb2.size, hb3.size, Nat.le_refl _⟩
end

/-! The walk. -/
def intF (i : Nat) : List Value := [.int .i64 (i : Int)]
theorem isInts_row {w : World} {base n cap : Nat} {a : Option Addr} (h : RowF w base 3 1 intF (.slice a n cap) (List.range n)) (hn : n ≤ 1000) : IsInts .i64 w a (ints n) := by
  refine ⟨fun z hz => ?_, ?_⟩
  · obtain ⟨i, hi, rfl⟩ := List.mem_map.1 hz
    have := List.mem_range.1 hi
    simp [Lit.wf, IntKind.min, IntKind.max, IntKind.bits, IntKind.signed]
    omega
  · rcases Nat.eq_zero_or_pos n with rfl | hpos
    · exact .inl rfl
    · right
      have h0 : (List.range n)[0]? = some 0 := by rw [List.getElem?_range hpos]
      obtain ⟨g, c', e, hr, _⟩ := h.range (by decide) h0
      injection e with e1 _ _
      subst e1
      refine ⟨g, 0, rfl, h.lt g rfl, fun i hi => ?_⟩
      have hi' : i < n := by simpa [ints] using hi
      obtain ⟨g', c'', e, hr, _⟩ := h.range (k := i) (x := i) (by decide) (by rw [List.getElem?_range hi'])
      injection e with e1 _ _
      injection e1 with e1
      injection e1 with e1 _ _
      subst e1
      have := hr 0 (.int .i64 (i : Int)) rfl
      rw [Nat.mul_one, Nat.add_zero] at this
      rw [Nat.zero_add, this]
      simp [ints, List.getD, hi']
theorem int_typ : ∃ it z, Tryd.prog.info? 3 = some it ∧ it.zero = some z ∧ it.size = 1 ∧ it.bytes = 8 ∧ z.cells.size = 1 := by
  have hA : (Tryd.prog.info? 3).bind (fun it => it.zero.map fun z => (it.size, it.bytes, z.cells.size)) = some (1, 8, 1) := by kernel_rfl
  obtain ⟨it, h1, hA⟩ := Option.bind_eq_some_iff.1 hA
  obtain ⟨z, h2, h5⟩ := Option.map_eq_some_iff.1 hA
  exact ⟨it, z, h1, h2, congrArg Prod.fst h5, congrArg (fun x => x.2.1) h5, congrArg (fun x => x.2.2) h5⟩
theorem int_src (w : World) (k : Nat) : Src (w.alloc (.cells #[.int .i64 (k : Int)] 3)) 1 (some ⟨w.heap.size, 0, none⟩) 1 [.int .i64 (k : Int)] := by
  refine ⟨rfl, (fun h => by cases h), ?_⟩
  rintro ad ⟨rfl⟩ j u hu
  rw [Addr.add_mid, Nat.zero_add]
  exact (IsBlk.new w #[.int .i64 (k : Int)] 3).cell j (by rw [← hu]; simp)
theorem rowF_int {w w' w5 : World} {base n : Nat} {v v' : Value} (h : RowF w base 3 1 intF v (List.range n)) (q1 : w5.ownsRow base 3 1 v' (n + 1) ((List.range n).flatMap intF ++ [.int .i64 (n : Int)])) : RowF w5 base 3 1 intF v' (List.range (n + 1)) := by
  refine ⟨fun x _ => rfl, ?_⟩
  rw [List.length_range, List.range_succ, List.flatMap_append]
  exact q1
theorem new10 (w : World) : Calls Tryd.prog 10 #[.int .i64 10] w fun e w' => ∃ db, e = .returned (.tuple #[.pointer (some ⟨db, 0, none⟩), .nilIface]) ∧ Dk w.heap.size w' db (DK.new 10) ∧ Below w.heap.size w w' := new_D w 10 (by decide) (by decide)
theorem lastOf_step {l : List CallK} {k : Nat} {K : CallK} (h : l[k]? = some K) : (K.kd = 2 → lastOf l (k + 1) = k) ∧ (K.kd ≠ 2 → lastOf l (k + 1) = lastOf l k) := by
  constructor
  · intro h1; rw [lastOf_succ, h]; simp [h1]
  · intro h1; rw [lastOf_succ, h]; simp [h1]

set_option maxRecDepth 100000 in
set_option maxHeartbeats 4000000 in
theorem picks_walk (v0 : Value) (D0 : D) (W : World) (r0 : RdV Tryd.prog W 22 v0 D0) (hg : HasET W) :
    Calls Tryd.prog 3 #[v0] W fun e w' => e = .returned (.bool true) ∧ Below W.heap.size W w' := by
  obtain ⟨ca, cc, l, rfl, hcc, hll, hcs⟩ := r0.callsK
  clear r0
  have HARG := Lib.hid hcs
  have HLL := Lib.hid (And.intro hcc hll)
  have hl63 : (l.length : Int) ≤ 35184372088832 := by omega
  clear hcs hcc hll
  go_enter Tryd.func3, Tryd.ntmps3
  go_upto_region 4 with (first
    | (go_at_call 9; (with_reducible refine (stands_any _).mono ?_); rintro e w1 ⟨rfl, hb1⟩; have HB1 := Lib.hid hb1; clear hb1)
    | (go_at_call 10; (with_reducible refine (new10 _).mono ?_); rintro e w2 ⟨db, rfl, h2, hb2⟩; have H2 := Lib.hid (And.intro h2 hb2); clear h2 hb2))
  go_upto_region 5 with (go_at_call 10; (with_reducible refine (new10 _).mono ?_); rintro e w3 ⟨eb, rfl, h3, hb3⟩; have H3 := Lib.hid (And.intro h3 hb3); clear h3 hb3)
  have HA := Lib.hid (pa_begin HB1.out H2.out.1 H2.out.2 H3.out.1 H3.out.2)
  clear H2 H3
  generalize w1.heap.size = B at *
  generalize w2.heap.size = lo at *
  generalize w3.heap.size = hi at *
  go_upto_block 0 with fail
  go_cut [7, 41] (fun n _ wx => ∃ dk, n = .int .i64 ((dk.pend.length : Nat) : Int) ∧ Hid (AtK l (min l.length 200) dk ∧ PA W B lo hi db eb wx dk (DK.new 10)))
  case first =>
    -- {
    go_wp2_with fail
    go_loopw [7, 41] (fun n i wr => ∃ k : Nat, ∃ dk, k ≤ l.length ∧ k ≤ 200 ∧ i = .int .i64 k ∧ n = .int .i64 ((dk.pend.length : Nat) : Int) ∧ Hid (AtK l k dk ∧ PA W B lo hi db eb wr dk (DK.new 10))) (fun _ i _ => l.length - (intOf i).toNat)
    case atStart => exact ⟨0, DK.new 10, by omega, by omega, rfl, rfl, atK_start l, HA.out⟩
    case round =>
      obtain ⟨k, dk, hk, hk2, rfl, rfl, HR⟩ := hrel
      by_cases hkl : k < l.length
      · obtain ⟨K, hK⟩ : ∃ K, l[k]? = some K := ⟨_, List.getElem?_eq_getElem hkl⟩
        have hcs := HARG.out.below HR.out.2.bel
        obtain ⟨b, off, rfl, hbl, hrg⟩ := hcs.at_.resolve_left (by rintro rfl; simp at hkl)
        have hrk := hrg k K hK
        have hok := hcs.ok K (List.mem_of_getElem? hK)
        have HC := Lib.hid (And.intro hrk (And.intro hok hK))
        clear hrk hok hcs hrg hbl hK
        have hki : (k : Int) < (l.length : Int) := by omega
        have hkn : (0 : Int) ≤ (k : Int) := by omega
        go_upto_region 9 with (first
          | (refine wpList_load_mid_g (by rfl) 31 (.tmp 44) (by rfl) b (off + k * 4) (by rfl) K.cells _ HC.out.1 Tryd.underlying31 rfl (by kernel_rfl) ?_)
          | (refine wpList_alloc_info (by rfl) 31 (by rfl) (.agg callZ) callZ (by kernel_rfl) rfl ?_)
          | (refine wpList_store_row (by rfl) 31 (.tmp 9) (.tmp 45) (by rfl) _ K.cells.toArray (by rfl) (by rfl) 31 callZ (heap_alloc_new _ _) (call_info K) rfl (call_one K) ?_))
        have hv := call_var wr K
        generalize (wr.alloc (.cells callZ 31)).setRow wr.heap.size K.cells.toArray = w5 at hv ⊢
        have H5 := Lib.hid (And.intro hv.1 (HR.out.2.below hv.2))
        clear hv
        by_cases h200 : k = 200
        · subst h200
          go_wp2_with fail
          go_meet
          exact ⟨dk, rfl, by rw [Nat.min_eq_right (by omega)]; exact HR.out.1, H5.out.2⟩
        · have h200' : ((k : Int) == 200) = false := by simp; omega
          have c0 := H5.out.1.cell 0 (v := .int .i64 K.kd) rfl
          have c1 := H5.out.1.cell 1 (v := .int .i64 K.i) rfl
          have c2 := H5.out.1.cell 2 (v := .int .u8 (K.c : Int)) rfl
          obtain ⟨F, hF, eF⟩ := mod_pos K.i 10 (by decide) (by decide)
          have HS := Lib.hid (secOf_eq eF)
          rw [show ((10 : Nat) : Int) = 10 from rfl] at eF
          have hpl : (dk.pend.length : Int) ≤ 200 := by have := HR.out.1.on.2.1; omega
          by_cases hk1 : K.kd = 1
          · rw [hk1] at c0
            have hwr := H5.out.2.d.write (fun n hn => Nat.lt_of_lt_of_le hn.2 H5.out.2.hhi) (F : Int) (pg1 K.c) (pg1_length K.c) (by omega) (Nat.le_trans H5.out.2.hBlo (Nat.le_trans H5.out.2.hlo H5.out.2.hhi))
            rw [(onD_write HR.out.1.on F hF (pg1 K.c)).1] at hwr
            go_wp2_with (go_at_call 11; refine hwr.mono ?_; rintro e w6 ⟨v6, rfl, hr6, h6, hb6, hc6⟩; have H6 := Lib.hid (H5.out.2.turn h6 hb6 hc6); clear h6 hb6 hc6 hr6)
            go_round
            case rel => exact ⟨k + 1, _, by omega, by omega, by go_num, by simp, atK_write HR.out.1 HC.out.2.2 hk1 hF HS.out, H6.out⟩
            case measure => simp [intOf]; omega
          · by_cases hk2' : K.kd = 2
            · have hfl := H5.out.2.d.flush (by omega) (Nat.le_trans H5.out.2.hBlo (Nat.le_trans H5.out.2.hlo H5.out.2.hhi))
              rw [(onD_flush HR.out.1.on).1] at hfl
              rw [hk2'] at c0
              go_wp2_with (go_at_call 12; refine hfl.mono ?_; rintro e w6 ⟨v6, rfl, hr6, h6, hb6, hc6⟩; have H6 := Lib.hid (H5.out.2.turn h6 hb6 hc6); clear h6 hb6 hc6 hr6)
              go_round
              case rel => exact ⟨k + 1, _, by omega, by omega, by go_num, rfl, atK_flush HR.out.1 HC.out.2.2 hk2', H6.out⟩
              case measure => simp [intOf]; omega
            · have e1 : (K.kd == 1) = false := by simp; exact hk1
              have e2 : (K.kd == 2) = false := by simp; exact hk2'
              go_wp2_with fail
              go_round
              case rel => exact ⟨k + 1, dk, by omega, by omega, by go_num, rfl, atK_other HR.out.1 HC.out.2.2 hk1 hk2', H5.out.2⟩
              case measure => simp [intOf]; omega
      · obtain rfl : k = l.length := by omega
        go_wp2_with fail
        go_meet
        exact ⟨dk, rfl, by rw [Nat.min_eq_left (by omega)]; exact HR.out.1, HR.out.2⟩
    -- }
  case rest =>
    obtain ⟨dk, rfl, HR⟩ := hcut
    have hpn : dk.pend.length ≤ 200 := by have := HR.out.1.on.2.1; omega
    generalize hN : dk.pend.length = N at *
    obtain ⟨wx, hwx⟩ : ∃ w : World, w = wc := ⟨_, rfl⟩
    subst hwx
    go_upto_block 3 with fail
    go_cut [11, 71] (fun v _ wz => Hid (RowF wz wx.heap.size 3 1 intF v (List.range N) ∧ Below wx.heap.size wx wz))
    case first =>
      go_wp2_with fail
      go_loopw [11, 71] (fun v i wr => ∃ k : Nat, k ≤ N ∧ i = .int .i64 k ∧ Hid (RowF wr wx.heap.size 3 1 intF v (List.range k) ∧ Below wx.heap.size wx wr)) (fun _ i _ => N - (intOf i).toNat)
      case atStart => exact ⟨0, by omega, rfl, RowF.nil _ _ _ _ _, Below.refl _ _⟩
      case round =>
        obtain ⟨k, hk, rfl, HL⟩ := hrel
        by_cases hkn : k < N
        · obtain ⟨va, vc, e⟩ := HL.out.1.slice
          rw [List.length_range] at e
          subst e
          obtain ⟨it, z, hi1, hi2, hi3, hi4, hi5⟩ := int_typ
          have HT := Lib.hid (And.intro hi1 (And.intro hi2 (And.intro hi3 (And.intro hi4 hi5))))
          clear hi1 hi2 hi3 hi4 hi5
          have hown : (wr.alloc (.cells #[.int .i64 (k : Int)] 3)).ownsRow wx.heap.size 3 1 (.slice va k vc) k ((List.range k).flatMap intF) := by
            have := (HL.out.1.below ((Below.refl _ _).alloc (Nat.le_refl _) (.cells #[.int .i64 (k : Int)] 3))).2
            rwa [List.length_range] at this
          have HW := Lib.hid hown
          have hk1 : k + 1 ≤ maxLen := by unfold maxLen; omega
          have hk2 : (k + 1) * 8 ≤ 140737488355328 := by omega
          have HK := Lib.hid (And.intro hk1 hk2)
          clear hown hk1 hk2
          go_wp2_with (refine wpList_append_src (wr.alloc (.cells #[.int .i64 (k : Int)] 3)) (by rfl) (.tmp 74) (.tmp 76) 29 (by rfl) wx.heap.size 3 it z 1 8 Tryd.underlying29 HT.out.1 HT.out.2.1 HT.out.2.2.1 HT.out.2.2.2.1 HT.out.2.2.2.2 (by decide) (.slice va k vc) k _ (by rfl) HW.out (some ⟨wr.heap.size, 0, none⟩) 1 1 [.int .i64 (k : Int)] (by rfl) (int_src wr k) (by intro e; cases e) (fun u hu => by obtain rfl := List.mem_singleton.1 hu; rfl) HK.out.1 HK.out.2 (Nat.le_trans HL.out.2.size (by simp)) fun v' w7 q1 q2 q3 => ?_; have H7 := Lib.hid (And.intro (rowF_int (w := wr) (w' := wr) HL.out.1 q1) ((HL.out.2.alloc HL.out.2.size _).grown q2 (Nat.le_trans HL.out.2.size (by simp)) (fun n hn => HL.out.1.base_le n hn))); clear q1 q2 q3)
          go_round
          case rel => exact ⟨k + 1, by omega, by go_num, H7.out⟩
          case measure => simp [intOf]; omega
        · obtain rfl : k = N := by omega
          go_wp2_with fail
          go_meet
          exact HL.out
    case rest =>
      have HL := hcut
      obtain ⟨va, vc, e⟩ := HL.out.1.slice
      rw [List.length_range] at e
      subst e
      have hA := HR.out.2.below HL.out.2
      have hil : (ints N).length = N := by simp [ints]
      have hcr := hA.d.dk.crash (by omega) va (ints N) vc (isInts_row HL.out.1 (by omega)) (by rw [hil]; omega)
      rw [hil, ← hN, crash_all HR.out.1.on, hN] at hcr
      have HA2 := Lib.hid hA
      have HPL := Lib.hid hN
      clear hA hil hN
      have hkey : ∀ w2, Below wc.heap.size wc w2 → Calls Tryd.prog 13 #[.pointer (some ⟨db, 0, none⟩), .slice none 0 0] w2 fun e w' => ∃ eb, e = .returned (.pointer (some ⟨eb, 0, none⟩)) ∧ Dk w2.heap.size w' eb { firm := dk.firm } ∧ Below w2.heap.size w2 w' := fun w2 hb => by
        have h1 := (HA2.out.below hb).d.dk.crash (by rw [HPL.out]; omega) none [] 0 ⟨(fun z hz => by cases hz), .inl rfl⟩ (by decide)
        rw [(crash_none HR.out.1.on).1] at h1
        exact h1
      -- {
      go_upto_region 26 with (first
        | (go_at_call 13; (with_reducible refine hcr.mono ?_); rintro e w2 ⟨xb, rfl, h2, hb2⟩; have H2 := Lib.hid (And.intro h2 hb2); clear h2 hb2)
        | (go_at_call 13; (with_reducible refine (hkey _ H2.out.2).mono ?_); rintro e w3 ⟨yb, rfl, h3, hb3⟩; have H3 := Lib.hid (And.intro h3 hb3); clear h3 hb3))
      clear hcr hkey
      have hB4 := HA2.out.four H2.out.1 H2.out.2 H3.out.1 H3.out.2
      generalize wc.heap.size = c0 at hB4
      generalize w3.heap.size = c at hB4
      have HON := Lib.hid (And.intro HR.out.1 (onD_flush HR.out.1.on))
      have HX : Hid (OnD 10 200 { dk with firm := dk.cur, pend := [] } ∧ OnD 10 0 { firm := dk.firm }) := Lib.hid ⟨(onD_flush HR.out.1.on).2.2.more (by omega), (crash_none HR.out.1.on).2⟩
      have HB := Lib.hid hB4
      clear H2 H3 HA2 hB4
      go_upto_block 5 with fail
      go_cut [15, 86] (fun a _ wz => a = .int .i64 ((lastOf l (min l.length 200) : Nat) : Int) ∧ Hid (PB W B lo hi c0 c db eb xb yb wz dk (DK.new 10) { dk with firm := dk.cur, pend := [] } { firm := dk.firm }))
      case first =>
        go_wp2_with fail
        go_loopw [15, 86] (fun a i wr => ∃ k : Nat, k ≤ l.length ∧ i = .int .i64 k ∧ a = .int .i64 ((lastOf l (min k 200) : Nat) : Int) ∧ Hid (PB W B lo hi c0 c db eb xb yb wr dk (DK.new 10) { dk with firm := dk.cur, pend := [] } { firm := dk.firm })) (fun _ i _ => l.length - (intOf i).toNat)
        case atStart => exact ⟨0, by omega, rfl, rfl, HB.out⟩
        case round =>
          obtain ⟨k, hk, rfl, rfl, HR3⟩ := hrel
          by_cases hkl : k < l.length
          · obtain ⟨K, hK⟩ : ∃ K, l[k]? = some K := ⟨_, List.getElem?_eq_getElem hkl⟩
            have hcs := HARG.out.below HR3.out.bel
            obtain ⟨b, off, rfl, hbl, hrg⟩ := hcs.at_.resolve_left (by rintro rfl; simp at hkl)
            have hrk := hrg k K hK
            have HC := Lib.hid (And.intro hrk hK)
            clear hrk hcs hrg hbl hK
            have hki : (k : Int) < (l.length : Int) := by omega
            have hkn : (0 : Int) ≤ (k : Int) := by omega
            go_upto_region 30 with (first
              | (refine wpList_load_mid_g (by rfl) 31 (.tmp 89) (by rfl) b (off + k * 4) (by rfl) K.cells _ HC.out.1 Tryd.underlying31 rfl (by kernel_rfl) ?_)
              | (refine wpList_alloc_info (by rfl) 31 (by rfl) (.agg callZ) callZ (by kernel_rfl) rfl ?_)
              | (refine wpList_store_row (by rfl) 31 (.tmp 17) (.tmp 90) (by rfl) _ K.cells.toArray (by rfl) (by rfl) 31 callZ (heap_alloc_new _ _) (call_info K) rfl (call_one K) ?_))
            have hv := call_var wr K
            generalize (wr.alloc (.cells callZ 31)).setRow wr.heap.size K.cells.toArray = w5 at hv ⊢
            have H5 := Lib.hid (And.intro hv.1 (HR3.out.below hv.2))
            clear hv
            have c0' := H5.out.1.cell 0 (v := .int .i64 K.kd) rfl
            by_cases h200 : k < 200
            · have h2 : (k : Int) < 200 := by omega
              have hm1 : min k 200 = k := by omega
              have hm2 : min (k + 1) 200 = k + 1 := by omega
              have HMM := Lib.hid (And.intro hm1 hm2)
              clear hm1 hm2
              by_cases hk2 : K.kd = 2
              · rw [hk2] at c0'
                go_wp2_with fail
                go_round
                case rel => exact ⟨k + 1, by omega, by go_num, by rw [HMM.out.2, (lastOf_step HC.out.2).1 hk2], H5.out.2⟩
                case measure => simp [intOf]; omega
              · have e2 : (K.kd == 2) = false := by simp; exact hk2
                go_wp2_with fail
                go_round
                case rel => exact ⟨k + 1, by omega, by go_num, by rw [HMM.out.2, HMM.out.1, (lastOf_step HC.out.2).2 hk2], H5.out.2⟩
                case measure => simp [intOf]; omega
            · have h2 : ¬ (k : Int) < 200 := by omega
              have HMM : Hid (min (k + 1) 200 = min k 200) := Lib.hid (by omega)
              go_wp2_with fail
              go_round
              case rel => exact ⟨k + 1, by omega, by go_num, by rw [HMM.out], H5.out.2⟩
              case measure => simp [intOf]; omega
          · obtain rfl : k = l.length := by omega
            go_wp2_with fail
            go_meet
            exact ⟨rfl, HR3.out⟩
      case rest =>
        obtain ⟨rfl, HR3⟩ := hcut
        have hml : lastOf l (min l.length 200) ≤ min l.length 200 := lastOf_le _ _
        have HLAW := Lib.hid (fun i hi => picks_law HR.out.1 (Nat.min_le_right _ _) (i := i) hi)
        generalize lastOf l (min l.length 200) = m at *
        have hm1 : m ≤ l.length := by omega
        have hm2 : m ≤ 200 := by omega
        clear hml
        go_upto_block 7 with fail
        go_cut [102] (fun _ wz => Hid (PB W B lo hi c0 c db eb xb yb wz dk (eAt l m) { dk with firm := dk.cur, pend := [] } { firm := dk.firm }))
        case first =>
          go_wp2_with fail
          go_loopw [102] (fun i wr => ∃ k : Nat, k ≤ l.length ∧ i = .int .i64 k ∧ Hid (PB W B lo hi c0 c db eb xb yb wr dk (eAt l (min k m)) { dk with firm := dk.cur, pend := [] } { firm := dk.firm })) (fun i _ => l.length - (intOf i).toNat)
          case atStart => exact ⟨0, by omega, rfl, HR3.out⟩
          case round =>
            obtain ⟨k, hk, rfl, HR4⟩ := hrel
            by_cases hkl : k < l.length
            · obtain ⟨K, hK⟩ : ∃ K, l[k]? = some K := ⟨_, List.getElem?_eq_getElem hkl⟩
              have hcs := HARG.out.below HR4.out.bel
              obtain ⟨b, off, rfl, hbl, hrg⟩ := hcs.at_.resolve_left (by rintro rfl; simp at hkl)
              have hrk := hrg k K hK
              have HC := Lib.hid (And.intro hrk hK)
              clear hrk hcs hrg hbl hK
              have hki : (k : Int) < (l.length : Int) := by omega
              have hkn : (0 : Int) ≤ (k : Int) := by omega
              go_upto_region 36 with (first
                | (refine wpList_load_mid_g (by rfl) 31 (.tmp 105) (by rfl) b (off + k * 4) (by rfl) K.cells _ HC.out.1 Tryd.underlying31 rfl (by kernel_rfl) ?_)
                | (refine wpList_alloc_info (by rfl) 31 (by rfl) (.agg callZ) callZ (by kernel_rfl) rfl ?_)
                | (refine wpList_store_row (by rfl) 31 (.tmp 19) (.tmp 106) (by rfl) _ K.cells.toArray (by rfl) (by rfl) 31 callZ (heap_alloc_new _ _) (call_info K) rfl (call_one K) ?_))
              have hv := call_var wr K
              generalize (wr.alloc (.cells callZ 31)).setRow wr.heap.size K.cells.toArray = w5 at hv ⊢
              have H5 := Lib.hid (And.intro hv.1 (HR4.out.below hv.2))
              clear hv
              have c0' := H5.out.1.cell 0 (v := .int .i64 K.kd) rfl
              have c1' := H5.out.1.cell 1 (v := .int .i64 K.i) rfl
              have c2' := H5.out.1.cell 2 (v := .int .u8 (K.c : Int)) rfl
              by_cases hkm : k < m
              · have h2 : (k : Int) < (m : Int) := by omega
                have HMM : Hid (min k m = k ∧ min (k + 1) m = k + 1) := Lib.hid ⟨by omega, by omega⟩
                by_cases hk1 : K.kd = 1
                · rw [hk1] at c0'
                  obtain ⟨F, hF, eF⟩ := mod_pos K.i 10 (by decide) (by decide)
                  have HS := Lib.hid (secOf_eq eF)
                  rw [show ((10 : Nat) : Int) = 10 from rfl] at eF
                  have hp2 := H5.out.2
                  rw [HMM.out.1] at hp2
                  have hwr := hp2.e.write (fun n hn => Nat.lt_of_lt_of_le hn.2 hp2.hs) (F : Int) (pg1 K.c) (pg1_length K.c) (by have := (eAt_on l k (by omega)).2.1; omega) (Nat.le_trans hp2.hlo (Nat.le_trans hp2.hc0 (Nat.le_trans hp2.hc hp2.hs)))
                  rw [eAt_write l HC.out.2 hk1 hF HS.out (by omega)] at hwr
                  have HP2 := Lib.hid hp2
                  clear hp2
                  go_wp2_with (go_at_call 11; refine hwr.mono ?_; rintro e w6 ⟨v6, rfl, hr6, h6, hb6, hc6⟩; have H6 := Lib.hid (HP2.out.turnE h6 hb6 hc6); clear h6 hb6 hc6 hr6)
                  go_round
                  case rel => exact ⟨k + 1, by omega, by go_num, by rw [HMM.out.2]; exact H6.out⟩
                  case measure => simp [intOf]; omega
                · have e1 : (K.kd == 1) = false := by simp; exact hk1
                  go_wp2_with fail
                  go_round
                  case rel => exact ⟨k + 1, by omega, by go_num, by rw [HMM.out.2, eAt_other l HC.out.2 hk1, ← HMM.out.1]; rw [HMM.out.1]; exact HMM.out.1 ▸ H5.out.2⟩
                  case measure => simp [intOf]; omega
              · have h2 : ¬ (k : Int) < (m : Int) := by omega
                have HMM : Hid (min (k + 1) m = min k m) := Lib.hid (by omega)
                go_wp2_with fail
                go_round
                case rel => exact ⟨k + 1, by omega, by go_num, by rw [HMM.out]; exact H5.out.2⟩
                case measure => simp [intOf]; omega
            · obtain rfl : k = l.length := by omega
              have HMM : Hid (min l.length m = m) := Lib.hid (by omega)
              go_wp2_with fail
              go_meet
              have := HR4.out
              rw [HMM.out] at this
              exact this
        case rest =>
          have HR4 := hcut
          have hfl := HR4.out.d.flush (by rw [HPL.out]; omega) (Nat.le_trans HR4.out.hBlo (Nat.le_trans HR4.out.hlo (Nat.le_trans HR4.out.hc0 (Nat.le_trans HR4.out.hc HR4.out.hs))))
          rw [HON.out.2.1, HON.out.2.2.1] at hfl
          -- <
          go_upto_region 41 with (first
            | (go_at_call 12; (with_reducible refine hfl.mono ?_); rintro e w6 ⟨v6, rfl, hr6, h6, hb6, hc6⟩; obtain rfl := res_nil hr6; have H6 := Lib.hid (HR4.out.turnD h6 hb6 hc6); clear h6 hb6 hc6)
            | (go_at_call 14; (with_reducible refine (num_nil _).mono ?_); rintro e w' ⟨rfl, rfl⟩))
          clear hfl
          generalize ({ dk with firm := dk.cur, pend := [] } : DK) = x at *
          generalize ({ firm := dk.firm } : DK) = y at *
          have HE := Lib.hid (eAt_on l m hm2)
          generalize eAt l m = ek at *
          go_wp2_with fail
          go_loopw [130] (fun i wr => ∃ k : Nat, k ≤ 10 ∧ i = .int .i64 k ∧ Hid (PB W B lo hi c0 c db eb xb yb wr x ek x y)) (fun i _ => 10 - (intOf i).toNat)
          case atStart => exact ⟨0, by omega, rfl, H6.out⟩
          case round =>
            obtain ⟨k, hk, rfl, HR5⟩ := hrel
            by_cases hlt : k < 10
            · have hx0 := (onD_read HX.out.1 hlt).1
              have hy0 := (onD_read HX.out.2 hlt).1
              have he0 := (onD_read HE.out hlt).1
              have hlw := HLAW.out k hlt
              have hxp : (x.read (k : Int)).length = 64 := HR5.out.x.dk.read_length _
              have hyp : (y.read (k : Int)).length = 64 := HR5.out.y.dk.read_length _
              have hrx := HR5.out.x.dk.read (k : Int)
              rw [hx0] at hrx
              generalize hp : x.read (k : Int) = p at *
              generalize hq : y.read (k : Int) = q at *
              have HPQ := Lib.hid (And.intro hxp (And.intro hyp (And.intro hp (And.intro hq hlw))))
              have HZ := Lib.hid (And.intro hx0 (And.intro hy0 he0))
              clear hxp hyp hp hq hlw hx0 hy0 he0
              go_upto_region 45 with (first
                | (go_at_call 15; (with_reducible refine hrx.mono ?_); rintro e w7 ⟨v7, rfl, hv7, hb7⟩; obtain rfl := res_nil hv7; have H7 := Lib.hid hb7; clear hb7)
                | (refine wpList_alloc_info (by rfl) 33 (by rfl) (.agg (nv .u8 zeroPg)) (nv .u8 zeroPg) (by kernel_rfl) rfl ?_)
                | (refine wpList_store_row (by rfl) 33 (.tmp 21) (.tmp 137) (by rfl) _ (nv .u8 p) (by rfl) (by rfl) 33 (nv .u8 zeroPg) (heap_alloc_new _ _) (info_pg _ HPQ.out.1) (by rw [nv_size, nv_size, HPQ.out.1]; rfl) (nv_one _ _) ?_))
              have hv := pg_var w7 p
              generalize (w7.alloc (.cells (nv .u8 zeroPg) 33)).setRow w7.heap.size (nv .u8 p) = w8 at hv ⊢
              have hb8 := H7.out.trans (hv.2.mono H7.out.size)
              have G1 := Lib.hid (And.intro hv.1 (HR5.out.below hb8))
              clear hv hb8 hrx H7
              generalize w7.heap.size = b1 at *
              have hrx := G1.out.2.d.dk.read (k : Int)
              rw [HZ.out.1, HPQ.out.2.2.1] at hrx
              go_upto_region 46 with (first
                | (go_at_call 15; (with_reducible refine hrx.mono ?_); rintro e w9 ⟨v9, rfl, hv9, hb9⟩; obtain rfl := res_nil hv9; have H9 := Lib.hid hb9; clear hb9)
                | (refine wpList_alloc_info (by rfl) 33 (by rfl) (.agg (nv .u8 zeroPg)) (nv .u8 zeroPg) (by kernel_rfl) rfl ?_)
                | (refine wpList_store_row (by rfl) 33 (.tmp 23) (.tmp 143) (by rfl) _ (nv .u8 p) (by rfl) (by rfl) 33 (nv .u8 zeroPg) (heap_alloc_new _ _) (info_pg _ HPQ.out.1) (by rw [nv_size, nv_size, HPQ.out.1]; rfl) (nv_one _ _) ?_))
              have hv := pg_var w9 p
              generalize (w9.alloc (.cells (nv .u8 zeroPg) 33)).setRow w9.heap.size (nv .u8 p) = w10 at hv ⊢
              have hb8 := H9.out.trans (hv.2.mono H9.out.size)
              have G2 := Lib.hid (And.intro (G1.out.1.below hb8 G1.out.1.lt) (And.intro hv.1 (G1.out.2.below hb8)))
              clear hv hb8 hrx H9 G1
              generalize w9.heap.size = b2 at *
              have hrx := G2.out.2.2.y.dk.read (k : Int)
              rw [HZ.out.2.1, HPQ.out.2.2.2.1] at hrx
              go_upto_region 47 with (first
                | (go_at_call 15; (with_reducible refine hrx.mono ?_); rintro e w11 ⟨v11, rfl, hv11, hb11⟩; obtain rfl := res_nil hv11; have H11 := Lib.hid hb11; clear hb11)
                | (refine wpList_alloc_info (by rfl) 33 (by rfl) (.agg (nv .u8 zeroPg)) (nv .u8 zeroPg) (by kernel_rfl) rfl ?_)
                | (refine wpList_store_row (by rfl) 33 (.tmp 25) (.tmp 149) (by rfl) _ (nv .u8 q) (by rfl) (by rfl) 33 (nv .u8 zeroPg) (heap_alloc_new _ _) (info_pg _ HPQ.out.2.1) (by rw [nv_size, nv_size, HPQ.out.2.1]; rfl) (nv_one _ _) ?_))
              have hv := pg_var w11 q
              generalize (w11.alloc (.cells (nv .u8 zeroPg) 33)).setRow w11.heap.size (nv .u8 q) = w12 at hv ⊢
              have hb8 := H11.out.trans (hv.2.mono H11.out.size)
              have G3 := Lib.hid (And.intro (G2.out.1.below hb8 G2.out.1.lt) (And.intro (G2.out.2.1.below hb8 G2.out.2.1.lt) (And.intro hv.1 (G2.out.2.2.below hb8))))
              clear hv hb8 hrx H11 G2
              generalize w11.heap.size = b3 at *
              have hrx := G3.out.2.2.2.e.dk.read (k : Int)
              rw [HZ.out.2.2, ← HPQ.out.2.2.2.2] at hrx
              go_upto_region 48 with (first
                | (go_at_call 15; (with_reducible refine hrx.mono ?_); rintro e w13 ⟨v13, rfl, hv13, hb13⟩; obtain rfl := res_nil hv13; have H13 := Lib.hid hb13; clear hb13)
                | (refine wpList_alloc_info (by rfl) 33 (by rfl) (.agg (nv .u8 zeroPg)) (nv .u8 zeroPg) (by kernel_rfl) rfl ?_)
                | (refine wpList_store_row (by rfl) 33 (.tmp 27) (.tmp 155) (by rfl) _ (nv .u8 q) (by rfl) (by rfl) 33 (nv .u8 zeroPg) (heap_alloc_new _ _) (info_pg _ HPQ.out.2.1) (by rw [nv_size, nv_size, HPQ.out.2.1]; rfl) (nv_one _ _) ?_))
              have hv := pg_var w13 q
              generalize (w13.alloc (.cells (nv .u8 zeroPg) 33)).setRow w13.heap.size (nv .u8 q) = w14 at hv ⊢
              have hb8 := H13.out.trans (hv.2.mono H13.out.size)
              have G4 := Lib.hid (And.intro (G3.out.1.below hb8 G3.out.1.lt) (And.intro (G3.out.2.1.below hb8 G3.out.2.1.lt) (And.intro (G3.out.2.2.1.below hb8 G3.out.2.2.1.lt) (And.intro hv.1 (G3.out.2.2.2.below hb8)))))
              clear hv hb8 hrx H13 G3
              generalize w13.heap.size = b4 at *
              go_wp2_with (first
                | (refine wpList_load_row_g (by rfl) 33 (.tmp 21) (by rfl) b1 (by rfl) 33 (nv .u8 p) (0, 0) _ G4.out.1 Tryd.underlying33 rfl (info_pg _ HPQ.out.1) ?_)
                | (refine wpList_load_row_g (by rfl) 33 (.tmp 23) (by rfl) b2 (by rfl) 33 (nv .u8 p) (0, 0) _ G4.out.2.1 Tryd.underlying33 rfl (info_pg _ HPQ.out.1) ?_)
                | (refine wpList_load_row_g (by rfl) 33 (.tmp 25) (by rfl) b3 (by rfl) 33 (nv .u8 q) (0, 0) _ G4.out.2.2.1 Tryd.underlying33 rfl (info_pg _ HPQ.out.2.1) ?_)
                | (refine wpList_load_row_g (by rfl) 33 (.tmp 27) (by rfl) b4 (by rfl) 33 (nv .u8 q) (0, 0) _ G4.out.2.2.2.1 Tryd.underlying33 rfl (info_pg _ HPQ.out.2.1) ?_)
                | (refine wpList_neq_same (by rfl) (.tmp 157) (.tmp 158) (by rfl) p HPQ.out.1 (by rfl) (by rfl) ?_)
                | (refine wpList_neq_same (by rfl) (.tmp 161) (.tmp 162) (by rfl) q HPQ.out.2.1 (by rfl) (by rfl) ?_))
              go_round
              case rel => exact ⟨k + 1, by omega, by go_num, G4.out.2.2.2.2⟩
              case measure => simp [intOf]; omega
            · obtain rfl : k = 10 := by omega
              go_wp2_with fail
              go_ret
              exact ⟨rfl, HR5.out.bel⟩
          -- >
      -- }
end Go.Proofs.YtjmjfgbpjecgfaaDoor
