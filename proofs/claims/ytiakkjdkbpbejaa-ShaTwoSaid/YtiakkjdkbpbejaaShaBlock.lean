/-
  sha: block, of the program.
-/
import Derived.Test.YtiakkjdkbpbejaaShaWords
import Derived.StillTailTactics
import Derived.Lib.EndianBits
import Derived.Deep.RegionHeld3
namespace Go.Proofs.Ytiakkjdkbpbejaa
set_option linter.unusedVariables false
set_option linter.unusedSimpArgs false
open Go.RowKit

/-- The i-th word of a block's schedule. -/
def wd (p : List Nat) (i : Nat) : Nat := (ws p 48).getD i 0
theorem ws0 (p : List Nat) (i : Nat) (h : i < 16) : (ws p 0).getD i 0 = word p i := by
  simp [ws, List.getD, h]
theorem wd_of (p : List Nat) (i k : Nat) (hk : k ≤ 48) (h : i < 16 + k) : wd p i = (ws p k).getD i 0 := ws_get p i k 48 hk h
theorem wd_lo (p : List Nat) (i : Nat) (h : i < 16) : wd p i = word p i := (wd_of p i 0 (by omega) (by omega)).trans (ws0 p i h)
theorem getD_last (l : List Nat) (x j : Nat) (h : j = l.length) : (l ++ [x]).getD j 0 = x := by
  subst h
  simp [List.getD]
theorem ws_new (p : List Nat) (k : Nat) : (ws p (k + 1)).getD (k + 16) 0 = ((ws p k).getD k 0 + sg0 ((ws p k).getD (k + 1) 0) + (ws p k).getD (k + 9) 0 + sg1 ((ws p k).getD (k + 14) 0)) % 4294967296 :=
  getD_last (ws p k) _ (k + 16) (by rw [ws_length]; omega)
theorem wd_hi (p : List Nat) (k : Nat) (h : k < 48) : wd p (k + 16) = (wd p k + sg0 (wd p (k + 1)) + wd p (k + 9) + sg1 (wd p (k + 14))) % 4294967296 := by
  rw [wd_of p (k + 16) (k + 1) (by omega) (by omega), ws_new, ← wd_of p k k (by omega) (by omega), ← wd_of p (k + 1) k (by omega) (by omega), ← wd_of p (k + 9) k (by omega) (by omega), ← wd_of p (k + 14) k (by omega) (by omega)]
theorem word_lt (p : List Nat) (h : ∀ c ∈ p, c < 256) (i : Nat) (hi : 4 * i + 3 < p.length) : word p i < 4294967296 := by
  have g : ∀ j, j < p.length → p.getD j 0 < 256 := fun j hj => h _ (by simp [List.getD, List.getElem?_eq_getElem hj])
  have h0 := g (4 * i) (by omega)
  have h1 := g (4 * i + 1) (by omega)
  have h2 := g (4 * i + 2) (by omega)
  have h3 := g (4 * i + 3) (by omega)
  unfold word
  omega
theorem wd_lt (p : List Nat) (h : ∀ c ∈ p, c < 256) (hl : p.length = 64) (i : Nat) (hi : i < 64) : wd p i < 4294967296 := by
  by_cases h16 : i < 16
  · rw [wd_lo p i h16]; exact word_lt p h i (by omega)
  · obtain ⟨k, rfl⟩ : ∃ k, i = k + 16 := ⟨i - 16, by omega⟩
    rw [wd_hi p k (by omega)]; omega
/-- The schedule's array, k words laid. -/
def wrow (p : List Nat) (k : Nat) : List Nat := (List.range 64).map fun i => if i < k then wd p i else 0
theorem wrow_length (p : List Nat) (k : Nat) : (wrow p k).length = 64 := by simp [wrow]
theorem wrow_get (p : List Nat) (k i : Nat) (h : i < 64) : (wrow p k).getD i 0 = if i < k then wd p i else 0 := by simp [wrow, List.getD, h]
theorem wrow_zero (p : List Nat) : List.replicate 64 0 = wrow p 0 := by
  have e : ∀ n : Nat, List.replicate n 0 = (List.range n).map fun i => if i < 0 then wd p i else 0 := by
    intro n
    apply List.ext_getElem?; intro i
    by_cases h : i < n <;> simp [List.getElem?_replicate, h]
  exact e 64
theorem zero_64w (p : List Nat) (w : World) : (zeroValue 46).run Try.prog w = .ok (.agg (nv .u32 (wrow p 0))) w := by
  rw [← wrow_zero]; exact zero_64 w
theorem wrow_set (p : List Nat) (k : Nat) (h : k < 64) : (wrow p k).set k (wd p k) = wrow p (k + 1) := by
  apply List.ext_getElem?; intro i
  rw [List.getElem?_set]
  by_cases hi : i < 64
  · by_cases he : k = i
    · subst he; simp [wrow, hi]
    · rw [if_neg he]
      simp [wrow, hi]
      have : (i < k + 1) ↔ (i < k) := by omega
      simp [this]
  · rw [List.getElem?_eq_none (by rw [wrow_length]; omega), if_neg (by omega), List.getElem?_eq_none (by rw [wrow_length]; omega)]
theorem wrow_cell (p : List Nat) (k i : Nat) (h : i < k) (hk : k ≤ 64) : (nv .u32 (wrow p k))[i]? = some (.int .u32 (wd p i : Nat)) := by
  rw [nv_get _ _ _ (by rw [wrow_length]; omega), wrow_get _ _ _ (by omega), if_pos h]

/-- A hash's cells. -/
def hashC (h : List Nat) (v : Value) (n : Nat) : Array Value := (nv .u32 h).push v |>.push (.int .u64 (n : Int))

theorem or4 (c0 c1 c2 c3 : Nat) (h0 : c0 < 256) (h1 : c1 < 256) (h2 : c2 < 256) (h3 : c3 < 256) :
    bits .or .u32 (bits .or .u32 (bits .or .u32 (c0 * 16777216) (c1 * 65536)) (c2 * 256)) c3 = ((c0 * 16777216 + c1 * 65536 + c2 * 256 + c3 : Nat) : Int) := by
  rw [bits_join .u32 32 (by decide) wraps_u32 24 (c0 * 16777216 : Int) (c1 * 65536 : Int) (by omega) (by omega) (by omega) (by omega) (by omega) (by omega),
    bits_join .u32 32 (by decide) wraps_u32 16 _ (c2 * 256 : Int) (by omega) (by omega) (by omega) (by omega) (by omega) (by omega),
    bits_join .u32 32 (by decide) wraps_u32 8 _ (c3 : Int) (by omega) (by omega) (by omega) (by omega) (by omega) (by omega)]
  omega

theorem or4w (c0 c1 c2 c3 : Nat) (h0 : c0 < 256) (h1 : c1 < 256) (h2 : c2 < 256) (h3 : c3 < 256) :
    bits .or .u32 (bits .or .u32 (bits .or .u32 (IntKind.u32.wrap (IntKind.u32.wrap c0 * 16777216)) (IntKind.u32.wrap (IntKind.u32.wrap c1 * 65536))) (IntKind.u32.wrap (IntKind.u32.wrap c2 * 256))) (IntKind.u32.wrap c3) = ((c0 * 16777216 + c1 * 65536 + c2 * 256 + c3 : Nat) : Int) := by
  have e : ∀ n : Int, 0 ≤ n → n < 4294967296 → IntKind.u32.wrap n = n := fun n a b => by rw [IntKind.wrap_u32]; omega
  rw [e c0 (by omega) (by omega), e c1 (by omega) (by omega), e c2 (by omega) (by omega), e c3 (by omega) (by omega), e (c0 * 16777216) (by omega) (by omega), e (c1 * 65536) (by omega) (by omega), e (c2 * 256) (by omega) (by omega)]
  exact or4 c0 c1 c2 c3 h0 h1 h2 h3

theorem cell_set_far {w : World} {b g i j : Nat} {v : Value} (h : b ≠ g) : (w.setCell ⟨g, i, none⟩ v).cell? ⟨b, j, none⟩ = w.cell? ⟨b, j, none⟩ :=
  World.cell?_of_block (w := w) (Below.heap_setCell w ⟨g, i, none⟩ v b h)
theorem cell_set_far' {w : World} {b g i j : Nat} {v : Value} (h : b ≠ g) : (w.setCell ⟨g, i, none⟩ v).drew.cell? ⟨b, j, none⟩ = w.cell? ⟨b, j, none⟩ :=
  World.cell?_of_block (w := w) (Below.heap_setCell w ⟨g, i, none⟩ v b h)

theorem cell_set_off {w : World} {g i j : Nat} {v : Value} (h : i ≠ j) : (w.setCell ⟨g, i, none⟩ v).drew.cell? ⟨g, j, none⟩ = w.cell? ⟨g, j, none⟩ :=
  World.cell?_setCell_other w _ _ v (by simp [h])
theorem xor_u32 (a b : Nat) (ha : a < 4294967296) (hb : b < 4294967296) : bits .xor .u32 (a : Int) (b : Int) = ((a ^^^ b : Nat) : Int) := u32_xor_nat a b ha hb
theorem sg0_v (x : Nat) (hx : x < 4294967296) : bits .xor .u32 (bits .xor .u32 (rot x 7 : Nat) (rot x 18 : Nat)) ((x : Int) / 8) = ((sg0 x : Nat) : Int) := by
  rw [xor_u32 _ _ (rot_lt _ _) (rot_lt _ _)]
  exact xor_u32 _ (x / 8) (xor_lt (rot_lt _ _) (rot_lt _ _)) (by omega)
theorem sg1_v (x : Nat) (hx : x < 4294967296) : bits .xor .u32 (bits .xor .u32 (rot x 17 : Nat) (rot x 19 : Nat)) ((x : Int) / 1024) = ((sg1 x : Nat) : Int) := by
  rw [xor_u32 _ _ (rot_lt _ _) (rot_lt _ _)]
  exact xor_u32 _ (x / 1024) (xor_lt (rot_lt _ _) (rot_lt _ _)) (by omega)
theorem wrap_u32n (a : Nat) : IntKind.u32.wrap (a : Int) = ((a % 4294967296 : Nat) : Int) := by rw [IntKind.wrap_u32]; omega
theorem sum4_v (a b c d : Nat) : IntKind.u32.wrap (IntKind.u32.wrap (IntKind.u32.wrap ((a : Int) + b) + c) + d) = (((a + b + c + d) % 4294967296 : Nat) : Int) := by
  rw [IntKind.wrap_u32, IntKind.wrap_u32, IntKind.wrap_u32]; omega

theorem isBlk_setRowOther {w : World} {b g : Nat} {cs : Array Value} {t : TypeId} (h : IsBlk w b cs t) (hne : g ≠ b) (ds : Array Value) : IsBlk (w.setRow g ds) b cs t := by
  have h' : w.heap[b]? = some (.cells cs t) := h
  show (w.setRow g ds).heap[b]? = _
  simp [World.setRow, Array.getElem?_modify, h', hne]
/-- The state behind k rounds over a block. -/
def rst (p h : List Nat) (k : Nat) : St := rounds (ws p 48) (toSt h) k
theorem rst_zero (p h : List Nat) : rst p h 0 = toSt h := rfl
theorem rst_succ (p h : List Nat) (k : Nat) : rst p h (k + 1) = step (rst p h k) (kw.getD k 0) (wd p k) := rfl
/-- Each number of a state is one of 32 bits. -/
structure StOk (s : St) : Prop where
  a : s.a < 4294967296
  b : s.b < 4294967296
  c : s.c < 4294967296
  d : s.d < 4294967296
  e : s.e < 4294967296
  f : s.f < 4294967296
  g : s.g < 4294967296
  l : s.l < 4294967296
theorem step_ok {s : St} (h : StOk s) (k w : Nat) : StOk (step s k w) := by
  obtain ⟨h1, h2, h3, h4, h5, h6, h7, h8⟩ := h
  exact ⟨Nat.mod_lt _ (by decide), h1, h2, h3, Nat.mod_lt _ (by decide), h5, h6, h7⟩
theorem rst_ok (p h : List Nat) (hh : ∀ i, h.getD i 0 < 4294967296) : ∀ k, StOk (rst p h k)
  | 0 => ⟨hh 0, hh 1, hh 2, hh 3, hh 4, hh 5, hh 6, hh 7⟩
  | k + 1 => by rw [rst_succ]; exact step_ok (rst_ok p h hh k) _ _
theorem kw_lt (i : Nat) : kw.getD i 0 < 4294967296 := by
  have h : ∀ c ∈ kw, c < 4294967296 := by decide
  by_cases hi : i < kw.length
  · exact h _ (by simp [List.getD, List.getElem?_eq_getElem hi])
  · simp [List.getD, List.getElem?_eq_none (show kw.length ≤ i by omega)]
theorem comp_rst (h p : List Nat) : comp h p = addTo h (ofSt (rst p h 64)) := rfl
theorem and_u32 (a b : Nat) (ha : a < 4294967296) (hb : b < 4294967296) : bits .and .u32 (a : Int) (b : Int) = ((a &&& b : Nat) : Int) := u32_and_nat a b ha hb
theorem S1_v (x : Nat) : bits .xor .u32 (bits .xor .u32 (rot x 6 : Nat) (rot x 11 : Nat)) (rot x 25 : Nat) = ((S1 x : Nat) : Int) := by
  rw [xor_u32 _ _ (rot_lt _ _) (rot_lt _ _)]
  exact xor_u32 _ _ (xor_lt (rot_lt _ _) (rot_lt _ _)) (rot_lt _ _)
theorem S0_v (x : Nat) : bits .xor .u32 (bits .xor .u32 (rot x 2 : Nat) (rot x 13 : Nat)) (rot x 22 : Nat) = ((S0 x : Nat) : Int) := by
  rw [xor_u32 _ _ (rot_lt _ _) (rot_lt _ _)]
  exact xor_u32 _ _ (xor_lt (rot_lt _ _) (rot_lt _ _)) (rot_lt _ _)
theorem mj_v (a b c : Nat) (ha : a < 4294967296) (hb : b < 4294967296) (hc : c < 4294967296) : bits .xor .u32 (bits .xor .u32 (bits .and .u32 (a : Int) (b : Int)) (bits .and .u32 (a : Int) (c : Int))) (bits .and .u32 (b : Int) (c : Int)) = ((mj a b c : Nat) : Int) := by
  rw [and_u32 _ _ ha hb, and_u32 _ _ ha hc, and_u32 _ _ hb hc, xor_u32 _ _ (and_lt hb) (and_lt hc)]
  exact xor_u32 _ _ (xor_lt (and_lt hb) (and_lt hc)) (and_lt hc)

theorem drawn_below {B : Nat} {a w : World} (h : Below B a w) (n : Nat) : Below B a (w.drewN n) := ⟨h.os, h.tape, h.output, h.size, h.block⟩
theorem not_v (e : Nat) (he : e < 4294967296) : bits .xor .u32 IntKind.u32.max (e : Int) = ((4294967295 - e : Nat) : Int) := by
  have h := u32_xor_nat 4294967295 e (by decide) he
  have h2 : 4294967295 ^^^ e = 4294967295 - e := by
    apply Nat.eq_of_testBit_eq
    intro i
    have e1 := Nat.testBit_two_pow_sub_one 32 i
    have e2 := Nat.testBit_two_pow_sub_succ (n := 32) (x := e) (by simpa using he) i
    have e3 : 2 ^ 32 - (e + 1) = 4294967295 - e := by omega
    rw [e3] at e2
    rw [Nat.testBit_xor, e2]
    have e4 : (4294967295 : Nat).testBit i = decide (i < 32) := e1
    rw [e4]
    by_cases hi : i < 32
    · simp [hi]
    · have : e.testBit i = false := Nat.testBit_lt_two_pow (Nat.lt_of_lt_of_le he (by rw [show 4294967296 = 2 ^ 32 from rfl]; exact Nat.pow_le_pow_right (by decide) (by omega)))
      simp [hi, this]
  rw [h2] at h
  exact h
theorem ch_v (e f g : Nat) (he : e < 4294967296) (hf : f < 4294967296) (hg : g < 4294967296) :
    bits .xor .u32 (bits .and .u32 (e : Int) (f : Int)) (bits .and .u32 (bits .xor .u32 IntKind.u32.max (e : Int)) (g : Int)) = ((ch e f g : Nat) : Int) := by
  rw [not_v e he, and_u32 _ _ he hf, and_u32 _ _ (by omega) hg]
  exact xor_u32 _ _ (and_lt hf) (and_lt hg)
theorem mod5_v (a b c d e : Nat) : ((a : Int) + b + c + d + e) % 4294967296 = (((a + b + c + d + e) % 4294967296 : Nat) : Int) := by omega
theorem mod2_v (a b : Nat) : ((a : Int) + b) % 4294967296 = (((a + b) % 4294967296 : Nat) : Int) := by omega

theorem list8 (h : List Nat) (hh : h.length = 8) : ∃ h0 h1 h2 h3 h4 h5 h6 h7, h = [h0, h1, h2, h3, h4, h5, h6, h7] := by
  match h, hh with
  | [h0, h1, h2, h3, h4, h5, h6, h7], _ => exact ⟨h0, h1, h2, h3, h4, h5, h6, h7, rfl⟩
/-- copy within the row of a state: seven of the eight a step on. -/
theorem step_rot {ops : Array Oper} {o : Oper} {a : Act} {w : World} {K : Act → World → Prop} {Q : Exit → Act → World → Prop} {E : Prop} (hgd : o.guard = none) (d s : Operand)
    (ho : o.op = .call { callee := .builtin .copy, args := #[d, s], argTypes := #[49, 49] }) (vb : Nat)
    (hd : a.eval d = .slice (some ⟨vb, 1, none⟩) 7 7) (hs : a.eval s = .slice (some ⟨vb, 0, none⟩) 7 8) (x0 x1 x2 x3 x4 x5 x6 x7 : Nat) (hg : IsBlk w vb (nv .u32 [x0, x1, x2, x3, x4, x5, x6, x7]) 40)
    (h : ∀ w', IsBlk w' vb (nv .u32 [x0, x0, x1, x2, x3, x4, x5, x6]) 40 → But (fun k => k = vb) w w' → K (a.put o.dst (.int .i64 7)) w') : if Region.wanted o (yielded ops a.tmps) = true then Oper.wp Try.prog o a w K Q else E := by
  rw [if_pos (by simp [Region.wanted, hgd])]
  have hrun := run_copy_row (P := Try.prog) w 49 49 o.type 39 vb 1 7 7 ⟨vb, 0, none⟩ 7 8 (nv .u32 [x0, x1, x2, x3, x4, x5, x6, x7]) 40 [.int .u32 x0, .int .u32 x1, .int .u32 x2, .int .u32 x3, .int .u32 x4, .int .u32 x5, .int .u32 x6]
    (by kernel_rfl) (by kernel_rfl) hg rfl (fun j v hj => by
      have hj7 : j < 7 := (List.getElem?_eq_some_iff.1 hj).1
      rw [Go.WideShapes.add_plain]
      refine hg.cell (0 + j) ?_
      rw [← hj]
      match j, hj7 with
      | 0, _ => rfl
      | 1, _ => rfl
      | 2, _ => rfl
      | 3, _ => rfl
      | 4, _ => rfl
      | 5, _ => rfl
      | 6, _ => rfl) (by simp [nv]) (by simp [Value.oneCell'])
  have hnew : ((nv .u32 [x0, x1, x2, x3, x4, x5, x6, x7]).toList.take 1 ++ [Value.int .u32 x0, .int .u32 x1, .int .u32 x2, .int .u32 x3, .int .u32 x4, .int .u32 x5, .int .u32 x6] ++ (nv .u32 [x0, x1, x2, x3, x4, x5, x6, x7]).toList.drop (1 + 7)).toArray = nv .u32 [x0, x0, x1, x2, x3, x4, x5, x6] := rfl
  simp only [List.length_cons, List.length_nil] at hrun
  rw [hnew] at hrun
  unfold Oper.wp
  simp [execOp, ho, resolve, invoke, builtin, hd, hs, hrun, Result.andThen]
  refine h _ (isBlk_setRow hg _) ⟨rfl, rfl, rfl, by simp [World.setRow], fun k hk hn => ?_⟩
  simp only [World.setRow, Array.getElem?_modify]
  rw [if_neg (fun e => hn e.symm)]

theorem hashC_get (l : List Nat) (v : Value) (n j : Nat) (h : j < l.length) : (hashC l v n)[j]? = some (.int .u32 ((l.getD j 0 : Nat) : Int)) := by
  unfold hashC
  rw [Array.getElem?_push, if_neg (by simp [nv_size]; omega), Array.getElem?_push, if_neg (by simp [nv_size]; omega)]
  exact nv_get .u32 l j h
theorem hashC_set (l : List Nat) (v : Value) (n j x : Nat) (h : j < l.length) : (hashC l v n).setIfInBounds j (.int .u32 (x : Int)) = hashC (l.set j x) v n := by
  unfold hashC
  rw [← nv_set]
  apply Array.ext'
  simp only [Array.toList_setIfInBounds, Array.toList_push]
  rw [List.set_append_left _ _ (by simp [nv]; omega), List.set_append_left _ _ (by simp [nv]; omega)]
/-- The sums, j of the eight laid. -/
def addRow (h V : List Nat) (j : Nat) : List Nat := (List.range 8).map fun i => if i < j then (h.getD i 0 + V.getD i 0) % 4294967296 else h.getD i 0
theorem addRow_length (h V : List Nat) (j : Nat) : (addRow h V j).length = 8 := by simp [addRow]
theorem addRow_get (h V : List Nat) (j i : Nat) (hi : i < 8) : (addRow h V j).getD i 0 = if i < j then (h.getD i 0 + V.getD i 0) % 4294967296 else h.getD i 0 := by simp [addRow, List.getD, hi]
theorem addRow_zero (h V : List Nat) (hh : h.length = 8) : addRow h V 0 = h := by
  apply List.ext_getElem?; intro i
  by_cases hi : i < 8
  · simp [addRow, hi, List.getD, List.getElem?_eq_getElem (show i < h.length by omega)]
  · rw [List.getElem?_eq_none (by rw [addRow_length]; omega), List.getElem?_eq_none (by omega)]
theorem addRow_end (h V : List Nat) : addRow h V 8 = addTo h V := by
  unfold addRow addTo
  apply List.map_congr_left
  intro i hi
  rw [if_pos (by simpa using hi)]
theorem addRow_set (h V : List Nat) (j : Nat) (hj : j < 8) : (addRow h V j).set j ((h.getD j 0 + V.getD j 0) % 4294967296) = addRow h V (j + 1) := by
  apply List.ext_getElem?; intro i
  rw [List.getElem?_set]
  by_cases hi : i < 8
  · by_cases he : j = i
    · subst he; simp [addRow, hi]
    · rw [if_neg he]
      simp [addRow, hi]
      have : (i < j + 1) ↔ (i < j) := by omega
      simp [this]
  · rw [List.getElem?_eq_none (by rw [addRow_length]; omega), if_neg (by omega), List.getElem?_eq_none (by rw [addRow_length]; omega)]
theorem ofSt_length (s : St) : (ofSt s).length = 8 := rfl

set_option maxRecDepth 100000 in
set_option maxHeartbeats 4000000 in
theorem block_any (hb : Nat) (h : List Nat) (v : Value) (n : Nat) (a : Option Addr) (p : List Nat) (cap : Nat) (w : World)
    (hk : IsBlk w hb (hashC h v n) 42) (hp : IsBytes w a p) (hl : p.length = 64) (hh : h.length = 8) (hlt : ∀ i, h.getD i 0 < 4294967296) :
    Calls Try.prog 15 #[.pointer (some ⟨hb, 0, none⟩), .slice a 64 cap] w fun e w' => e = .returned (.tuple #[]) ∧ IsBlk w' hb (hashC (comp h p) v n) 42 ∧ But (fun k => k = hb) w w' := by
  obtain ⟨h0, h1, h2, h3, h4, h5, h6, h7, rfl⟩ := list8 h hh
  obtain ⟨hp1, hp2⟩ := hp
  obtain ⟨b, off, rfl, hc⟩ := hp2.resolve_left (by rintro rfl; simp at hl)
  have hz := zero_64w p
  have HL := Lib.hid hl
  have HK := Lib.hid hk
  have HH := Lib.hid hh
  have HC : Hid (∀ i, i < 64 → w.cell? ⟨b, off + i, none⟩ = some (.int .u8 (p.getD i 0 : Nat))) := fun i hi => hc i (by omega)
  have HP : Hid (∀ i, i < 64 → p.getD i 0 < 256) := fun i hi => hp1 _ (by simp [List.getD, List.getElem?_eq_getElem (show i < p.length by omega)])
  have HP1 := Lib.hid hp1
  have HLT := Lib.hid hlt
  have hbw : b < w.heap.size := cell?_some_lt (hc 0 (by omega))
  clear hc hp1 hp2 hl hh hk hlt
  go_enter Try.func15, Try.ntmps15
  go_wp2
  go_loopw [17] (fun i wr => ∃ k : Nat, k ≤ 16 ∧ i = .int .i64 k ∧ IsBlk wr w.heap.size (nv .u32 (wrow p k)) 46 ∧ Below w.heap.size w wr) (fun i _ => 16 - (intOf i).toNat)
  case atStart => exact ⟨0, by omega, rfl, IsBlk.new _ _ _, (Below.refl _ _).alloc (Nat.le_refl _) _⟩
  case round =>
    obtain ⟨k, hk16, rfl, hblk, hbel⟩ := hrel
    by_cases hlt : k < 16
    ·
      -- {
      obtain ⟨q, hq⟩ : ∃ q, q = 4 * k := ⟨_, rfl⟩
      have f0 := (hbel.cell (p := ⟨b, off + q, none⟩) hbw).trans (HC.out q (by omega))
      have f1 := (hbel.cell (p := ⟨b, off + (q + 1), none⟩) hbw).trans (HC.out (q + 1) (by omega))
      have f2 := (hbel.cell (p := ⟨b, off + (q + 2), none⟩) hbw).trans (HC.out (q + 2) (by omega))
      have f3 := (hbel.cell (p := ⟨b, off + (q + 3), none⟩) hbw).trans (HC.out (q + 3) (by omega))
      have g0 := HP.out q (by omega)
      have g1 := HP.out (q + 1) (by omega)
      have g2 := HP.out (q + 2) (by omega)
      have g3 := HP.out (q + 3) (by omega)
      have e := or4w _ _ _ _ g0 g1 g2 g3
      have hwk : p.getD q 0 * 16777216 + p.getD (q + 1) 0 * 65536 + p.getD (q + 2) 0 * 256 + p.getD (q + 3) 0 = wd p k := by rw [wd_lo p k hlt, hq]; rfl
      rw [hwk] at e
      have b0 : (0 : Int) ≤ (q : Int) := by omega
      have b1 : (q : Int) < 64 := by omega
      have b2 : (q : Int) + 1 < 64 := by omega
      have b3 : (q : Int) + 2 < 64 := by omega
      have b4 : (q : Int) + 3 < 64 := by omega
      have b5 : (0 : Int) ≤ (q : Int) + 1 := by omega
      have b6 : (0 : Int) ≤ (q : Int) + 2 := by omega
      have b7 : (0 : Int) ≤ (q : Int) + 3 := by omega
      have t1 : ((q : Int) + 1).toNat = q + 1 := by omega
      have t2 : ((q : Int) + 2).toNat = q + 2 := by omega
      have t3 : ((q : Int) + 3).toNat = q + 3 := by omega
      have w0 : IntKind.i64.wrap (4 * (k : Int)) = (q : Int) := by rw [IntWalk.i64_in _ (by omega)]; omega
      have w1 : IntKind.i64.wrap ((q : Int) + 1) = (q : Int) + 1 := IntWalk.i64_in _ (by omega)
      have w2 : IntKind.i64.wrap ((q : Int) + 2) = (q : Int) + 2 := IntWalk.i64_in _ (by omega)
      have w3 : IntKind.i64.wrap ((q : Int) + 3) = (q : Int) + 3 := IntWalk.i64_in _ (by omega)
      have c0 : (0 : Int) ≤ (k : Int) := by omega
      have c1 : (k : Int) < 64 := by omega
      have hne : b ≠ w.heap.size := by omega
      have hg := hblk.cell k (show (nv .u32 (wrow p k))[k]? = some (.int .u32 0) by rw [nv_get _ _ _ (by rw [wrow_length]; omega), wrow_get _ _ _ (by omega)]; simp)
      have hfz := hblk.fz k
      have hs : (nv .u32 (wrow p k)).setIfInBounds k (.int .u32 ((wd p k : Nat) : Int)) = nv .u32 (wrow p (k + 1)) := by rw [nv_set, wrow_set _ _ (by omega)]
      have HE := Lib.hid (And.intro hblk (And.intro hbel hs))
      clear hwk hq hblk hbel hs
      generalize p.getD q 0 = x0 at *
      generalize p.getD (q + 1) 0 = x1 at *
      generalize p.getD (q + 2) 0 = x2 at *
      generalize p.getD (q + 3) 0 = x3 at *
      go_wp2
      go_region_held3 (fun w' => w'.cell? ⟨b, off + q, none⟩ = some (.int .u8 x0) ∧ w'.cell? ⟨b, off + (q + 1), none⟩ = some (.int .u8 x1) ∧ w'.cell? ⟨b, off + (q + 2), none⟩ = some (.int .u8 x2) ∧ w'.cell? ⟨b, off + (q + 3), none⟩ = some (.int .u8 x3)) (first | (go_keep; done) | (refine ⟨?_, ?_, ?_, ?_⟩ <;> (rw [cell_set_far' hne]; assumption))) (fail)
      go_wp2
      go_roundw
      case rel =>
        have h1 := HE.out.1.drew.set k (.int .u32 ((wd p k : Nat) : Int))
        rw [HE.out.2.2] at h1
        exact ⟨k + 1, by omega, by go_num, h1, HE.out.2.1.drew.setCell (Nat.le_refl _) _⟩
      case measure => simp [intOf]; omega
      -- }
    · have hk : k = 16 := by omega
      rw [hk] at hblk
      have HB1 := Lib.hid (And.intro hblk hbel)
      clear hblk hbel hk
      go_wp2
      go_loopw [6] (fun i wr => ∃ k : Nat, 16 ≤ k ∧ k ≤ 64 ∧ i = .int .i64 k ∧ IsBlk wr w.heap.size (nv .u32 (wrow p k)) 46 ∧ Below w.heap.size w wr) (fun i _ => 64 - (intOf i).toNat)
      case atStart => exact ⟨16, by omega, by omega, rfl, HB1.out.1, HB1.out.2⟩
      case round =>
        clear HB1
        obtain ⟨i, hi16, hi64, rfl, hblk, hbel⟩ := hrel
        by_cases hlt : i < 64
        ·
          -- {
          obtain ⟨k, hk⟩ : ∃ k, i = k + 16 := ⟨i - 16, by omega⟩
          obtain ⟨q1, hq1⟩ : ∃ q, q = k + 1 := ⟨_, rfl⟩
          obtain ⟨q2, hq2⟩ : ∃ q, q = k + 9 := ⟨_, rfl⟩
          obtain ⟨q3, hq3⟩ : ∃ q, q = k + 14 := ⟨_, rfl⟩
          have e0 := hblk.cell k (wrow_cell p i k (by omega) hi64)
          have e1 := hblk.cell q1 (wrow_cell p i q1 (by omega) hi64)
          have e2 := hblk.cell q2 (wrow_cell p i q2 (by omega) hi64)
          have e3 := hblk.cell q3 (wrow_cell p i q3 (by omega) hi64)
          have l0 := wd_lt p HP1.out HL.out k (by omega)
          have l1 := wd_lt p HP1.out HL.out q1 (by omega)
          have l2 := wd_lt p HP1.out HL.out q2 (by omega)
          have l3 := wd_lt p HP1.out HL.out q3 (by omega)
          have hw := wd_hi p k (by omega)
          rw [← hk, ← hq1, ← hq2, ← hq3] at hw
          have w0 : IntKind.i64.wrap ((i : Int) - 15) = (q1 : Int) := by rw [IntWalk.i64_in _ (by omega)]; omega
          have w1 : IntKind.i64.wrap ((i : Int) - 2) = (q3 : Int) := by rw [IntWalk.i64_in _ (by omega)]; omega
          have w2 : IntKind.i64.wrap ((i : Int) - 16) = (k : Int) := by rw [IntWalk.i64_in _ (by omega)]; omega
          have w3 : IntKind.i64.wrap ((i : Int) - 7) = (q2 : Int) := by rw [IntWalk.i64_in _ (by omega)]; omega
          have b0 : (0 : Int) ≤ (q1 : Int) := by omega
          have b1 : (q1 : Int) < 64 := by omega
          have b2 : (0 : Int) ≤ (q2 : Int) := by omega
          have b3 : (q2 : Int) < 64 := by omega
          have b4 : (0 : Int) ≤ (q3 : Int) := by omega
          have b5 : (q3 : Int) < 64 := by omega
          have b6 : (0 : Int) ≤ (k : Int) := by omega
          have b7 : (k : Int) < 64 := by omega
          have b8 : (0 : Int) ≤ (i : Int) := by omega
          have b9 : (i : Int) < 64 := by omega
          have hg := hblk.cell i (show (nv .u32 (wrow p i))[i]? = some (.int .u32 0) by rw [nv_get _ _ _ (by rw [wrow_length]; omega), wrow_get _ _ _ (by omega)]; simp)
          have hfz := hblk.fz i
          have hs : (nv .u32 (wrow p i)).setIfInBounds i (.int .u32 ((wd p i : Nat) : Int)) = nv .u32 (wrow p (i + 1)) := by rw [nv_set, wrow_set _ _ (by omega)]
          have HE := Lib.hid (And.intro hblk (And.intro hbel (And.intro hs hw)))
          clear hblk hbel hs hw
          generalize wd p k = x0 at *
          generalize wd p q1 = x1 at *
          generalize wd p q2 = x2 at *
          generalize wd p q3 = x3 at *
          generalize wd p i = y at *
          have n1 : i ≠ k := by omega
          have n2 : i ≠ q2 := by omega
          clear hk hq1 hq2 hq3
          have E0 := sg0_v x1 l1
          have E1 := sg1_v x3 l3
          have E2 := sum4_v x0 (sg0 x1) x2 (sg1 x3)
          rw [← HE.out.2.2.2] at E2
          generalize sg0 x1 = y0 at *
          generalize sg1 x3 = y1 at *
          go_wp2
          go_quiet ((go_at_call 18; exact Calls.quiet_of_same (turn_q x1 _ l1 (by omega) (by omega) _)))
          go_wp2
          go_quiet ((go_at_call 18; exact quiet_more (turn_q x3 _ l3 (by omega) (by omega) _)))
          go_wp2
          go_region_held3 (fun w' => w'.cell? ⟨w.heap.size, k, none⟩ = some (.int .u32 x0) ∧ w'.cell? ⟨w.heap.size, q2, none⟩ = some (.int .u32 x2)) (first | exact ⟨(cell_set_off n1).trans e0, (cell_set_off n2).trans e2⟩ | exact ⟨e0, e2⟩) (fail)
          go_wp2
          go_roundw
          case rel =>
            have h1 := HE.out.1.set i (.int .u32 (y : Int))
            rw [HE.out.2.2.1] at h1
            exact ⟨i + 1, by omega, by omega, by go_num, h1, (drawn_below HE.out.2.1 _).setCell (Nat.le_refl _) _⟩
          case measure => simp [intOf]; omega
          -- }
        · obtain rfl : i = 64 := by omega
          have HB2 := Lib.hid (And.intro hblk hbel)
          have hkb := HK.out.below hbel HK.out.lt
          have hsz := hblk.lt
          have hc0 := hkb.cell 0 (v := .int .u32 h0) rfl
          have hc1 := hkb.cell 1 (v := .int .u32 h1) rfl
          have hc2 := hkb.cell 2 (v := .int .u32 h2) rfl
          have hc3 := hkb.cell 3 (v := .int .u32 h3) rfl
          have hc4 := hkb.cell 4 (v := .int .u32 h4) rfl
          have hc5 := hkb.cell 5 (v := .int .u32 h5) rfl
          have hc6 := hkb.cell 6 (v := .int .u32 h6) rfl
          have hc7 := hkb.cell 7 (v := .int .u32 h7) rfl
          clear hblk hbel hkb
          go_wp2_with fail
          refine (words_any _).mono ?_
          rintro e w2 ⟨rfl, hb2⟩
          go_wp2_with (first
            | (refine wpList_store_row (by rfl) 46 (.tmp 10) (.tmp 113) (by rfl) w2.heap.size (nv .u32 kw) (by rfl) (by rfl) 46 (nv .u32 (wrow p 0)) (heap_alloc_new w2 _) (by kernel_rfl) (by rw [nv_size, nv_size, kw_length, wrow_length]) (nv_one _ _) ?_))
          have hW0 : IsBlk (wr.alloc (.cells #[.int .u32 h0, .int .u32 h1, .int .u32 h2, .int .u32 h3, .int .u32 h4, .int .u32 h5, .int .u32 h6, .int .u32 h7] 40)) wr.heap.size #[.int .u32 h0, .int .u32 h1, .int .u32 h2, .int .u32 h3, .int .u32 h4, .int .u32 h5, .int .u32 h6, .int .u32 h7] 40 := IsBlk.new _ _ _
          have hA : Below wr.heap.size wr (wr.alloc (.cells #[.int .u32 h0, .int .u32 h1, .int .u32 h2, .int .u32 h3, .int .u32 h4, .int .u32 h5, .int .u32 h6, .int .u32 h7] 40)) := (Below.refl _ _).alloc (Nat.le_refl _) _
          have hA2 : Below wr.heap.size wr w2 := hA.trans (hb2.mono (by simp))
          have hsz2 : wr.heap.size < w2.heap.size := by have := hb2.size; simp at this; omega
          have hb3 : Below w.heap.size w w2 := HB2.out.2.trans (hA2.mono HB2.out.2.size)
          have hF : Below w.heap.size w ((w2.alloc (.cells (nv .u32 (wrow p 0)) 46)).setRow w2.heap.size (nv .u32 kw)) := below_setRow (hb3.alloc hb3.size _) _ hb3.size _
          have hK1 : IsBlk ((w2.alloc (.cells (nv .u32 (wrow p 0)) 46)).setRow w2.heap.size (nv .u32 kw)) w2.heap.size (nv .u32 kw) 46 := isBlk_setRow (IsBlk.new _ _ _) _
          have hV1 : IsBlk ((w2.alloc (.cells (nv .u32 (wrow p 0)) 46)).setRow w2.heap.size (nv .u32 kw)) wr.heap.size (nv .u32 (ofSt (rst p [h0, h1, h2, h3, h4, h5, h6, h7] 0))) 40 :=
            isBlk_setRowOther ((hW0.below hb2 (by simp)).alloc _) (by omega) _
          have hW1 : IsBlk ((w2.alloc (.cells (nv .u32 (wrow p 0)) 46)).setRow w2.heap.size (nv .u32 kw)) w.heap.size (nv .u32 (wrow p 64)) 46 :=
            isBlk_setRowOther ((HB2.out.1.below hA2 hsz).alloc _) (by omega) _
          have hH1 := HK.out.below hF HK.out.lt
          have HF := Lib.hid (And.intro hF (And.intro hK1 (And.intro hV1 (And.intro hW1 hH1))))
          have hv1 : w.heap.size < wr.heap.size := hsz
          clear hW0 hA hA2 hb3 hF hK1 hV1 hW1 hH1 hb2 hsz hc0 hc1 hc2 hc3 hc4 hc5 hc6 hc7 HB2
          generalize ((w2.alloc (.cells (nv .u32 (wrow p 0)) 46)).setRow w2.heap.size (nv .u32 kw)) = W3 at *
          generalize wr.heap.size = vb at *
          generalize w2.heap.size = kb at *
          go_loopw [114] (fun i wr => ∃ k : Nat, k ≤ 64 ∧ i = .int .i64 k ∧ Below w.heap.size w wr ∧ IsBlk wr kb (nv .u32 kw) 46 ∧ IsBlk wr vb (nv .u32 (ofSt (rst p [h0, h1, h2, h3, h4, h5, h6, h7] k))) 40 ∧ IsBlk wr w.heap.size (nv .u32 (wrow p 64)) 46) (fun i _ => 64 - (intOf i).toNat)
          case atStart => exact ⟨0, by omega, rfl, HF.out.1, HF.out.2.1, HF.out.2.2.1, HF.out.2.2.2.1⟩
          case round =>
            clear HF
            obtain ⟨k, hk64, rfl, hbel, hkb, hvb, hwb⟩ := hrel
            by_cases hlt : k < 64
            ·
              -- {
              have hst := rst_succ p [h0, h1, h2, h3, h4, h5, h6, h7] k
              have hok := rst_ok p [h0, h1, h2, h3, h4, h5, h6, h7] HLT.out k
              have ck := hkb.cell k (nv_get .u32 kw k (by rw [kw_length]; exact hlt))
              have cw := hwb.cell k (wrow_cell p 64 k hlt (by omega))
              have lk := kw_lt k
              have lw := wd_lt p HP1.out HL.out k hlt
              have HS := Lib.hid (And.intro hbel (And.intro hkb (And.intro hvb (And.intro hwb hst))))
              generalize rst p [h0, h1, h2, h3, h4, h5, h6, h7] k = s at *
              generalize kw.getD k 0 = kk at *
              generalize wd p k = ww at *
              obtain ⟨a, b', c, d, e, f, g, l⟩ := s
              obtain ⟨oa, ob, oc, od, oe, of, og, ol⟩ := hok
              have v0 := hvb.cell 0 (v := .int .u32 a) rfl
              have v1 := hvb.cell 1 (v := .int .u32 b') rfl
              have v2 := hvb.cell 2 (v := .int .u32 c) rfl
              have v3 := hvb.cell 3 (v := .int .u32 d) rfl
              have v4 := hvb.cell 4 (v := .int .u32 e) rfl
              have v5 := hvb.cell 5 (v := .int .u32 f) rfl
              have v6 := hvb.cell 6 (v := .int .u32 g) rfl
              have v7 := hvb.cell 7 (v := .int .u32 l) rfl
              have vz := hvb.fz
              clear hbel hkb hvb hwb hst
              simp only at oa ob oc od oe of og ol
              have X1 := S1_v e
              have X2 := ch_v e f g oe of og
              have X3 := mod5_v l (S1 e) (ch e f g) kk ww
              have X6 := mod2_v (S0 a) (mj a b' c)
              have X4 := S0_v a
              have X5 := mj_v a b' c oa ob oc
              have b0 : (0 : Int) ≤ (k : Int) := by omega
              have b1 : (k : Int) < 64 := by omega
              go_wp2
              go_quiet (fail)
              go_wp2
              go_quiet ((go_at_call 18; exact quiet_more (turn_q e _ oe (by omega) (by omega) _)))
              obtain ⟨t, ht⟩ : ∃ t, t = (l + S1 e + ch e f g + kk + ww) % 4294967296 := ⟨_, rfl⟩
              obtain ⟨u, hu⟩ : ∃ u, u = (S0 a + mj a b' c) % 4294967296 := ⟨_, rfl⟩
              rw [← ht] at X3
              rw [← hu] at X6
              have HT := Lib.hid (And.intro ht hu)
              clear ht hu
              go_wp2
              go_quiet ((go_at_call 18; exact quiet_more (turn_q a _ oa (by omega) (by omega) _)))
              go_wp2
              go_region_held3 (fun w' => True) (trivial) ((refine step_rot (by rfl) _ _ (by rfl) vb (by rfl) (by rfl) a b' c d e f g l (by exact HS.out.2.2.1) ?_; intro w4 hb4 hbut4))
              have v0' := hb4.cell 0 (v := .int .u32 a) rfl
              have v4' := hb4.cell 4 (v := .int .u32 d) rfl
              have vz' := hb4.fz
              obtain ⟨d2, hd2⟩ : ∃ x, x = (d + t) % 4294967296 := ⟨_, rfl⟩
              obtain ⟨a2, ha2⟩ : ∃ x, x = (t + u) % 4294967296 := ⟨_, rfl⟩
              have X7 := mod2_v d t
              have X8 := mod2_v t u
              rw [← hd2] at X7
              rw [← ha2] at X8
              have HB4 := Lib.hid (And.intro hb4 (And.intro hbut4 (And.intro hd2 ha2)))
              clear hb4 hbut4 hd2 ha2 v0 v1 v2 v3 v4 v5 v6 v7 vz X1 X2 X4 X5
              go_wp2
              go_roundw
              case rel =>
                have q1 := (HB4.out.1.set 4 (.int .u32 d2)).set 0 (.int .u32 a2)
                have q2 : rst p [h0, h1, h2, h3, h4, h5, h6, h7] (k + 1) = ⟨a2, a, b', c, d2, e, f, g⟩ := by
                  rw [HS.out.2.2.2.2, HB4.out.2.2.1, HB4.out.2.2.2, HT.out.1, HT.out.2]; rfl
                have q3 := HB4.out.2.1
                refine ⟨k + 1, by omega, by go_num, ?_, ?_, ?_, ?_⟩
                · exact (((drawn_below (drawn_below HS.out.1 _) _).drew.trans (q3.below HS.out.1.size (by intro j hj; omega))).setCell (by simp; omega) _).setCell (by simp; omega) _
                · exact ((q3.blk HS.out.2.1 (by omega)).setOther _ _ (by simp; omega)).setOther _ _ (by simp; omega)
                · rw [q2]; exact q1
                · exact ((q3.blk HS.out.2.2.2.1 (by omega)).setOther _ _ (by simp; omega)).setOther _ _ (by simp; omega)
              case measure => simp [intOf]; omega
              -- }
            · have hk : k = 64 := by omega
              rw [hk] at hvb
              have hhb := HK.out.below hbel HK.out.lt
              have hlb := HK.out.lt
              have HB5 := Lib.hid (And.intro hbel (And.intro hvb hhb))
              clear hbel hkb hvb hwb hk hhb
              generalize hV : ofSt (rst p [h0, h1, h2, h3, h4, h5, h6, h7] 64) = V at *
              have HV := Lib.hid hV
              clear hV
              go_wp2
              go_loopw [188] (fun i wr => ∃ j : Nat, j ≤ 8 ∧ i = .int .i64 j ∧ But (fun k => k = hb) w wr ∧ IsBlk wr vb (nv .u32 V) 40 ∧ IsBlk wr hb (hashC (addRow [h0, h1, h2, h3, h4, h5, h6, h7] V j) v n) 42) (fun i _ => 8 - (intOf i).toNat)
              case atStart => exact ⟨0, by omega, rfl, But.of_below HB5.out.1 (Nat.le_refl _), HB5.out.2.1, by rw [addRow_zero _ _ rfl]; exact HB5.out.2.2⟩
              case round =>
                clear HB5
                obtain ⟨j, hj8, rfl, hbut, hvb, hhb⟩ := hrel
                by_cases hlt : j < 8
                · have hV8 : V.length = 8 := by rw [← HV.out]; rfl
                  have r0 := hhb.cell j (hashC_get _ v n j (by rw [addRow_length]; exact hlt))
                  rw [addRow_get _ _ _ _ hlt, if_neg (by omega)] at r0
                  have r1 := hvb.cell j (nv_get .u32 V j (by omega))
                  have r2 := hhb.fz j
                  have hset := hashC_set (addRow [h0, h1, h2, h3, h4, h5, h6, h7] V j) v n j (([h0, h1, h2, h3, h4, h5, h6, h7].getD j 0 + V.getD j 0) % 4294967296) (by rw [addRow_length]; exact hlt)
                  rw [addRow_set _ _ _ hlt] at hset
                  obtain ⟨y, hy⟩ : ∃ y, y = ([h0, h1, h2, h3, h4, h5, h6, h7].getD j 0 + V.getD j 0) % 4294967296 := ⟨_, rfl⟩
                  rw [← hy] at hset
                  have HE := Lib.hid (And.intro hbut (And.intro hvb (And.intro hhb hset)))
                  clear hbut hvb hhb hset hV8
                  generalize [h0, h1, h2, h3, h4, h5, h6, h7].getD j 0 = x0 at *
                  generalize V.getD j 0 = x1 at *
                  have X := mod2_v x0 x1
                  rw [← hy] at X
                  have HY := Lib.hid hy
                  have b0 : (0 : Int) ≤ (j : Int) := by omega
                  have b1 : (j : Int) < 8 := by omega
                  have hne : vb ≠ hb := by omega
                  clear hy
                  go_wp2
                  go_region
                  all_goals
                    go_wp2
                    go_roundw
                    case rel =>
                      have h1 := HE.out.2.2.1.set j (.int .u32 (y : Int))
                      rw [HE.out.2.2.2] at h1
                      exact ⟨j + 1, by omega, by go_num, (HE.out.1.setCell (p := ⟨hb, j, none⟩) rfl _).drew, HE.out.2.1.setOther ⟨hb, j, none⟩ _ hne, h1⟩
                    case measure => simp [intOf]; omega
                · have hj : j = 8 := by omega
                  rw [hj, addRow_end, ← HV.out] at hhb
                  clear hvb hj
                  have HE := Lib.hid (And.intro hbut hhb)
                  clear hbut hhb
                  go_wp2
                  go_end0
                  exact ⟨rfl, by rw [comp_rst]; exact HE.out.2, HE.out.1⟩
end Go.Proofs.Ytiakkjdkbpbejaa
