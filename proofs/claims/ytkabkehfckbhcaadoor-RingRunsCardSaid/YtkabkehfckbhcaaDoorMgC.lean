/-
  disk: the document's answer in lists of numbers; the laws in plain numbers.
  disk: a disk in memory.
  disk: num, Off, Size, Pending, Fuel, step.
  disk: Read.
  disk: Write.
  disk: Write, whatever comes.
-/
import Derived.Test.YtkabkehfckbhcaaDoorRows
import Derived.Test.YtkabkehfckbhcaaDoorMgA
import Derived.Test.YtkabkehfckbhcaaDoorMgB
import Derived.Deep.QuietTactic
import Derived.BigQuiet
import Derived.Tactics
import Derived.Laws.Rows
import Derived.Deep.DeepCutAuto
import Derived.Deep.RegionHeld3
namespace Go.Proofs.YtkabkehfckbhcaaDoor
set_option linter.unusedVariables false
set_option linter.unusedSimpArgs false

def zeroPg : List Nat := List.replicate 64 0
/-- A disk: what is firm; what may be lost: where, and what. -/
structure DK where
  firm : List (List Nat)
  pend : List (Nat × List Nat) := []
  fuel : Int := -1
  off : Bool := false
def applyP (firm : List (List Nat)) (l : List (Nat × List Nat)) : List (List Nat) := l.foldl (fun f x => f.set x.1 x.2) firm
def DK.new (n : Nat) : DK := { firm := List.replicate n zeroPg }
def DK.cur (d : DK) : List (List Nat) := applyP d.firm d.pend
/-- One step: whether there is fuel, and the disk. -/
def DK.may (d : DK) : Bool := !d.off && decide (d.fuel ≠ 0)
def DK.step (d : DK) : DK := if d.off then d else if d.fuel = 0 then { d with off := true } else if 0 < d.fuel then { d with fuel := d.fuel - 1 } else d
/-- The number of the error that Read, Write, Flush answer; 0: none. -/
def DK.bad (d : DK) (i : Int) : Bool := decide (i < 0) || decide ((d.firm.length : Int) ≤ i)
def DK.readE (d : DK) (i : Int) : Nat := if d.off then 10 else if d.bad i then 1 else 0
def DK.read (d : DK) (i : Int) : List Nat := if d.readE i = 0 then d.cur.getD i.toNat zeroPg else zeroPg
def DK.writeE (d : DK) (i : Int) : Nat := if d.off then 10 else if d.bad i then 1 else if d.may then 0 else 10
def DK.write (d : DK) (i : Int) (p : List Nat) : DK := if d.off then d else if d.bad i then d else if d.may then { d.step with pend := d.pend ++ [(i.toNat, p)] } else d.step
def DK.flushE (d : DK) : Nat := if d.may then 0 else 10
def DK.flush (d : DK) : DK := if d.may then { d.step with firm := d.cur, pend := [] } else d.step
def DK.setFuel (d : DK) (n : Int) : DK := { d with fuel := max n (-1) }
def pickP (l : List (Nat × List Nat)) (pick : List Int) (k : Nat) : List (Nat × List Nat) :=
  match l with
  | [] => []
  | x :: r => (if pick.contains (k : Int) then [x] else []) ++ pickP r pick (k + 1)
def DK.crash (d : DK) (pick : List Int) : DK := { firm := applyP d.firm (pickP d.pend pick 0) }

theorem applyP_length (firm : List (List Nat)) (l : List (Nat × List Nat)) : (applyP firm l).length = firm.length := by
  unfold applyP
  induction l generalizing firm with
  | nil => rfl
  | cons x r ih => rw [List.foldl_cons, ih, List.length_set]
theorem applyP_cons (firm : List (List Nat)) (x : Nat × List Nat) (r : List (Nat × List Nat)) : applyP firm (x :: r) = applyP (firm.set x.1 x.2) r := rfl
theorem applyP_append (firm : List (List Nat)) (l m : List (Nat × List Nat)) : applyP firm (l ++ m) = applyP (applyP firm l) m := by
  unfold applyP; rw [List.foldl_append]
theorem applyP_snoc (firm : List (List Nat)) (l : List (Nat × List Nat)) (x : Nat × List Nat) : applyP firm (l ++ [x]) = (applyP firm l).set x.1 x.2 := by
  rw [applyP_append]; rfl
theorem getD_set (l : List (List Nat)) (i j : Nat) (v : List Nat) (h : i < l.length) : (l.set i v).getD j zeroPg = if i = j then v else l.getD j zeroPg := by
  simp only [List.getD, List.getElem?_set]
  by_cases e : i = j
  · subst e; simp [h]
  · simp [e]
/-- Of each sector there is what was firm, or something that was pending. -/
theorem applyP_from (l : List (Nat × List Nat)) : ∀ (firm : List (List Nat)) (j : Nat), (∀ x ∈ l, x.1 < firm.length) → (applyP firm l).getD j zeroPg = firm.getD j zeroPg ∨ ∃ x ∈ l, x.1 = j ∧ (applyP firm l).getD j zeroPg = x.2 := by
  induction l with
  | nil => intro firm j h; exact .inl rfl
  | cons x r ih =>
    intro firm j h
    rw [applyP_cons]
    rcases ih (firm.set x.1 x.2) j (fun y hy => by rw [List.length_set]; exact h y (List.mem_cons_of_mem _ hy)) with h1 | ⟨y, hy, h1, h2⟩
    · rw [h1, getD_set _ _ _ _ (h x (by simp))]
      by_cases e : x.1 = j
      · right; exact ⟨x, by simp, e, by simp [e]⟩
      · left; simp [e]
    · right; exact ⟨y, List.mem_cons_of_mem _ hy, h1, h2⟩
theorem pickP_mem {l : List (Nat × List Nat)} {pick : List Int} : ∀ {k : Nat} {x : Nat × List Nat}, x ∈ pickP l pick k → x ∈ l := by
  induction l with
  | nil => intro k x h; simp [pickP] at h
  | cons y r ih =>
    intro k x h
    simp only [pickP, List.mem_append] at h
    rcases h with h | h
    · by_cases hc : (pick.contains (k : Int)) = true
      · rw [if_pos hc] at h; simp at h; simp [h]
      · rw [if_neg hc] at h; simp at h
    · exact List.mem_cons_of_mem _ (ih h)
theorem pickP_all (l : List (Nat × List Nat)) (pick : List Int) : ∀ k, (∀ i, k ≤ i → i < k + l.length → (pick.contains (i : Int)) = true) → pickP l pick k = l := by
  induction l with
  | nil => intro k _; rfl
  | cons x r ih =>
    intro k h
    rw [pickP, if_pos (h k (by omega) (by simp)), ih (k + 1) (fun i h1 h2 => h i (by omega) (by simp at h2 ⊢; omega))]
    rfl
theorem pickP_none (l : List (Nat × List Nat)) : ∀ k, pickP l [] k = [] := by
  induction l with
  | nil => intro k; rfl
  | cons x r ih => intro k; rw [pickP, ih]; rfl
theorem cur_length (d : DK) : d.cur.length = d.firm.length := applyP_length _ _
end Go.Proofs.YtkabkehfckbhcaaDoor

namespace Go.Proofs.YtkabkehfckbhcaaDoor
set_option linter.unusedVariables false
set_option linter.unusedSimpArgs false
open Go.RowKit

/-- A sector's cells; a pending write's. -/
def pgF (p : List Nat) : List Value := bv p
def wrF (x : Nat × List Nat) : List Value := .int .i64 ((x.1 : Nat) : Int) :: bv x.2
theorem pgF_length (p : List Nat) : (pgF p).length = p.length := bv_length p
theorem wrF_length (x : Nat × List Nat) : (wrF x).length = x.2.length + 1 := by simp [wrF, bv_length]

/-- The place of the last pending write to a sector, counted from k on. -/
def lastFrom : List (Nat × List Nat) → Nat → Nat → Option Nat
  | [], _, _ => none
  | x :: r, n, k => match lastFrom r n (k + 1) with
    | some j => some j
    | none => if x.1 = n then some k else none
theorem lastFrom_snoc (l : List (Nat × List Nat)) (x : Nat × List Nat) (n : Nat) : ∀ k, lastFrom (l ++ [x]) n k = if x.1 = n then some (k + l.length) else lastFrom l n k := by
  induction l with
  | nil => intro k; simp [lastFrom]
  | cons y r ih =>
    intro k
    rw [List.cons_append, lastFrom, ih]
    by_cases h : x.1 = n
    · simp only [h, if_true, List.length_cons]
      congr 1
      omega
    · simp only [h, if_false]
      rfl
theorem lastFrom_some {l : List (Nat × List Nat)} {n : Nat} : ∀ {k j : Nat} {firm : List (List Nat)}, (∀ x ∈ l, x.1 < firm.length) → lastFrom l n k = some j → k ≤ j ∧ ∃ x, l[j - k]? = some x ∧ x.1 = n ∧ (applyP firm l).getD n zeroPg = x.2 := by
  induction l with
  | nil => intro k j firm _ h; simp [lastFrom] at h
  | cons y r ih =>
    intro k j firm hl h
    have hr : ∀ x ∈ r, x.1 < (firm.set y.1 y.2).length := fun x hx => by rw [List.length_set]; exact hl x (List.mem_cons_of_mem _ hx)
    rw [lastFrom] at h
    rw [applyP_cons]
    cases hq : lastFrom r n (k + 1) with
    | some q =>
      simp only [hq] at h
      obtain rfl : q = j := Option.some.inj h
      obtain ⟨h1, x, h2, h3, h4⟩ := ih hr hq
      exact ⟨by omega, x, by rw [show q - k = (q - (k + 1)) + 1 by omega]; simpa using h2, h3, h4⟩
    | none =>
      simp only [hq] at h
      by_cases hy : y.1 = n
      · rw [if_pos hy] at h
        obtain rfl : k = j := Option.some.inj h
        refine ⟨Nat.le_refl _, y, by simp, hy, ?_⟩
        have key : ∀ (l : List (Nat × List Nat)) (k : Nat) (g : List (List Nat)), (∀ x ∈ l, x.1 < g.length) → lastFrom l n k = none → (applyP g l).getD n zeroPg = g.getD n zeroPg := by
          intro l
          induction l with
          | nil => intro k g _ _; rfl
          | cons z l ih2 =>
            intro k g hg hn
            rw [lastFrom] at hn
            cases hq2 : lastFrom l n (k + 1) with
            | some q => simp [hq2] at hn
            | none =>
              simp only [hq2] at hn
              have hz : z.1 ≠ n := by intro e; rw [if_pos e] at hn; cases hn
              rw [applyP_cons, ih2 (k + 1) _ (fun x hx => by rw [List.length_set]; exact hg x (List.mem_cons_of_mem _ hx)) hq2, getD_set _ _ _ _ (hg z (by simp)), if_neg hz]
        rw [key r (k + 1) _ hr hq, getD_set _ _ _ _ (hl y (by simp)), if_pos hy]
      · rw [if_neg hy] at h; cases h
theorem lastFrom_none {l : List (Nat × List Nat)} {n : Nat} : ∀ {k : Nat} {firm : List (List Nat)}, (∀ x ∈ l, x.1 < firm.length) → lastFrom l n k = none → (applyP firm l).getD n zeroPg = firm.getD n zeroPg := by
  induction l with
  | nil => intro k firm _ _; rfl
  | cons y r ih =>
    intro k firm hl h
    rw [lastFrom] at h
    cases hq : lastFrom r n (k + 1) with
    | some q => simp [hq] at h
    | none =>
      simp only [hq] at h
      have hy : y.1 ≠ n := by intro e; rw [if_pos e] at h; cases h
      rw [applyP_cons, ih (fun x hx => by rw [List.length_set]; exact hl x (List.mem_cons_of_mem _ hx)) hq, getD_set _ _ _ _ (hl y (by simp)), if_neg hy]
/-- What the map of last writes holds. -/
def lastM (l : List (Nat × List Nat)) (n : Int) : Option Value := if 0 ≤ n then (lastFrom l n.toNat 0).map (fun (j : Nat) => Value.int .i64 (j : Int)) else none
theorem lastM_nil : lastM [] = fun _ => none := by funext n; simp [lastM, lastFrom]
theorem lastM_snoc (l : List (Nat × List Nat)) (x : Nat × List Nat) : lastM (l ++ [x]) = fun m => if m = (x.1 : Int) then some (Value.int .i64 ((l.length : Nat) : Int)) else lastM l m := by
  funext m
  unfold lastM
  by_cases h0 : 0 ≤ m
  · rw [if_pos h0, if_pos h0, lastFrom_snoc]
    by_cases h : x.1 = m.toNat
    · rw [if_pos h, if_pos (by omega)]; simp
    · rw [if_neg h, if_neg (by omega)]
  · rw [if_neg h0, if_neg h0, if_neg (by omega)]

/-- A disk, block by block. -/
structure IsDk (w : World) (base db fb mb cap : Nat) (cv : Value) (d : DK) : Prop where
  blk : IsBlk w db #[.slice (some ⟨fb, 0, none⟩) d.firm.length cap, cv, .map (some mb), .int .i64 d.fuel, .bool d.off] 87
  firm : RowF w base 48 64 pgF (.slice (some ⟨fb, 0, none⟩) d.firm.length cap) d.firm
  cache : RowF w base 97 65 wrF cv d.pend
  map : IntMap w mb .i64 (lastM d.pend)
  pend : ∀ x ∈ d.pend, x.1 < d.firm.length
  n1 : 1 ≤ d.firm.length
  n2 : d.firm.length ≤ 4096
  f1 : -1 ≤ d.fuel
  f2 : d.fuel ≤ 9223372036854775807
  bdb : base ≤ db
  bmb : base ≤ mb
section
variable {w w' : World} {base db fb mb cap : Nat} {cv : Value} {d : DK}
theorem IsDk.fb_ne (h : IsDk w base db fb mb cap cv d) : fb ≠ db := by
  intro e
  obtain ⟨cur, hc⟩ := h.firm.tag fb rfl
  have := h.blk
  unfold IsBlk at this
  rw [← e, hc] at this
  injection this with this
  injection this with _ h2
  exact absurd h2 (by decide)
theorem IsDk.mb_ne (h : IsDk w base db fb mb cap cv d) : mb ≠ db ∧ mb ≠ fb := by
  obtain ⟨es, clock, hb, _⟩ := h.map
  constructor
  · intro e
    have := h.blk
    unfold IsBlk at this
    rw [← e, hb] at this
    cases this
  · intro e
    obtain ⟨cur, hc⟩ := h.firm.tag fb rfl
    rw [← e, hb] at hc
    cases hc
theorem IsDk.cv_ne (h : IsDk w base db fb mb cap cv d) {k : Nat} (hk : cv.ownBlock = some k) : k ≠ db ∧ k ≠ fb ∧ k ≠ mb := by
  obtain ⟨cur, hc⟩ := h.cache.tag k hk
  refine ⟨?_, ?_, ?_⟩
  · intro e
    have := h.blk
    unfold IsBlk at this
    rw [← e, hc] at this
    injection this with this
    injection this with _ h2
    exact absurd h2 (by decide)
  · intro e
    obtain ⟨cur2, hc2⟩ := h.firm.tag fb rfl
    rw [← e, hc] at hc2
    injection hc2 with hc2
    injection hc2 with _ h2
    exact absurd h2 (by decide)
  · intro e
    obtain ⟨es, clock, hb, _⟩ := h.map
    rw [← e, hc] at hb
    cases hb
/-- The disk's own struct has turned, nothing else. -/
theorem IsDk.turn (h : IsDk w base db fb mb cap cv d) {d' : DK} (hf : d'.firm = d.firm) (hp : d'.pend = d.pend) (h1 : -1 ≤ d'.fuel) (h2 : d'.fuel ≤ 9223372036854775807)
    (hb : IsBlk w' db #[.slice (some ⟨fb, 0, none⟩) d.firm.length cap, cv, .map (some mb), .int .i64 d'.fuel, .bool d'.off] 87) (hw : But (fun k => k = db) w w') : IsDk w' base db fb mb cap cv d' where
  blk := by rw [hf]; exact hb
  firm := by rw [hf]; exact h.firm.but hw (fun k hk e => h.fb_ne (by simp [Value.ownBlock] at hk; omega))
  cache := by rw [hp]; exact h.cache.but hw (fun k hk e => (h.cv_ne hk).1 e)
  map := by rw [hp]; exact h.map.of_block (hw.block mb h.map.lt h.mb_ne.1)
  pend := by rw [hf, hp]; exact h.pend
  n1 := by rw [hf]; exact h.n1
  n2 := by rw [hf]; exact h.n2
  f1 := h1
  f2 := h2
  bdb := h.bdb
  bmb := h.bmb
/-- Nothing of it has turned. -/
theorem IsDk.same (h : IsDk w base db fb mb cap cv d) {S : Nat → Prop} (hw : But S w w') (h1 : ¬ S db) (h2 : ¬ S fb) (h3 : ¬ S mb) (h4 : ∀ k, cv.ownBlock = some k → ¬ S k) : IsDk w' base db fb mb cap cv d where
  blk := hw.blk h.blk h1
  firm := h.firm.but hw (fun k hk => by simp [Value.ownBlock] at hk; subst hk; exact h2)
  cache := h.cache.but hw h4
  map := h.map.of_block (hw.block mb h.map.lt h3)
  pend := h.pend
  n1 := h.n1
  n2 := h.n2
  f1 := h.f1
  f2 := h.f2
  bdb := h.bdb
  bmb := h.bmb
theorem IsDk.below (h : IsDk w base db fb mb cap cv d) (hw : Below w.heap.size w w') : IsDk w' base db fb mb cap cv d :=
  h.same (S := fun _ => False) (But.of_below hw (Nat.le_refl _)) id id id (fun _ _ => id)
theorem IsDk.fb_lt (h : IsDk w base db fb mb cap cv d) : fb < w.heap.size := h.firm.lt fb rfl
theorem IsDk.fb_base (h : IsDk w base db fb mb cap cv d) : base ≤ fb := h.firm.base_le fb rfl
end
end Go.Proofs.YtkabkehfckbhcaaDoor

namespace Go.Proofs.YtkabkehfckbhcaaDoor
set_option linter.unusedVariables false
set_option linter.unusedSimpArgs false
open Go.RowKit

/-- What a call of a disk answers as its error: nil for 0, else an error of that number. -/
def IsRes (w : World) (v : Value) (n : Nat) : Prop := if n = 0 then v = .nilIface else ∃ b, v = .iface 115 (.pointer (some ⟨b, 0, none⟩)) ∧ IsErr w v [⟨#[100, 105, 115, 107]⟩] (n : Int)
theorem IsRes.below {w w' : World} {v : Value} {n : Nat} (h : IsRes w v n) (hb : Below w.heap.size w w') : IsRes w' v n := by
  unfold IsRes at *
  by_cases hn : n = 0
  · rw [if_pos hn] at *; exact h
  · rw [if_neg hn] at *
    obtain ⟨b, h1, h2⟩ := h
    exact ⟨b, h1, h2.below hb⟩
theorem IsErr.but {W w' : World} {S : Nat → Prop} (hb : But S W w') {b : Nat} {s : ByteArray} {n : Int} (hs : ¬ S b) (h : IsErr W (.iface 115 (.pointer (some ⟨b, 0, none⟩))) [s] n) : IsErr w' (.iface 115 (.pointer (some ⟨b, 0, none⟩))) [s] n := by
  obtain ⟨b', v, h1, h2, h3, h4⟩ := h
  injection h1 with _ h1
  injection h1 with h1
  injection h1 with h1
  injection h1 with h1
  subst h1
  exact ⟨b, v, rfl, by rw [hb.cell (cell_lt h2) hs]; exact h2, by rw [hb.cell (cell_lt h3) hs]; exact h3, h4⟩
theorem IsRes.but {w w' : World} {S : Nat → Prop} (hb : But S w w') {b : Nat} (hs : ¬ S b) {n : Nat} (h : IsRes w (.iface 115 (.pointer (some ⟨b, 0, none⟩))) n) : IsRes w' (.iface 115 (.pointer (some ⟨b, 0, none⟩))) n := by
  unfold IsRes at *
  by_cases hn : n = 0
  · rw [if_pos hn] at *; exact h
  · rw [if_neg hn] at *
    obtain ⟨b', _, h2⟩ := h
    exact ⟨b, rfl, h2.but hb hs⟩
/-- The error of a number, made. -/
theorem in_disk (n : Nat) (hn : n ≠ 0) (W : World) : Calls Tryd.prog 32 #[.string ⟨#[100, 105, 115, 107]⟩, .iface 83 (.int .i64 (n : Int))] W fun e w' => ∃ v, e = .returned v ∧ (∃ b, v = .iface 115 (.pointer (some ⟨b, 0, none⟩)) ∧ W.heap.size ≤ b) ∧ IsRes w' v n ∧ Below W.heap.size W w' := by
  refine (in_some ⟨#[100, 105, 115, 107]⟩ 83 (.int .i64 (n : Int)) W).mono ?_
  rintro e w' ⟨rfl, rfl⟩
  refine ⟨_, rfl, ⟨_, rfl, Nat.le_refl _⟩, ?_, (Below.refl _ _).alloc (Nat.le_refl _) _⟩
  unfold IsRes
  rw [if_neg hn]
  exact ⟨_, rfl, IsErr.push (l := []) (n := (n : Int)) rfl _⟩

theorem in_off (W : World) : Calls Tryd.prog 32 #[.string ⟨#[100, 105, 115, 107]⟩, .iface 83 (.int .i64 10)] W fun e w' => ∃ v, e = .returned v ∧ (∃ b, v = .iface 115 (.pointer (some ⟨b, 0, none⟩)) ∧ W.heap.size ≤ b) ∧ IsRes w' v 10 ∧ Below W.heap.size W w' := in_disk 10 (by decide) W
theorem in_arg (W : World) : Calls Tryd.prog 32 #[.string ⟨#[100, 105, 115, 107]⟩, .iface 83 (.int .i64 1)] W fun e w' => ∃ v, e = .returned v ∧ (∃ b, v = .iface 115 (.pointer (some ⟨b, 0, none⟩)) ∧ W.heap.size ≤ b) ∧ IsRes w' v 1 ∧ Below W.heap.size W w' := in_disk 1 (by decide) W

set_option maxHeartbeats 1000000 in
theorem num_res (v : Value) (n : Nat) (W : World) (hg : HasET W) (h : IsRes W v n) : Calls Tryd.prog 20 #[v] W fun ev w' => ev = .returned (.int .i64 (n : Int)) ∧ Below W.heap.size W w' := by
  unfold IsRes at h
  by_cases hn : n = 0
  · rw [if_pos hn] at h
    subst h hn
    go_enter Tryd.func20, Tryd.ntmps20
    go_wp2
    go_ret
    exact ⟨rfl, Below.refl _ _⟩
  · rw [if_neg hn] at h
    obtain ⟨b, rfl, h⟩ := h
    have hb : Below W.heap.size W (W.alloc (.cells #[.int .i64 0] 83)) := (Below.refl _ _).alloc (Nat.le_refl _) _
    have hc := as_num' _ _ (n : Int) ⟨W.heap.size, 0, none⟩ (.int .i64 0) (W.alloc (.cells #[.int .i64 0] 83)) (hg.below hb) (by simp) (by simp) (h.below hb)
    go_enter Tryd.func20, Tryd.ntmps20
    go_wp2_with (go_at_call 42; (with_reducible refine hc.mono ?_); rintro e w' ⟨rfl, hs⟩; have hs1 := hs.got; have hs2 : Hid (Below W.heap.size W w') := hb.trans hs.rest; clear hs)
    go_ret
    exact ⟨rfl, hs2.out⟩

section
variable {w : World} {base db fb mb cap : Nat} {cv : Value} {d : DK}
theorem IsDk.c0 (h : IsDk w base db fb mb cap cv d) : w.cell? ⟨db, 0, none⟩ = some (.slice (some ⟨fb, 0, none⟩) d.firm.length cap) := h.blk.cell 0 rfl
theorem IsDk.c1 (h : IsDk w base db fb mb cap cv d) : w.cell? ⟨db, 1, none⟩ = some cv := h.blk.cell 1 rfl
theorem IsDk.c2 (h : IsDk w base db fb mb cap cv d) : w.cell? ⟨db, 2, none⟩ = some (.map (some mb)) := h.blk.cell 2 rfl
theorem IsDk.c3 (h : IsDk w base db fb mb cap cv d) : w.cell? ⟨db, 3, none⟩ = some (.int .i64 d.fuel) := h.blk.cell 3 rfl
theorem IsDk.c4 (h : IsDk w base db fb mb cap cv d) : w.cell? ⟨db, 4, none⟩ = some (.bool d.off) := h.blk.cell 4 rfl

set_option maxHeartbeats 1000000 in
theorem off_any (h : IsDk w base db fb mb cap cv d) : Calls Tryd.prog 34 #[.pointer (some ⟨db, 0, none⟩)] w fun e w' => e = .returned (.bool d.off) ∧ w' = w := by
  have c4 := h.c4
  clear h
  go_enter Tryd.func34, Tryd.ntmps34
  go_wp2
  go_ret
  exact ⟨rfl, rfl⟩
theorem off_nil (w : World) : Calls Tryd.prog 34 #[.pointer none] w fun e w' => e = .returned (.bool true) ∧ w' = w := by
  go_enter Tryd.func34, Tryd.ntmps34
  go_wp2
  go_ret
  exact ⟨rfl, rfl⟩
theorem size_any (h : IsDk w base db fb mb cap cv d) : Calls Tryd.prog 38 #[.pointer (some ⟨db, 0, none⟩)] w fun e w' => e = .returned (.int .i64 ((d.firm.length : Nat) : Int)) ∧ w' = w := by
  have c0 := h.c0
  clear h
  go_enter Tryd.func38, Tryd.ntmps38
  go_wp2
  go_ret
  exact ⟨rfl, rfl⟩
theorem IsDk.fz (h : IsDk w base db fb mb cap cv d) (i : Nat) : w.frozen? ⟨db, i, none⟩ = false := h.blk.fz i

theorem IsDk.putFuel (h : IsDk w base db fb mb cap cv d) (x : Int) (h1 : -1 ≤ x) (h2 : x ≤ 9223372036854775807) : IsDk (w.setCell ⟨db, 3, none⟩ (.int .i64 x)) base db fb mb cap cv { d with fuel := x } ∧ But (fun k => k = db) w (w.setCell ⟨db, 3, none⟩ (.int .i64 x)) :=
  have hb : But (fun k => k = db) w (w.setCell ⟨db, 3, none⟩ (.int .i64 x)) := (But.refl (fun k => k = db) w).setCell (p := ⟨db, 3, none⟩) rfl _
  ⟨h.turn rfl rfl h1 h2 (h.blk.set 3 _) hb, hb⟩
theorem IsDk.putOff (h : IsDk w base db fb mb cap cv d) (x : Bool) : IsDk (w.setCell ⟨db, 4, none⟩ (.bool x)) base db fb mb cap cv { d with off := x } ∧ But (fun k => k = db) w (w.setCell ⟨db, 4, none⟩ (.bool x)) :=
  have hb : But (fun k => k = db) w (w.setCell ⟨db, 4, none⟩ (.bool x)) := (But.refl (fun k => k = db) w).setCell (p := ⟨db, 4, none⟩) rfl _
  ⟨h.turn rfl rfl h.f1 h.f2 (h.blk.set 4 _) hb, hb⟩

/-- step: what it answers, what it leaves. -/
def stepE (d : DK) : Nat := if d.may then 0 else 10
set_option maxHeartbeats 2000000 in
theorem step_any (h : IsDk w base db fb mb cap cv d) : Calls Tryd.prog 35 #[.pointer (some ⟨db, 0, none⟩)] w fun e w' => ∃ v, e = .returned v ∧ (v = .nilIface ∨ ∃ b, v = .iface 115 (.pointer (some ⟨b, 0, none⟩)) ∧ w.heap.size ≤ b) ∧ IsRes w' v (stepE d) ∧ IsDk w' base db fb mb cap cv d.step ∧ But (fun k => k = db) w w' := by
  have c3 := h.c3
  have z3 := h.fz 3
  have z4 := h.fz 4
  have c4 := h.c4
  have hoff := off_any h
  have hf1 := h.f1
  have hf2 := h.f2
  have H := Hid.out (p := Hid _) h
  have hlt := h.blk.lt
  clear h
  obtain ⟨firm, pend, fuel, off⟩ := d
  simp only at *
  cases off with
  | true =>
    go_enter Tryd.func35, Tryd.ntmps35
    go_wp2_with (first
      | (go_at_call 34; (with_reducible refine hoff.mono ?_); rintro e w' ⟨rfl, rfl⟩)
      | (go_at_call 32; (with_reducible refine (in_off _).mono ?_); rintro e w' ⟨v, rfl, ⟨b, rfl, hbb⟩, hr, hb⟩))
    go_ret
    exact ⟨_, rfl, .inr ⟨b, rfl, hbb⟩, hr, H.out.below hb, But.of_below hb (Nat.le_refl _)⟩
  | false =>
    by_cases h0 : fuel = 0
    · subst h0
      go_enter Tryd.func35, Tryd.ntmps35
      have H2 := Lib.hid (H.out.putOff true)
      go_wp2_with (first
        | (go_at_call 34; (with_reducible refine hoff.mono ?_); rintro e w' ⟨rfl, rfl⟩)
        | (go_at_call 32; (with_reducible refine (in_off _).mono ?_); rintro e w' ⟨v, rfl, ⟨b, rfl, hbb⟩, hr, hb⟩))
      go_ret
      exact ⟨_, rfl, .inr ⟨b, rfl, by simpa using hbb⟩, hr, H2.out.1.below hb, H2.out.2.trans (But.of_below hb (Nat.le_refl _))⟩
    · by_cases hp : 0 < fuel
      · have H2 := Lib.hid (H.out.putFuel (fuel - 1) (by show -1 ≤ fuel - 1; omega) (by show fuel - 1 ≤ 9223372036854775807; omega))
        go_enter Tryd.func35, Tryd.ntmps35
        go_wp2_with (first
          | (go_at_call 34; (with_reducible refine hoff.mono ?_); rintro e w' ⟨rfl, rfl⟩))
        go_ret
        exact ⟨_, rfl, .inl rfl, by simp [IsRes, stepE, DK.may, h0], by simpa only [DK.step, h0, hp, if_true, if_false, Bool.false_eq_true] using H2.out.1, H2.out.2⟩
      · go_enter Tryd.func35, Tryd.ntmps35
        go_wp2_with (first
          | (go_at_call 34; (with_reducible refine hoff.mono ?_); rintro e w' ⟨rfl, rfl⟩))
        go_ret
        exact ⟨_, rfl, .inl rfl, by simp [IsRes, stepE, DK.may, h0], by rw [show DK.step ⟨firm, pend, fuel, false⟩ = ⟨firm, pend, fuel, false⟩ by unfold DK.step; rw [if_neg (by simp), if_neg h0, if_neg (by show ¬ 0 < fuel; omega)]]; exact H.out, But.refl _ _⟩
end
end Go.Proofs.YtkabkehfckbhcaaDoor

namespace Go.Proofs.YtkabkehfckbhcaaDoor
set_option linter.unusedVariables false
set_option linter.unusedSimpArgs false
open Go.RowKit

theorem results_cell_tmp {P : Program} {fn : Func} {p q : Tmp} {ty : TypeId} (h : fn.results = #[.cell p ty, .tmp q]) (tmps : Array Value) (w : World) (g : Nat) (t : TypeId) (cs : Array Value) (fr : Nat × Nat) (d : TypeDesc)
    (hp : tmps.getD p undef = .pointer (some ⟨g, 0, none⟩)) (hg : w.heap[g]? = some (.cells cs t fr))
    (hu : P.underlying ty = some d) (hd : (match d with | .struct _ | .array _ _ => true | _ => false) = true) (hi : (P.info? ty).map (·.size) = some cs.size) :
    (results fn tmps).run P w = .ok (.tuple #[.agg cs, tmps.getD q undef]) w := by
  have hp' : tmps[p]?.getD undef = .pointer (some ⟨g, 0, none⟩) := by simpa using hp
  simp [results, h, hp', asAddr, run_loadVar_row w g t ty cs fr d hg hu hd hi]

/-- A sector's value. -/
def pgV (p : List Nat) : Value := .agg (nv .u8 p)
theorem pgF_toArray (p : List Nat) : (pgF p).toArray = nv .u8 p := rfl
theorem info_pg (p : List Nat) (h : p.length = 64) : (Tryd.prog.info? 48).map (·.size) = some (nv .u8 p).size := by rw [nv_size, h]; kernel_rfl

section
variable {w : World} {base db fb mb cap : Nat} {cv : Value} {d : DK}

/-- The world behind the making of a sector's variable. -/
structure NewPg (w w1 : World) (p : List Nat) : Prop where
  blk : IsBlk w1 w.heap.size (nv .u8 p) 48
  below : Below w.heap.size w w1
  size : w1.heap.size = w.heap.size + 1
theorem newPg (w : World) : NewPg w (w.alloc (.cells (nv .u8 zeroPg) 48)) zeroPg := ⟨IsBlk.new _ _ _, (Below.refl _ _).alloc (Nat.le_refl _) _, by simp⟩
theorem zeroPg_length : zeroPg.length = 64 := rfl

theorem setRow_but (w : World) (g : Nat) (cs : Array Value) : But (fun k => k = g) w (w.setRow g cs) := by
  refine ⟨rfl, rfl, rfl, by simp [World.setRow], fun k _ hk => ?_⟩
  exact setRow_other w g k cs hk
/-- The end of Read: what its result variable holds. -/
theorem read_ret {W w1 w2 : World} {p0 p : List Nat} {a : Act} {v : Value} {R : Ending → World → Prop} (h : NewPg W w1 p0) (hb : Below w1.heap.size w1 w2) (hp : p.length = 64) (h4 : a.tmps.getD 4 undef = .pointer (some ⟨W.heap.size, 0, none⟩)) (h5 : a.tmps.getD 5 undef = v) (hd : a.defers = [])
    (hR : Below W.heap.size W (w2.setRow W.heap.size (nv .u8 p)) → But (fun k => k = W.heap.size) w2 (w2.setRow W.heap.size (nv .u8 p)) → R (.returned (.tuple #[pgV p, v])) (w2.setRow W.heap.size (nv .u8 p))) : bodyPost Tryd.prog Tryd.f17 R .ret a (w2.setRow W.heap.size (nv .u8 p)) := by
  have hblk : IsBlk w2 W.heap.size (nv .u8 p0) 48 := h.blk.below hb h.blk.lt
  refine bodyPost_ret (v := .tuple #[pgV p, v]) ?_ hd (hR ((h.below.trans (hb.mono h.below.size)).trans ((setRow_but _ _ _).below (Nat.le_trans h.below.size hb.size) (fun k hk => by omega))) (setRow_but _ _ _))
  rw [← h5]
  exact results_cell_tmp Tryd.results17 _ _ W.heap.size 48 (nv .u8 p) (0, 0) (.array 64 5) h4 (isBlk_setRow hblk _) (by kernel_rfl) rfl (info_pg _ hp)

set_option maxHeartbeats 2000000 in
theorem read_off (h : IsDk w base db fb mb cap cv d) (i : Int) (ho : d.off = true) : Calls Tryd.prog 17 #[.pointer (some ⟨db, 0, none⟩), .int .i64 i] w fun e w' => ∃ v, e = .returned (.tuple #[pgV zeroPg, v]) ∧ IsRes w' v 10 ∧ Below w.heap.size w w' := by
  go_enter Tryd.func17, Tryd.ntmps17
  go_upto_region 1 with fail
  change Code.wp _ _ _ _ (w.alloc (.cells (nv .u8 zeroPg) 48))
  have hw := newPg w
  generalize w.alloc (.cells (nv .u8 zeroPg) 48) = w1 at hw ⊢
  have hoff := off_any (h.below hw.below)
  rw [ho] at hoff
  have HW := Lib.hid hw
  clear h hw
  go_wp2_with (first
    | (go_at_call 34; (with_reducible refine hoff.mono ?_); rintro e w' ⟨rfl, rfl⟩)
    | (go_at_call 32; (with_reducible refine (in_off _).mono ?_); rintro e w2 ⟨v, rfl, ⟨b, rfl, hbb⟩, hr, hb⟩; have HBB := Lib.hid hbb; clear hbb; have HB := Lib.hid hb; have HR := Lib.hid hr; clear hb hr)
    | (refine wpList_store_row (by rfl) 48 (.tmp 4) (.tmp 10) (by rfl) w.heap.size (nv .u8 zeroPg) (by rfl) (by rfl) 48 (nv .u8 zeroPg) (by exact HW.out.blk.below HB.out HW.out.blk.lt) (info_pg _ zeroPg_length) (by rfl) (nv_one _ _) ?_))
  (try simp only [Exit.inBlock, Exit.then])
  refine read_ret HW.out HB.out zeroPg_length rfl rfl rfl fun h1 h2 => ⟨_, rfl, HR.out.but h2 ?_, h1⟩
  have h3 := HBB.out
  have h4 := HW.out.size
  show ¬ b = w.heap.size
  omega

set_option maxHeartbeats 2000000 in
theorem read_bad (h : IsDk w base db fb mb cap cv d) (i : Int) (ho : d.off = false) (hi : d.bad i = true) : Calls Tryd.prog 17 #[.pointer (some ⟨db, 0, none⟩), .int .i64 i] w fun e w' => ∃ v, e = .returned (.tuple #[pgV zeroPg, v]) ∧ IsRes w' v 1 ∧ Below w.heap.size w w' := by
  have hi' : i < 0 ∨ (0 ≤ i ∧ (d.firm.length : Int) ≤ i) := by
    simp only [DK.bad, Bool.or_eq_true, decide_eq_true_eq] at hi
    omega
  go_enter Tryd.func17, Tryd.ntmps17
  go_upto_region 1 with fail
  change Code.wp _ _ _ _ (w.alloc (.cells (nv .u8 zeroPg) 48))
  have hw := newPg w
  generalize w.alloc (.cells (nv .u8 zeroPg) 48) = w1 at hw ⊢
  have hoff := off_any (h.below hw.below)
  have c0 := (h.below hw.below).c0
  rw [ho] at hoff
  have HW := Lib.hid hw
  have hn2 := h.n2
  clear h hw hi
  rcases hi' with hneg | ⟨hpos, hge⟩
  · go_wp2_with (first
      | (go_at_call 34; (with_reducible refine hoff.mono ?_); rintro e w' ⟨rfl, rfl⟩)
      | (go_at_call 32; (with_reducible refine (in_arg _).mono ?_); rintro e w2 ⟨v, rfl, ⟨b, rfl, hbb⟩, hr, hb⟩; have HBB := Lib.hid hbb; clear hbb; have HB := Lib.hid hb; have HR := Lib.hid hr; clear hb hr)
      | (refine wpList_store_row (by rfl) 48 (.tmp 4) (.tmp 24) (by rfl) w.heap.size (nv .u8 zeroPg) (by rfl) (by rfl) 48 (nv .u8 zeroPg) (by exact HW.out.blk.below HB.out HW.out.blk.lt) (info_pg _ zeroPg_length) (by rfl) (nv_one _ _) ?_))
    (try simp only [Exit.inBlock, Exit.then])
    refine read_ret HW.out HB.out zeroPg_length rfl rfl rfl fun h1 h2 => ⟨_, rfl, HR.out.but h2 ?_, h1⟩
    have h3 := HBB.out
    have h4 := HW.out.size
    show ¬ b = w.heap.size
    omega
  · have hneg : ¬ i < 0 := by omega
    go_wp2_with (first
      | (go_at_call 34; (with_reducible refine hoff.mono ?_); rintro e w' ⟨rfl, rfl⟩)
      | (go_at_call 32; (with_reducible refine (in_arg _).mono ?_); rintro e w2 ⟨v, rfl, ⟨b, rfl, hbb⟩, hr, hb⟩; have HBB := Lib.hid hbb; clear hbb; have HB := Lib.hid hb; have HR := Lib.hid hr; clear hb hr)
      | (refine wpList_store_row (by rfl) 48 (.tmp 4) (.tmp 24) (by rfl) w.heap.size (nv .u8 zeroPg) (by rfl) (by rfl) 48 (nv .u8 zeroPg) (by exact HW.out.blk.below HB.out HW.out.blk.lt) (info_pg _ zeroPg_length) (by rfl) (nv_one _ _) ?_))
    (try simp only [Exit.inBlock, Exit.then])
    refine read_ret HW.out HB.out zeroPg_length rfl rfl rfl fun h1 h2 => ⟨_, rfl, HR.out.but h2 ?_, h1⟩
    have h3 := HBB.out
    have h4 := HW.out.size
    show ¬ b = w.heap.size
    omega

theorem rangeAt_tail {w : World} {g o : Nat} {v : Value} {vs : List Value} (h : w.rangeAt g o (v :: vs)) : w.rangeAt g (o + 1) vs := fun j u hj => by
  have := h (j + 1) u (by simpa using hj)
  rw [show o + 1 + j = o + (j + 1) by omega]
  exact this

theorem last_look {w : World} {mb : Nat} {l : List (Nat × List Nat)} (h : IntMap w mb .i64 (lastM l)) {n : Int} {v : Value} (hv : lastM l n = some v) : (Instr.lookup 84 (.map (some mb)) (.int .i64 n) true).run Tryd.prog w = .ok (.tuple #[v, .bool true]) w := by
  have := run_lookup2_intMap (P := Tryd.prog) (t := 84) (kt := 3) (e := 3) Tryd.underlying84 Tryd.underlying3 h (z := .int .i64 0) (by kernel_rfl) n
  rwa [hv] at this
theorem last_none {w : World} {mb : Nat} {l : List (Nat × List Nat)} (h : IntMap w mb .i64 (lastM l)) {n : Int} (hv : lastM l n = none) : (Instr.lookup 84 (.map (some mb)) (.int .i64 n) true).run Tryd.prog w = .ok (.tuple #[.int .i64 0, .bool false]) w := by
  have := run_lookup2_intMap (P := Tryd.prog) (t := 84) (kt := 3) (e := 3) Tryd.underlying84 Tryd.underlying3 h (z := .int .i64 0) (by kernel_rfl) n
  rwa [hv] at this

set_option maxHeartbeats 4000000 in
theorem read_pend (h : IsDk w base db fb mb cap cv d) (k : Nat) (ho : d.off = false) (hk : k < d.firm.length) (j : Nat) (hj : lastFrom d.pend k 0 = some j) : Calls Tryd.prog 17 #[.pointer (some ⟨db, 0, none⟩), .int .i64 (k : Int)] w fun e w' => e = .returned (.tuple #[pgV (d.cur.getD k zeroPg), .nilIface]) ∧ Below w.heap.size w w' := by
  obtain ⟨_, x, hx, hxk, hcur⟩ := lastFrom_some h.pend hj
  rw [Nat.sub_zero] at hx
  have hxl : x.2.length = 64 := by
    have := h.cache.1 x (List.mem_of_getElem? hx)
    rw [wrF_length] at this
    omega
  have hjl : j < d.pend.length := (List.getElem?_eq_some_iff.1 hx).1
  rw [show d.cur.getD k zeroPg = x.2 from hcur]
  go_enter Tryd.func17, Tryd.ntmps17
  go_upto_region 1 with fail
  change Code.wp _ _ _ _ (w.alloc (.cells (nv .u8 zeroPg) 48))
  have hw := newPg w
  generalize w.alloc (.cells (nv .u8 zeroPg) 48) = w1 at hw ⊢
  have h1 := h.below hw.below
  have hoff := off_any h1
  have c0 := h1.c0
  have c1 := h1.c1
  have c2 := h1.c2
  rw [ho] at hoff
  obtain ⟨g, cc, rfl, hrg, _⟩ := h1.cache.range (by decide) hx
  have hr2 := rangeAt_tail hrg
  have HM := Lib.hid (And.intro h1.map (show lastM d.pend (k : Int) = some (.int .i64 (j : Int)) by
    unfold lastM
    rw [if_pos (by omega), Int.toNat_natCast, hj]
    rfl))
  have HW := Lib.hid hw
  have hn2 := h.n2
  have HR := Lib.hid hr2
  have hcc : d.pend.length ≤ cc ∧ cc ≤ maxLen := by
    obtain ⟨g', cap', cur', e, _, _, h5, h6, _⟩ := h1.cache.block (by intro e; rw [e] at hjl; simp at hjl)
    injection e with _ _ e
    subst e
    exact ⟨h5, h6⟩
  unfold maxLen at hcc
  have HX := Lib.hid hxl
  obtain ⟨hcc1, -⟩ := hcc
  clear h hw h1 hrg hr2 hj hcur hxk hx hxl
  go_wp2_with (first
    | (go_at_call 34; (with_reducible refine hoff.mono ?_); rintro e w' ⟨rfl, rfl⟩)
    | (refine wpList_lookup2 (by rfl) 84 (.tmp 31) (.tmp 32) true (by rfl) mb .i64 (k : Int) _ (by rfl) (by rfl) (last_look HM.out.1 HM.out.2) ?_)
    | (refine wpList_load_mid (by rfl) 48 (.tmp 43) (by rfl) g (j * 65 + 1) (by rfl) (bv x.2) _ HR.out Tryd.underlying48 rfl (by rw [bv_length, HX.out]; kernel_rfl) ?_)
    | (refine wpList_store_row (by rfl) 48 (.tmp 4) (.tmp 44) (by rfl) w.heap.size (nv .u8 x.2) (by rfl) (by rfl) 48 (nv .u8 zeroPg) (by exact HW.out.blk) (info_pg _ HX.out) (by rw [nv_size, nv_size, HX.out]; rfl) (nv_one _ _) ?_))
  (try simp only [Exit.inBlock, Exit.then])
  exact read_ret HW.out (Below.refl _ _) HX.out rfl rfl rfl fun h1 _ => ⟨rfl, h1⟩

set_option maxHeartbeats 4000000 in
theorem read_firm (h : IsDk w base db fb mb cap cv d) (k : Nat) (ho : d.off = false) (hk : k < d.firm.length) (hj : lastFrom d.pend k 0 = none) : Calls Tryd.prog 17 #[.pointer (some ⟨db, 0, none⟩), .int .i64 (k : Int)] w fun e w' => e = .returned (.tuple #[pgV (d.cur.getD k zeroPg), .nilIface]) ∧ Below w.heap.size w w' := by
  have hcur := lastFrom_none h.pend hj
  rw [show d.cur.getD k zeroPg = d.firm.getD k zeroPg from hcur]
  clear hcur
  have hx : d.firm[k]? = some (d.firm.getD k zeroPg) := by simp [List.getD, List.getElem?_eq_getElem hk]
  generalize d.firm.getD k zeroPg = p at *
  have hxl : p.length = 64 := by
    have := h.firm.1 p (List.mem_of_getElem? hx)
    rwa [pgF_length] at this
  go_enter Tryd.func17, Tryd.ntmps17
  go_upto_region 1 with fail
  change Code.wp _ _ _ _ (w.alloc (.cells (nv .u8 zeroPg) 48))
  have hw := newPg w
  generalize w.alloc (.cells (nv .u8 zeroPg) 48) = w1 at hw ⊢
  have h1 := h.below hw.below
  have hoff := off_any h1
  have c0 := h1.c0
  have c2 := h1.c2
  rw [ho] at hoff
  obtain ⟨g, cc, e, hrg, _⟩ := h1.firm.range (by decide) hx
  injection e with e1 _ e3
  injection e1 with e1
  injection e1 with e1
  subst e1 e3
  have HM := Lib.hid (And.intro h1.map (show lastM d.pend (k : Int) = none by
    unfold lastM
    rw [if_pos (by omega), Int.toNat_natCast, hj]
    rfl))
  have HW := Lib.hid hw
  have hn2 := h.n2
  have HR := Lib.hid hrg
  have HX := Lib.hid hxl
  have hcc1 : d.firm.length ≤ cap := by
    obtain ⟨g', cap', cur', e, _, _, h5, _⟩ := h1.firm.block (by intro e; rw [e] at hk; simp at hk)
    injection e with _ _ e
    subst e
    exact h5
  clear h hw h1 hrg hj hx hxl
  go_wp2_with (first
    | (go_at_call 34; (with_reducible refine hoff.mono ?_); rintro e w' ⟨rfl, rfl⟩)
    | (refine wpList_lookup2 (by rfl) 84 (.tmp 31) (.tmp 32) true (by rfl) mb .i64 (k : Int) _ (by rfl) (by rfl) (last_none HM.out.1 HM.out.2) ?_)
    | (refine wpList_load_mid (by rfl) 48 (.tmp 50) (by rfl) fb (k * 64) (by rfl) (bv p) _ HR.out Tryd.underlying48 rfl (by rw [bv_length, HX.out]; kernel_rfl) ?_)
    | (refine wpList_store_row (by rfl) 48 (.tmp 4) (.tmp 51) (by rfl) w.heap.size (nv .u8 p) (by rfl) (by rfl) 48 (nv .u8 zeroPg) (by exact HW.out.blk) (info_pg _ HX.out) (by rw [nv_size, nv_size, HX.out]; rfl) (nv_one _ _) ?_))
  (try simp only [Exit.inBlock, Exit.then])
  exact read_ret HW.out (Below.refl _ _) HX.out rfl rfl rfl fun h1 _ => ⟨rfl, h1⟩

/-- Read, whatever is asked for. -/
theorem read_any (h : IsDk w base db fb mb cap cv d) (i : Int) : Calls Tryd.prog 17 #[.pointer (some ⟨db, 0, none⟩), .int .i64 i] w fun e w' => ∃ v, e = .returned (.tuple #[pgV (d.read i), v]) ∧ IsRes w' v (d.readE i) ∧ Below w.heap.size w w' := by
  cases ho : d.off with
  | true =>
    have e1 : d.readE i = 10 := by simp [DK.readE, ho]
    have e2 : d.read i = zeroPg := by simp [DK.read, e1]
    rw [e1, e2]
    exact read_off h i ho
  | false =>
    cases hb : d.bad i with
    | true =>
      have e1 : d.readE i = 1 := by simp [DK.readE, ho, hb]
      have e2 : d.read i = zeroPg := by simp [DK.read, e1]
      rw [e1, e2]
      exact read_bad h i ho hb
    | false =>
      have e1 : d.readE i = 0 := by simp [DK.readE, ho, hb]
      have e2 : d.read i = d.cur.getD i.toNat zeroPg := by simp [DK.read, e1]
      rw [e1, e2]
      simp only [DK.bad, Bool.or_eq_false_iff, decide_eq_false_iff_not] at hb
      obtain ⟨k, rfl⟩ : ∃ k : Nat, i = (k : Int) := ⟨i.toNat, by omega⟩
      rw [Int.toNat_natCast]
      have hk : k < d.firm.length := by omega
      cases hj : lastFrom d.pend k 0 with
      | none => exact (read_firm h k ho hk hj).mono fun e w' ⟨h1, h2⟩ => ⟨_, h1, rfl, h2⟩
      | some j => exact (read_pend h k ho hk j hj).mono fun e w' ⟨h1, h2⟩ => ⟨_, h1, rfl, h2⟩
theorem read_nil (i : Int) (w : World) : Calls Tryd.prog 17 #[.pointer none, .int .i64 i] w fun e w' => ∃ v, e = .returned (.tuple #[pgV zeroPg, v]) ∧ IsRes w' v 10 ∧ Below w.heap.size w w' := by
  go_enter Tryd.func17, Tryd.ntmps17
  go_upto_region 1 with fail
  change Code.wp _ _ _ _ (w.alloc (.cells (nv .u8 zeroPg) 48))
  have hw := newPg w
  generalize w.alloc (.cells (nv .u8 zeroPg) 48) = w1 at hw ⊢
  have HW := Lib.hid hw
  clear hw
  go_wp2_with (first
    | (go_at_call 34; (with_reducible refine (off_nil _).mono ?_); rintro e w' ⟨rfl, rfl⟩)
    | (go_at_call 32; (with_reducible refine (in_off _).mono ?_); rintro e w2 ⟨v, rfl, ⟨b, rfl, hbb⟩, hr, hb⟩; have HBB := Lib.hid hbb; clear hbb; have HB := Lib.hid hb; have HR := Lib.hid hr; clear hb hr)
    | (refine wpList_store_row (by rfl) 48 (.tmp 4) (.tmp 10) (by rfl) w.heap.size (nv .u8 zeroPg) (by rfl) (by rfl) 48 (nv .u8 zeroPg) (by exact HW.out.blk.below HB.out HW.out.blk.lt) (info_pg _ zeroPg_length) (by rfl) (nv_one _ _) ?_))
  (try simp only [Exit.inBlock, Exit.then])
  refine read_ret HW.out HB.out zeroPg_length rfl rfl rfl fun h1 h2 => ⟨_, rfl, HR.out.but h2 ?_, h1⟩
  have h3 := HBB.out
  have h4 := HW.out.size
  show ¬ b = w.heap.size
  omega
end
end Go.Proofs.YtkabkehfckbhcaaDoor

namespace Go.Proofs.YtkabkehfckbhcaaDoor
set_option linter.unusedVariables false
set_option linter.unusedSimpArgs false
open Go.RowKit

theorem wr_info : (Tryd.prog.info? 97).map (fun i => (i.size, i.bytes)) = some (65, 72) := by kernel_rfl
/-- A pending write, built. -/
theorem built_wr (i : Nat) (p : List Nat) (hp : p.length = 64) : Tryd.prog.built 97 [(0, .int .i64 (i : Int)), (1, pgV p)] = some (wrF (i, p)).toArray := by
  have hA : (Tryd.prog.info? 97).bind (fun it => it.zero.map fun z => z.cells.size) = some 65 := by kernel_rfl
  have hB : (match Tryd.prog.underlying 97 with | some (.struct fields) => fields.toList.mapM (fun f => (Tryd.prog.info? f.type).map fun i => (f.offset, i.size)) | _ => none) = some [(0, 1), (1, 64)] := by kernel_rfl
  obtain ⟨it, h1, hA⟩ := Option.bind_eq_some_iff.1 hA
  obtain ⟨z, h2, h5⟩ := Option.map_eq_some_iff.1 hA
  unfold Program.built
  cases hu : Tryd.prog.underlying 97 with
  | none => rw [hu] at hB; cases hB
  | some ds =>
  rw [hu] at hB
  cases ds with
  | struct fields =>
  simp only at hB
  simp only [h1, h2, hB]
  have hn : (nv .u8 p).size = 64 := by rw [nv_size]; exact hp
  exact fill_two _ _ _ rfl (nv .u8 p) rfl (by rw [hn]; rfl) (by rw [hn, h5])
  | _ => simp at hB
theorem run_wr_slice (w : World) (i : Nat) (p : List Nat) (hp : p.length = 64) : (Instr.buildSlice 85 1 #[(0, .agg (wrF (i, p)).toArray)]).run Tryd.prog w = .ok (.slice (some ⟨w.heap.size, 0, none⟩) 1 1) (w.alloc (.cells (wrF (i, p)).toArray 97)) := by
  have hA : (Tryd.prog.info? 97).bind (fun it => it.zero.map fun z => (it.size, z.cells.size)) = some (65, 65) := by kernel_rfl
  obtain ⟨it, h1, hA⟩ := Option.bind_eq_some_iff.1 hA
  obtain ⟨z, h2, h5⟩ := Option.map_eq_some_iff.1 hA
  have h6 : z.cells.size = 65 := congrArg Prod.snd h5
  replace h5 : it.size = 65 := congrArg Prod.fst h5
  have hn : (wrF (i, p)).toArray.size = 65 := by
    have := wrF_length (i, p)
    simp only [hp] at this
    simpa using this
  refine run_buildSlice w _ 97 1 _ _ it z Tryd.underlying85 h1 h2 (by rw [h5]; omega) (by rw [h5]; omega) ?_
  have hsz : ((Array.range (1 * it.size)).map (fun x => z.cells[x % z.cells.size]!)).size = (wrF (i, p)).toArray.size := by rw [Array.size_map, Array.size_range, h5, hn]
  exact fill_one _ _ _ (by rw [hn, h5]) hsz
theorem wrF_one (x : Nat × List Nat) : ∀ u ∈ wrF x, u.oneCell' = true := by
  intro u hu
  simp only [wrF, List.mem_cons] at hu
  rcases hu with rfl | hu
  · rfl
  · exact bv_one _ u hu

section
variable {w : World} {base db fb mb cap : Nat} {cv : Value} {d : DK}

theorem last_put {w : World} {mb : Nat} {l : List (Nat × List Nat)} (h : IntMap w mb .i64 (lastM l)) (i : Nat) (p : List Nat) : ∃ w', (Instr.mapUpdate 84 (.map (some mb)) (.int .i64 (i : Int)) (.int .i64 ((l.length : Nat) : Int))).run Tryd.prog w = .ok () w' ∧ IntMap w' mb .i64 (lastM (l ++ [(i, p)])) ∧ MapTurned w w' mb := by
  rw [lastM_snoc]
  exact run_update_intMap (P := Tryd.prog) (t := 84) (kt := 3) (e := 3) Tryd.underlying84 Tryd.underlying3 h (i : Int) (.int .i64 ((l.length : Nat) : Int))
theorem range_blk {w : World} {x : Nat} {p : List Nat} {t : TypeId} (h : IsBlk w x (nv .u8 p) t) : w.rangeAt x 0 (bv p) := fun j v hj => by
  rw [Nat.zero_add]
  refine h.cell j ?_
  show (bv p).toArray[j]? = some v
  rw [List.getElem?_toArray]
  exact hj
theorem wr_typ : ∃ it z, Tryd.prog.info? 97 = some it ∧ it.zero = some z ∧ it.size = 65 ∧ it.bytes = 72 ∧ z.cells.size = 65 := by
  have hA : (Tryd.prog.info? 97).bind (fun it => it.zero.map fun z => (it.size, it.bytes, z.cells.size)) = some (65, 72, 65) := by kernel_rfl
  obtain ⟨it, h1, hA⟩ := Option.bind_eq_some_iff.1 hA
  obtain ⟨z, h2, h5⟩ := Option.map_eq_some_iff.1 hA
  exact ⟨it, z, h1, h2, congrArg Prod.fst h5, congrArg (fun x => x.2.1) h5, congrArg (fun x => x.2.2) h5⟩
theorem wr_src (w : World) (i : Nat) (p : List Nat) (hp : p.length = 64) : Src (w.alloc (.cells (wrF (i, p)).toArray 97)) 65 (some ⟨w.heap.size, 0, none⟩) 1 (wrF (i, p)) := by
  refine ⟨by rw [wrF_length, hp], (fun h => by cases h), ?_⟩
  rintro ad ⟨rfl⟩ j u hu
  rw [Addr.add_mid, Nat.zero_add]
  refine (IsBlk.new w (wrF (i, p)).toArray 97).cell j ?_
  rw [List.getElem?_toArray]
  exact hu
/-- A disk behind a write. -/
def DK.put (d : DK) (i : Nat) (p : List Nat) : DK := { d with pend := d.pend ++ [(i, p)] }
/-- The blocks that Write turns. -/
def wrS (db mb : Nat) (cv : Value) (k : Nat) : Prop := k = db ∨ k = mb ∨ cv.ownBlock = some k

theorem step_ok (h : IsDk w base db fb mb cap cv d) (hm : d.may = true) : Calls Tryd.prog 35 #[.pointer (some ⟨db, 0, none⟩)] w fun e w' => e = .returned .nilIface ∧ IsDk w' base db fb mb cap cv d.step ∧ But (fun k => k = db) w w' := by
  refine (step_any h).mono ?_
  rintro e w' ⟨v, rfl, _, hr, h1, h2⟩
  unfold IsRes stepE at hr
  rw [hm] at hr
  simp only [if_true] at hr
  subst hr
  exact ⟨rfl, h1, h2⟩
theorem step_firm (d : DK) : d.step.firm = d.firm ∧ d.step.pend = d.pend := by
  unfold DK.step
  split
  · exact ⟨rfl, rfl⟩
  · split
    · exact ⟨rfl, rfl⟩
    · split <;> exact ⟨rfl, rfl⟩

theorem heap_setCell_ne {w : World} {p : Addr} {v : Value} {k : Nat} (h : k ≠ p.block) : (w.setCell p v).heap[k]? = w.heap[k]? := Below.heap_setCell w p v k h
theorem own_some {w : World} {base n size : Nat} {t : TypeId} {v : Value} {xs : List Value} (h : w.ownsRow base t size v (n + 1) xs) : ∃ g c, v = .slice (some ⟨g, 0, none⟩) (n + 1) c := by
  obtain ⟨g, cap, cur, rfl, _⟩ := h.2.resolve_left (fun e => by have := e.2; omega)
  exact ⟨g, cap, rfl⟩
theorem write_but {W w1 w2 w6 : World} {p : List Nat} (h : IsDk W base db fb mb cap cv d) (hw : NewPg W w1 p) (h2 : But (fun k => k = db) w1 w2) (h6 : But (wrS db mb cv) w2.drew w6) : But (wrS db mb cv) W w6 :=
  (((But.of_below hw.below (Nat.le_refl _)).trans (h2.mono (fun k hk => .inl hk))).drew).trans h6
theorem write_own {W w1 w2 : World} {p : List Nat} {v' cv : Value} {db : Nat} (h2 : But (fun k => k = db) w1 w2) (hw : NewPg W w1 p) (h : v'.ownBlock = cv.ownBlock ∨ ∃ k, v'.ownBlock = some k ∧ w2.drew.heap.size ≤ k) : v'.ownBlock = cv.ownBlock ∨ ∃ k, v'.ownBlock = some k ∧ W.heap.size ≤ k :=
  h.imp id (fun ⟨k, hk, hs⟩ => ⟨k, hk, Nat.le_trans hw.below.size (Nat.le_trans h2.size hs)⟩)
/-- The disk behind a write. -/
theorem write_fin {w2 w3 w4 w5 : World} {v' : Value} {i : Nat} {p : List Nat} (hp : p.length = 64) (h : IsDk w2 base db fb mb cap cv d) (hi : i < d.firm.length) (hm : IntMap w3 mb .i64 (lastM (d.pend ++ [(i, p)]))) (ht : MapTurned w2 w3 mb)
    (hb : But (fun _ => False) w3 w4) (q1 : w5.ownsRow base 97 65 v' (d.pend.length + 1) (d.pend.flatMap wrF ++ wrF (i, p))) (q2 : w4.grownBy w5 cv.ownBlock) (q3 : v'.ownBlock = cv.ownBlock ∨ v'.ownBlock = some w4.heap.size) :
    IsDk (w5.setCell ⟨db, 1, none⟩ v') base db fb mb cap v' (d.put i p) ∧ But (wrS db mb cv) w2 (w5.setCell ⟨db, 1, none⟩ v') ∧ (v'.ownBlock = cv.ownBlock ∨ ∃ k, v'.ownBlock = some k ∧ w2.heap.size ≤ k) := by
  have hb23 : But (fun k => k = mb ∨ cv.ownBlock = some k) w2 w3 := ⟨ht.1, ht.2.1, ht.2.2.1, Nat.le_of_eq ht.2.2.2.1.symm, fun k _ hk => ht.2.2.2.2 k (fun e => hk (.inl e))⟩
  have hb25 : But (fun k => k = mb ∨ cv.ownBlock = some k) w2 w5 := (hb23.trans (hb.mono (fun _ h => h.elim))).grown q2 (fun k hk => .inr hk)
  have hne := h.mb_ne
  have n1 : ¬ (db = mb ∨ cv.ownBlock = some db) := fun e => e.elim (fun e => hne.1 e.symm) (fun e => (h.cv_ne e).1 rfl)
  have n2 : ¬ (fb = mb ∨ cv.ownBlock = some fb) := fun e => e.elim (fun e => hne.2 e.symm) (fun e => (h.cv_ne e).2.1 rfl)
  have hsz24 : w2.heap.size ≤ w4.heap.size := (hb23.trans (hb.mono (fun _ h => h.elim))).size
  have hv' : ∀ k, v'.ownBlock = some k → k ≠ db ∧ k ≠ mb := by
    intro k hk
    rcases q3 with e | e
    · rw [e] at hk; exact ⟨(h.cv_ne hk).1, (h.cv_ne hk).2.2⟩
    · rw [e] at hk
      obtain rfl := Option.some.inj hk
      have := h.blk.lt
      have := h.map.lt
      omega
  refine ⟨⟨?_, ?_, ?_, ?_, ?_, h.n1, h.n2, h.f1, h.f2, h.bdb, h.bmb⟩, ?_, ?_⟩
  · exact (hb25.blk h.blk n1).set 1 v'
  · exact (h.firm.but hb25 (fun k hk => by simp [Value.ownBlock] at hk; subst hk; exact n2)).of_block fun k hk => heap_setCell_ne (by simp [Value.ownBlock] at hk; subst hk; exact h.fb_ne)
  · have hc : RowF w5 base 97 65 wrF v' (d.pend ++ [(i, p)]) := by
      refine ⟨fun x hx => ?_, ?_⟩
      · rcases List.mem_append.1 hx with hx | hx
        · exact h.cache.1 x hx
        · simp at hx; subst hx; rw [wrF_length, hp]
      · rw [List.length_append, List.flatMap_append]
        simpa using q1
    exact hc.of_block fun k hk => heap_setCell_ne (hv' k hk).1
  · have e1 : w5.heap[mb]? = w3.heap[mb]? := by
      have e2 : w4.heap[mb]? = w3.heap[mb]? := hb.block mb hm.lt id
      rw [← e2]
      exact q2.block mb (Nat.lt_of_lt_of_le hm.lt hb.size) (fun e => (h.cv_ne e.symm).2.2 rfl)
    exact hm.of_block ((heap_setCell_ne (fun e => hne.1 e)).trans e1)
  · intro x hx
    rcases List.mem_append.1 hx with hx | hx
    · exact h.pend x hx
    · simp at hx; subst hx; exact hi
  · exact (hb25.mono (fun k hk => hk.elim (fun e => .inr (.inl e)) (fun e => .inr (.inr e)))).setCell (p := ⟨db, 1, none⟩) (.inl rfl) _
  · exact q3.imp id (fun e => ⟨_, e, hsz24⟩)

set_option maxRecDepth 100000 in
set_option maxHeartbeats 4000000 in
theorem write_ok (h : IsDk w base db fb mb cap cv d) (i : Nat) (p : List Nat) (hp : p.length = 64) (ho : d.off = false) (hi : i < d.firm.length) (hm : d.may = true) (hl : d.pend.length < 1000000) (hbase : base ≤ w.heap.size) : Calls Tryd.prog 15 #[.pointer (some ⟨db, 0, none⟩), .int .i64 (i : Int), pgV p] w fun e w' => e = .returned .nilIface ∧ ∃ cv', IsDk w' base db fb mb cap cv' (d.step.put i p) ∧ But (wrS db mb cv) w w' ∧ (cv'.ownBlock = cv.ownBlock ∨ ∃ k, cv'.ownBlock = some k ∧ w.heap.size ≤ k) := by
  go_enter Tryd.func15, Tryd.ntmps15
  unfold pgV
  go_upto_region 1 with fail
  change Code.wp _ _ _ _ (w.alloc (.cells (nv .u8 p) 48))
  have hw : NewPg w (w.alloc (.cells (nv .u8 p) 48)) p := ⟨IsBlk.new _ _ _, (Below.refl _ _).alloc (Nat.le_refl _) _, by simp⟩
  generalize w.alloc (.cells (nv .u8 p) 48) = w1 at hw ⊢
  have h1 := h.below hw.below
  have hoff := off_any h1
  have c0 := h1.c0
  rw [ho] at hoff
  have hst := step_ok h1 hm
  have hn2 := h.n2
  have HW := Lib.hid hw
  have HH := Lib.hid (And.intro h (And.intro hm (And.intro hp (And.intro hl hbase))))
  clear h h1 hw hm hp hl hbase
  go_upto_region 6 with (first
    | (go_at_call 34; (with_reducible refine hoff.mono ?_); rintro e w' ⟨rfl, rfl⟩)
    | (go_at_call 35; (with_reducible refine hst.mono ?_); rintro e w2 ⟨rfl, h2, hb2⟩; have H2 := Lib.hid (And.intro h2 hb2); clear h2 hb2))
  obtain ⟨hsf1, hsf2⟩ := step_firm d
  have c1 := H2.out.1.c1
  have c2 := H2.out.1.c2
  obtain ⟨a, cc, hcv⟩ := H2.out.1.cache.slice
  rw [hsf2] at hcv
  subst hcv
  have h2d : IsDk w2.drew base db fb mb cap (.slice a d.pend.length cc) d.step := H2.out.1.below ((Below.refl _ _).drew)
  have hmp := h2d.map
  rw [hsf2] at hmp
  obtain ⟨w3, hrun, hm3, ht3⟩ := last_put hmp i p
  have HR := Lib.hid hrun
  have HM := Lib.hid (And.intro hm3 ht3)
  have HD := Lib.hid h2d
  clear hmp h2d hrun hm3 ht3
  refine wp_region_held_drew (S := fun w' => w'.cell? ⟨db, 2, none⟩ = some (.map (some mb)) ∧ w'.cell? ⟨db, 1, none⟩ = some (.slice a d.pend.length cc)) (by kernel_rfl) ⟨c2, c1⟩ (fun hHeld => ?_)
  refine wpAnyH_take (i := 0) (v := ?_) rfl (by kernel_rfl) (by kernel_rfl) (by kernel_rfl) (fun _ _ _ h => h) (Or.inl ⟨by rfl, ?_⟩) (by with_reducible assumption) ?_
  rotate_left
  · intro w hSw; (try dsimp only at hSw); (try go_split_ands); go_simp; (try with_reducible rfl)
  (try simp only [Act.put, List.getElem_toArray, List.getElem_cons_succ, List.getElem_cons_zero, List.setIfInBounds_toArray, List.set_cons_zero, List.set_cons_succ])
  refine wpAnyH_take (i := 1) (v := ?_) rfl (by kernel_rfl) (by kernel_rfl) (by kernel_rfl) (fun _ _ _ h => h) (Or.inl ⟨by rfl, ?_⟩) (by with_reducible assumption) ?_
  rotate_left
  · intro w hSw; (try dsimp only at hSw); (try go_split_ands); go_simp; (try with_reducible rfl)
  (try simp only [Act.put, List.getElem_toArray, List.getElem_cons_succ, List.getElem_cons_zero, List.setIfInBounds_toArray, List.set_cons_zero, List.set_cons_succ])
  refine wpAnyH_take (i := 2) (v := ?_) rfl (by kernel_rfl) (by kernel_rfl) (by kernel_rfl) (fun _ _ _ h => h) (Or.inl ⟨by rfl, ?_⟩) (by with_reducible assumption) ?_
  rotate_left
  · intro w hSw; (try dsimp only at hSw); (try go_split_ands); go_simp; (try with_reducible rfl)
  (try simp only [Act.put, List.getElem_toArray, List.getElem_cons_succ, List.getElem_cons_zero, List.setIfInBounds_toArray, List.set_cons_zero, List.set_cons_succ])
  refine wpAnyH_take (i := 3) (v := ?_) rfl (by kernel_rfl) (by kernel_rfl) (by kernel_rfl) (fun _ _ _ h => h) (Or.inl ⟨by rfl, ?_⟩) (by with_reducible assumption) ?_
  rotate_left
  · intro w hSw; (try dsimp only at hSw); (try go_split_ands); go_simp; (try with_reducible rfl)
  (try simp only [Act.put, List.getElem_toArray, List.getElem_cons_succ, List.getElem_cons_zero, List.setIfInBounds_toArray, List.set_cons_zero, List.set_cons_succ])
  refine wpAnyH_take (i := 4) (v := ?_) rfl (by kernel_rfl) (by kernel_rfl) (by kernel_rfl) (fun _ _ _ h => h) (Or.inl ⟨by rfl, ?_⟩) (by with_reducible assumption) ?_
  rotate_left
  · intro w hSw; (try dsimp only at hSw); (try go_split_ands); go_simp; (try with_reducible rfl)
  (try simp only [Act.put, List.getElem_toArray, List.getElem_cons_succ, List.getElem_cons_zero, List.setIfInBounds_toArray, List.set_cons_zero, List.set_cons_succ])
  refine wpAnyH_take (i := 5) (v := ?_) rfl (by kernel_rfl) (by kernel_rfl) (by kernel_rfl) (fun _ _ _ h => h) (Or.inl ⟨by rfl, ?_⟩) (by with_reducible assumption) ?_
  rotate_left
  · intro w hSw; (try dsimp only at hSw); (try go_split_ands); go_simp; (try with_reducible rfl)
  (try simp only [Act.put, List.getElem_toArray, List.getElem_cons_succ, List.getElem_cons_zero, List.setIfInBounds_toArray, List.set_cons_zero, List.set_cons_succ])
  refine wpAnyH_take (i := 6) (v := ?_) rfl (by kernel_rfl) (by kernel_rfl) (by kernel_rfl) (fun _ _ _ h => h) (Or.inl ⟨by rfl, ?_⟩) (by with_reducible assumption) ?_
  rotate_left
  · intro w hSw; (try dsimp only at hSw); (try go_split_ands); go_simp; (try with_reducible rfl)
  (try simp only [Act.put, List.getElem_toArray, List.getElem_cons_succ, List.getElem_cons_zero, List.setIfInBounds_toArray, List.set_cons_zero, List.set_cons_succ])
  refine wpAnyH_take (i := 7) (v := ?_) rfl (by kernel_rfl) (by kernel_rfl) (by kernel_rfl) (fun _ _ _ h => h) (Or.inl ⟨by rfl, ?_⟩) (by with_reducible assumption) ?_
  rotate_left
  · intro w hSw; (try dsimp only at hSw); (try go_split_ands); go_simp; (try with_reducible rfl)
  (try simp only [Act.put, List.getElem_toArray, List.getElem_cons_succ, List.getElem_cons_zero, List.setIfInBounds_toArray, List.set_cons_zero, List.set_cons_succ])
  refine wpAnyH_take (i := 8) (v := ?_) rfl (by kernel_rfl) (by kernel_rfl) (by kernel_rfl) (fun _ _ _ h => h) (Or.inl ⟨by rfl, ?_⟩) (by with_reducible assumption) ?_
  rotate_left
  · intro w hSw; (try dsimp only at hSw); (try go_split_ands); go_simp; (try with_reducible rfl)
  (try simp only [Act.put, List.getElem_toArray, List.getElem_cons_succ, List.getElem_cons_zero, List.setIfInBounds_toArray, List.set_cons_zero, List.set_cons_succ])
  refine wpAnyH_take (i := 9) (v := ?_) rfl (by kernel_rfl) (by kernel_rfl) (by kernel_rfl) (fun _ _ _ h => h) (Or.inl ⟨by rfl, ?_⟩) (by with_reducible assumption) ?_
  rotate_left
  · intro w hSw; (try dsimp only at hSw); (try go_split_ands); go_simp; (try with_reducible rfl)
  (try simp only [Act.put, List.getElem_toArray, List.getElem_cons_succ, List.getElem_cons_zero, List.setIfInBounds_toArray, List.set_cons_zero, List.set_cons_succ])
  refine wpAnyH_ready (rs := [10]) (by kernel_rfl) (by simp) ?_
  refine AllReadyH.cons rfl (fun K hK => ?_) AllReadyH.nil
  rw [if_pos (by rfl)]
  simp only [List.getElem_toArray, List.getElem_cons_succ, List.getElem_cons_zero]
  refine wp_mapUpdate 84 (.tmp 34) (.tmp 35) (.tmp 40) (by rfl) mb .i64 (i : Int) (.int .i64 ((d.pend.length : Nat) : Int)) (by rfl) (by rfl) (by rfl) HR.out ?_
  have c13 := (HM.out.2.cell (p := ⟨db, 1, none⟩) (fun e => HD.out.mb_ne.1 e.symm)).trans HD.out.c1
  have c23 := (HM.out.2.cell (p := ⟨db, 2, none⟩) (fun e => HD.out.mb_ne.1 e.symm)).trans HD.out.c2
  refine hK.out _ _ ⟨c23, c13⟩ (fun hHeld => ?_)
  clear hK K
  (try simp only [Act.put, List.getElem_toArray, List.getElem_cons_succ, List.getElem_cons_zero, List.setIfInBounds_toArray, List.set_cons_zero, List.set_cons_succ])
  refine wpAnyH_done (by kernel_rfl) ?_ _
  have hb12 := H2.out.2
  have hxdb : w.heap.size ≠ db := by have := HH.out.1.blk.lt; omega
  have hxmb : w.heap.size ≠ mb := by have := HH.out.1.map.lt; omega
  have hx2 : IsBlk w2 w.heap.size (nv .u8 p) 48 := hb12.blk HW.out.blk hxdb
  have hx3 : IsBlk w3 w.heap.size (nv .u8 p) 48 := hx2.of_block (HM.out.2.2.2.2.2 _ hxmb)
  have hcr3 : RowF w3 base 97 65 wrF (.slice a d.pend.length cc) d.pend := by
    have h1 := HD.out.cache
    rw [hsf2] at h1
    exact h1.of_block fun k hk => HM.out.2.2.2.2.2 k (HD.out.cv_ne hk).2.2
  have hsz3 : w.heap.size + 1 ≤ w3.heap.size := by
    have e1 := HM.out.2.2.2.2.1
    have e2 := hb12.size
    have e3 := HW.out.size
    have e4 : w2.drew.heap.size = w2.heap.size := rfl
    omega
  have HX := Lib.hid (And.intro hx3 (And.intro hcr3 hsz3))
  have c13 := (HM.out.2.cell (p := ⟨db, 1, none⟩) (fun e => HD.out.mb_ne.1 e.symm)).trans HD.out.c1
  have z13 := (HM.out.2.frozen (p := ⟨db, 1, none⟩) (fun e => HD.out.mb_ne.1 e.symm)).trans (HD.out.fz 1)
  clear hx2 hx3 hcr3 hsz3 hHeld hb12
  go_upto_region 7 with fail
  have hpl := HH.out.2.2.1
  have hbl : base ≤ (w3.drew.alloc (.cells (wrF (i, p)).toArray 97)).heap.size := by
    have e1 := HH.out.2.2.2.2
    have e2 := HX.out.2.2
    have e3 : (w3.drew.alloc (.cells (wrF (i, p)).toArray 97)).heap.size = w3.heap.size + 1 := by simp
    omega
  have hsrc : Src (w3.drew.alloc (.cells (wrF (i, p)).toArray 97)) 65 (some ⟨w3.drew.heap.size, 0, none⟩) 1 (wrF (i, p)) := wr_src w3.drew i p hpl
  have hown := (HX.out.2.1.below ((Below.refl _ _).drew)).below ((Below.refl _ _).alloc (Nat.le_refl _) (.cells (wrF (i, p)).toArray 97))
  have hwl : (d.pend.length + 1) * 72 ≤ 140737488355328 := by have := HH.out.2.2.2.1; omega
  have hrun8 := run_wr_slice w3.drew i p hpl
  have c13d : w3.drew.cell? ⟨db, 1, none⟩ = some (.slice a d.pend.length cc) := c13
  have c14 : (w3.drew.alloc (.cells (wrF (i, p)).toArray 97)).cell? ⟨db, 1, none⟩ = some (.slice a d.pend.length cc) := (World.cell?_alloc_lt _ _ ⟨db, 1, none⟩ (cell_lt c13d)).trans c13d
  have z14 : (w3.drew.alloc (.cells (wrF (i, p)).toArray 97)).frozen? ⟨db, 1, none⟩ = false := (World.frozen?_alloc_old _ _ ⟨db, 1, none⟩ (Nat.ne_of_lt (cell_lt c13d))).trans z13
  have hb34 : But (fun _ => False) w3 (w3.drew.alloc (.cells (wrF (i, p)).toArray 97)) := ((But.refl _ _).drew).alloc _
  have hrg : w3.drew.rangeAt w.heap.size 0 (bv p) := range_blk HX.out.1
  generalize w3.drew.alloc (.cells (wrF (i, p)).toArray 97) = w4 at hbl hsrc hown hrun8 c14 z14 hb34
  obtain ⟨it, z, hi1, hi2, hi3, hi4, hi5⟩ := wr_typ
  have hlen : (bv p).length = 64 := by rw [bv_length, hpl]
  have HA := Lib.hid (And.intro hbl (And.intro hsrc (And.intro hown (And.intro hwl (And.intro hrun8 (And.intro hb34 (And.intro hrg hlen)))))))
  have HI := Lib.hid (And.intro hi1 (And.intro hi2 (And.intro hi3 (And.intro hi4 hi5))))
  have HZ := Lib.hid z14
  clear hbl hsrc hown hwl hrun8 hb34 hrg hlen hi1 hi2 hi3 hi4 hi5 z14
  refine wp_region_any (by kernel_rfl) ?_
  change wpAny _ _ _ _ _ _ _ (World.drew _)
  refine wpAny_take (i := 0) (v := ?_) rfl (by kernel_rfl) (by kernel_rfl) (by kernel_rfl) (fun _ _ _ h => h) (Or.inl ⟨by rfl, ?_⟩) ?_
  rotate_left
  · intro w; go_simp; (try with_reducible rfl)
  (try simp only [Act.put, List.getElem_toArray, List.getElem_cons_succ, List.getElem_cons_zero, List.setIfInBounds_toArray, List.set_cons_zero, List.set_cons_succ])
  refine wpAny_take (i := 1) (v := ?_) rfl (by kernel_rfl) (by kernel_rfl) (by kernel_rfl) (fun _ _ _ h => h) (Or.inl ⟨by rfl, ?_⟩) ?_
  rotate_left
  · intro w; go_simp; (try with_reducible rfl)
  (try simp only [Act.put, List.getElem_toArray, List.getElem_cons_succ, List.getElem_cons_zero, List.setIfInBounds_toArray, List.set_cons_zero, List.set_cons_succ])
  refine wpAny_take (i := 2) (v := ?_) rfl (by kernel_rfl) (by kernel_rfl) (by kernel_rfl) (fun _ _ _ h => h) (Or.inl ⟨by rfl, ?_⟩) ?_
  rotate_left
  · intro w; go_simp; (try with_reducible rfl)
  (try simp only [Act.put, List.getElem_toArray, List.getElem_cons_succ, List.getElem_cons_zero, List.setIfInBounds_toArray, List.set_cons_zero, List.set_cons_succ])
  refine wpAny_take (i := 3) (v := ?_) rfl (by kernel_rfl) (by kernel_rfl) (by kernel_rfl) (fun _ _ _ h => h) (Or.inl ⟨by rfl, ?_⟩) ?_
  rotate_left
  · intro w; go_simp; (try with_reducible rfl)
  (try simp only [Act.put, List.getElem_toArray, List.getElem_cons_succ, List.getElem_cons_zero, List.setIfInBounds_toArray, List.set_cons_zero, List.set_cons_succ])
  refine wpAny_take (i := 5) (v := ?_) rfl (by kernel_rfl) (by kernel_rfl) (by kernel_rfl) (fun _ _ _ h => h) (Or.inl ⟨by rfl, ?_⟩) ?_
  rotate_left
  · intro w; go_simp; (try with_reducible rfl)
  (try simp only [Act.put, List.getElem_toArray, List.getElem_cons_succ, List.getElem_cons_zero, List.setIfInBounds_toArray, List.set_cons_zero, List.set_cons_succ])
  refine wpAny_ready (rs := [4, 6]) (by kernel_rfl) (by simp) ?_
  refine AllReady.cons rfl (fun K hK => ?_) (AllReady.cons rfl (fun K hK => ?_) AllReady.nil)
  · go_simp
    refine hK _ _ ?_
    clear hK K
    (try simp only [Act.put, List.getElem_toArray, List.getElem_cons_succ, List.getElem_cons_zero, List.setIfInBounds_toArray, List.set_cons_zero, List.set_cons_succ])
    refine wpAny_ready (rs := [6]) (by kernel_rfl) (by simp) ?_
    refine AllReady.cons rfl (fun K hK => ?_) AllReady.nil
    rw [if_pos (by rfl)]
    simp only [List.getElem_toArray, List.getElem_cons_succ, List.getElem_cons_zero]
    refine wp_load_mid 48 (.tmp 5) (by rfl) w.heap.size 0 (by rfl) (bv p) _ HA.out.2.2.2.2.2.2.1 Tryd.underlying48 rfl (by rw [HA.out.2.2.2.2.2.2.2]; kernel_rfl) ?_
    refine hK _ _ ?_
    clear hK K
    (try simp only [Act.put, List.getElem_toArray, List.getElem_cons_succ, List.getElem_cons_zero, List.setIfInBounds_toArray, List.set_cons_zero, List.set_cons_succ])
    refine wpAny_take (i := 7) (v := .agg (wrF (i, p)).toArray) rfl (by kernel_rfl) (by kernel_rfl) (by kernel_rfl) (fun _ _ _ h => h) (yields_build (by rfl) 97 #[(0, .tmp 46), (1, .tmp 47)] (by rfl) _ (built_wr i p hpl)) ?_
    (try simp only [Act.put, List.getElem_toArray, List.getElem_cons_succ, List.getElem_cons_zero, List.setIfInBounds_toArray, List.set_cons_zero, List.set_cons_succ])
    refine wpAny_ready (rs := [8]) (by kernel_rfl) (by simp) ?_
    refine AllReady.cons rfl (fun K hK => ?_) AllReady.nil
    rw [if_pos (by rfl)]
    simp only [List.getElem_toArray, List.getElem_cons_succ, List.getElem_cons_zero]
    refine wp_slice_one 85 (.tmp 48) (by rfl) _ _ (by rfl) HA.out.2.2.2.2.1 ?_
    refine hK _ _ ?_
    clear hK K
    (try simp only [Act.put, List.getElem_toArray, List.getElem_cons_succ, List.getElem_cons_zero, List.setIfInBounds_toArray, List.set_cons_zero, List.set_cons_succ])
    refine wpAny_ready (rs := [9]) (by kernel_rfl) (by simp) ?_
    refine AllReady.cons rfl (fun K hK => ?_) AllReady.nil
    refine step_append_src w4 (by rfl) (.tmp 45) (.tmp 49) 85 (by rfl) base 97 it z 65 72 Tryd.underlying85 HI.out.1 HI.out.2.1 HI.out.2.2.1 HI.out.2.2.2.1 HI.out.2.2.2.2 (by decide) _ _ _ (by rfl) HA.out.2.2.1.2 _ 1 1 (wrF (i, p)) (by rfl) HA.out.2.1 (by intro e; cases e) (wrF_one _) (by have := HH.out.2.2.2.1; unfold maxLen; omega) HA.out.2.2.2.1 HA.out.1 fun v' w5 q1 q2 q3 => ?_
    obtain ⟨g', c', rfl⟩ := own_some q1
    refine hK _ _ ?_
    clear hK K
    (try simp only [Act.put, List.getElem_toArray, List.getElem_cons_succ, List.getElem_cons_zero, List.setIfInBounds_toArray, List.set_cons_zero, List.set_cons_succ])
    have c15 := (World.cell?_of_block (a := ⟨db, 1, none⟩) (q2.block db (cell_lt c14) (fun e => (HD.out.cv_ne e.symm).1 rfl))).trans c14
    have z15 := (World.frozen?_of_block (a := ⟨db, 1, none⟩) (q2.block db (cell_lt c14) (fun e => (HD.out.cv_ne e.symm).1 rfl))).trans HZ.out
    have HE := Lib.hid (And.intro q1 (And.intro q2 q3))
    clear q1 q2 q3
    refine wpAny_take (i := 10) (v := ?_) rfl (by kernel_rfl) (by kernel_rfl) (by kernel_rfl) (fun _ _ _ h => h) (Or.inl ⟨by rfl, ?_⟩) ?_
    rotate_left
    · intro w; go_simp; (try with_reducible rfl)
    (try simp only [Act.put, List.getElem_toArray, List.getElem_cons_succ, List.getElem_cons_zero, List.setIfInBounds_toArray, List.set_cons_zero, List.set_cons_succ])
    refine wpAny_take (i := 11) (v := ?_) rfl (by kernel_rfl) (by kernel_rfl) (by kernel_rfl) (fun _ _ _ h => h) (Or.inl ⟨by rfl, ?_⟩) ?_
    rotate_left
    · intro w; go_simp; (try with_reducible rfl)
    (try simp only [Act.put, List.getElem_toArray, List.getElem_cons_succ, List.getElem_cons_zero, List.setIfInBounds_toArray, List.set_cons_zero, List.set_cons_succ])
    refine wpAny_ready (rs := [12]) (by kernel_rfl) (by simp) ?_
    refine AllReady.cons rfl (fun K hK => ?_) AllReady.nil
    go_simp
    refine hK _ _ ?_
    clear hK K
    refine wpAny_done (by kernel_rfl) ?_ _
    have hfin := write_fin hpl HD.out (by rw [hsf1]; exact hi) (by rw [hsf2]; exact HM.out.1) HM.out.2 HA.out.2.2.2.2.2.1 (by rw [hsf2]; exact HE.out.1) HE.out.2.1 HE.out.2.2
    have HF := Lib.hid hfin
    clear hfin
    go_wp2
    go_ret
    exact ⟨rfl, _, HF.out.1, write_but HH.out.1 HW.out H2.out.2 HF.out.2.1, write_own H2.out.2 HW.out HF.out.2.2⟩
  · rw [if_pos (by rfl)]
    simp only [List.getElem_toArray, List.getElem_cons_succ, List.getElem_cons_zero]
    refine wp_load_mid 48 (.tmp 5) (by rfl) w.heap.size 0 (by rfl) (bv p) _ HA.out.2.2.2.2.2.2.1 Tryd.underlying48 rfl (by rw [HA.out.2.2.2.2.2.2.2]; kernel_rfl) ?_
    refine hK _ _ ?_
    clear hK K
    (try simp only [Act.put, List.getElem_toArray, List.getElem_cons_succ, List.getElem_cons_zero, List.setIfInBounds_toArray, List.set_cons_zero, List.set_cons_succ])
    refine wpAny_take (i := 7) (v := .agg (wrF (i, p)).toArray) rfl (by kernel_rfl) (by kernel_rfl) (by kernel_rfl) (fun _ _ _ h => h) (yields_build (by rfl) 97 #[(0, .tmp 46), (1, .tmp 47)] (by rfl) _ (built_wr i p hpl)) ?_
    (try simp only [Act.put, List.getElem_toArray, List.getElem_cons_succ, List.getElem_cons_zero, List.setIfInBounds_toArray, List.set_cons_zero, List.set_cons_succ])
    refine wpAny_ready (rs := [4, 8]) (by kernel_rfl) (by simp) ?_
    refine AllReady.cons rfl (fun K hK => ?_) (AllReady.cons rfl (fun K hK => ?_) AllReady.nil)
    · go_simp
      refine hK _ _ ?_
      clear hK K
      (try simp only [Act.put, List.getElem_toArray, List.getElem_cons_succ, List.getElem_cons_zero, List.setIfInBounds_toArray, List.set_cons_zero, List.set_cons_succ])
      refine wpAny_ready (rs := [8]) (by kernel_rfl) (by simp) ?_
      refine AllReady.cons rfl (fun K hK => ?_) AllReady.nil
      rw [if_pos (by rfl)]
      simp only [List.getElem_toArray, List.getElem_cons_succ, List.getElem_cons_zero]
      refine wp_slice_one 85 (.tmp 48) (by rfl) _ _ (by rfl) HA.out.2.2.2.2.1 ?_
      refine hK _ _ ?_
      clear hK K
      (try simp only [Act.put, List.getElem_toArray, List.getElem_cons_succ, List.getElem_cons_zero, List.setIfInBounds_toArray, List.set_cons_zero, List.set_cons_succ])
      refine wpAny_ready (rs := [9]) (by kernel_rfl) (by simp) ?_
      refine AllReady.cons rfl (fun K hK => ?_) AllReady.nil
      refine step_append_src w4 (by rfl) (.tmp 45) (.tmp 49) 85 (by rfl) base 97 it z 65 72 Tryd.underlying85 HI.out.1 HI.out.2.1 HI.out.2.2.1 HI.out.2.2.2.1 HI.out.2.2.2.2 (by decide) _ _ _ (by rfl) HA.out.2.2.1.2 _ 1 1 (wrF (i, p)) (by rfl) HA.out.2.1 (by intro e; cases e) (wrF_one _) (by have := HH.out.2.2.2.1; unfold maxLen; omega) HA.out.2.2.2.1 HA.out.1 fun v' w5 q1 q2 q3 => ?_
      obtain ⟨g', c', rfl⟩ := own_some q1
      refine hK _ _ ?_
      clear hK K
      (try simp only [Act.put, List.getElem_toArray, List.getElem_cons_succ, List.getElem_cons_zero, List.setIfInBounds_toArray, List.set_cons_zero, List.set_cons_succ])
      have c15 := (World.cell?_of_block (a := ⟨db, 1, none⟩) (q2.block db (cell_lt c14) (fun e => (HD.out.cv_ne e.symm).1 rfl))).trans c14
      have z15 := (World.frozen?_of_block (a := ⟨db, 1, none⟩) (q2.block db (cell_lt c14) (fun e => (HD.out.cv_ne e.symm).1 rfl))).trans HZ.out
      have HE := Lib.hid (And.intro q1 (And.intro q2 q3))
      clear q1 q2 q3
      refine wpAny_take (i := 10) (v := ?_) rfl (by kernel_rfl) (by kernel_rfl) (by kernel_rfl) (fun _ _ _ h => h) (Or.inl ⟨by rfl, ?_⟩) ?_
      rotate_left
      · intro w; go_simp; (try with_reducible rfl)
      (try simp only [Act.put, List.getElem_toArray, List.getElem_cons_succ, List.getElem_cons_zero, List.setIfInBounds_toArray, List.set_cons_zero, List.set_cons_succ])
      refine wpAny_take (i := 11) (v := ?_) rfl (by kernel_rfl) (by kernel_rfl) (by kernel_rfl) (fun _ _ _ h => h) (Or.inl ⟨by rfl, ?_⟩) ?_
      rotate_left
      · intro w; go_simp; (try with_reducible rfl)
      (try simp only [Act.put, List.getElem_toArray, List.getElem_cons_succ, List.getElem_cons_zero, List.setIfInBounds_toArray, List.set_cons_zero, List.set_cons_succ])
      refine wpAny_ready (rs := [12]) (by kernel_rfl) (by simp) ?_
      refine AllReady.cons rfl (fun K hK => ?_) AllReady.nil
      go_simp
      refine hK _ _ ?_
      clear hK K
      refine wpAny_done (by kernel_rfl) ?_ _
      have hfin := write_fin hpl HD.out (by rw [hsf1]; exact hi) (by rw [hsf2]; exact HM.out.1) HM.out.2 HA.out.2.2.2.2.2.1 (by rw [hsf2]; exact HE.out.1) HE.out.2.1 HE.out.2.2
      have HF := Lib.hid hfin
      clear hfin
      go_wp2
      go_ret
      exact ⟨rfl, _, HF.out.1, write_but HH.out.1 HW.out H2.out.2 HF.out.2.1, write_own H2.out.2 HW.out HF.out.2.2⟩
    · rw [if_pos (by rfl)]
      simp only [List.getElem_toArray, List.getElem_cons_succ, List.getElem_cons_zero]
      refine wp_slice_one 85 (.tmp 48) (by rfl) _ _ (by rfl) HA.out.2.2.2.2.1 ?_
      refine hK _ _ ?_
      clear hK K
      (try simp only [Act.put, List.getElem_toArray, List.getElem_cons_succ, List.getElem_cons_zero, List.setIfInBounds_toArray, List.set_cons_zero, List.set_cons_succ])
      refine wpAny_ready (rs := [4]) (by kernel_rfl) (by simp) ?_
      refine AllReady.cons rfl (fun K hK => ?_) AllReady.nil
      go_simp
      refine hK _ _ ?_
      clear hK K
      (try simp only [Act.put, List.getElem_toArray, List.getElem_cons_succ, List.getElem_cons_zero, List.setIfInBounds_toArray, List.set_cons_zero, List.set_cons_succ])
      refine wpAny_ready (rs := [9]) (by kernel_rfl) (by simp) ?_
      refine AllReady.cons rfl (fun K hK => ?_) AllReady.nil
      refine step_append_src w4 (by rfl) (.tmp 45) (.tmp 49) 85 (by rfl) base 97 it z 65 72 Tryd.underlying85 HI.out.1 HI.out.2.1 HI.out.2.2.1 HI.out.2.2.2.1 HI.out.2.2.2.2 (by decide) _ _ _ (by rfl) HA.out.2.2.1.2 _ 1 1 (wrF (i, p)) (by rfl) HA.out.2.1 (by intro e; cases e) (wrF_one _) (by have := HH.out.2.2.2.1; unfold maxLen; omega) HA.out.2.2.2.1 HA.out.1 fun v' w5 q1 q2 q3 => ?_
      obtain ⟨g', c', rfl⟩ := own_some q1
      refine hK _ _ ?_
      clear hK K
      (try simp only [Act.put, List.getElem_toArray, List.getElem_cons_succ, List.getElem_cons_zero, List.setIfInBounds_toArray, List.set_cons_zero, List.set_cons_succ])
      have c15 := (World.cell?_of_block (a := ⟨db, 1, none⟩) (q2.block db (cell_lt c14) (fun e => (HD.out.cv_ne e.symm).1 rfl))).trans c14
      have z15 := (World.frozen?_of_block (a := ⟨db, 1, none⟩) (q2.block db (cell_lt c14) (fun e => (HD.out.cv_ne e.symm).1 rfl))).trans HZ.out
      have HE := Lib.hid (And.intro q1 (And.intro q2 q3))
      clear q1 q2 q3
      refine wpAny_take (i := 10) (v := ?_) rfl (by kernel_rfl) (by kernel_rfl) (by kernel_rfl) (fun _ _ _ h => h) (Or.inl ⟨by rfl, ?_⟩) ?_
      rotate_left
      · intro w; go_simp; (try with_reducible rfl)
      (try simp only [Act.put, List.getElem_toArray, List.getElem_cons_succ, List.getElem_cons_zero, List.setIfInBounds_toArray, List.set_cons_zero, List.set_cons_succ])
      refine wpAny_take (i := 11) (v := ?_) rfl (by kernel_rfl) (by kernel_rfl) (by kernel_rfl) (fun _ _ _ h => h) (Or.inl ⟨by rfl, ?_⟩) ?_
      rotate_left
      · intro w; go_simp; (try with_reducible rfl)
      (try simp only [Act.put, List.getElem_toArray, List.getElem_cons_succ, List.getElem_cons_zero, List.setIfInBounds_toArray, List.set_cons_zero, List.set_cons_succ])
      refine wpAny_ready (rs := [12]) (by kernel_rfl) (by simp) ?_
      refine AllReady.cons rfl (fun K hK => ?_) AllReady.nil
      go_simp
      refine hK _ _ ?_
      clear hK K
      refine wpAny_done (by kernel_rfl) ?_ _
      have hfin := write_fin hpl HD.out (by rw [hsf1]; exact hi) (by rw [hsf2]; exact HM.out.1) HM.out.2 HA.out.2.2.2.2.2.1 (by rw [hsf2]; exact HE.out.1) HE.out.2.1 HE.out.2.2
      have HF := Lib.hid hfin
      clear hfin
      go_wp2
      go_ret
      exact ⟨rfl, _, HF.out.1, write_but HH.out.1 HW.out H2.out.2 HF.out.2.1, write_own H2.out.2 HW.out HF.out.2.2⟩
end
end Go.Proofs.YtkabkehfckbhcaaDoor

namespace Go.Proofs.YtkabkehfckbhcaaDoor
set_option linter.unusedVariables false
set_option linter.unusedSimpArgs false
open Go.RowKit

section
variable {w : World} {base db fb mb cap : Nat} {cv : Value} {d : DK}

theorem step_no (h : IsDk w base db fb mb cap cv d) (hm : d.may = false) : Calls Tryd.prog 35 #[.pointer (some ⟨db, 0, none⟩)] w fun e w' => ∃ b, e = .returned (.iface 115 (.pointer (some ⟨b, 0, none⟩))) ∧ IsRes w' (.iface 115 (.pointer (some ⟨b, 0, none⟩))) 10 ∧ IsDk w' base db fb mb cap cv d.step ∧ But (fun k => k = db) w w' := by
  refine (step_any h).mono ?_
  rintro e w' ⟨v, rfl, hv, hr, h1, h2⟩
  have hs : stepE d = 10 := by unfold stepE; rw [hm]; rfl
  rw [hs] at hr
  rcases hv with rfl | ⟨b, rfl, _⟩
  · simp [IsRes] at hr
  · exact ⟨b, rfl, hr, h1, h2⟩

set_option maxHeartbeats 4000000 in
theorem write_no (h : IsDk w base db fb mb cap cv d) (i : Int) (p : List Nat) (hm : d.may = false) (hb : d.off = false → d.bad i = false) : Calls Tryd.prog 15 #[.pointer (some ⟨db, 0, none⟩), .int .i64 i, pgV p] w fun e w' => ∃ v, e = .returned v ∧ IsRes w' v 10 ∧ IsDk w' base db fb mb cap cv d.step ∧ But (wrS db mb cv) w w' := by
  go_enter Tryd.func15, Tryd.ntmps15
  unfold pgV
  go_upto_region 1 with fail
  change Code.wp _ _ _ _ (w.alloc (.cells (nv .u8 p) 48))
  have hw : NewPg w (w.alloc (.cells (nv .u8 p) 48)) p := ⟨IsBlk.new _ _ _, (Below.refl _ _).alloc (Nat.le_refl _) _, by simp⟩
  generalize w.alloc (.cells (nv .u8 p) 48) = w1 at hw ⊢
  have h1 := h.below hw.below
  have hoff := off_any h1
  have c0 := h1.c0
  have hst := step_no h1 hm
  have hn2 := h.n2
  have HW := Lib.hid hw
  clear h h1 hw hm
  cases ho : d.off with
  | true =>
    rw [ho] at hoff
    clear ho hb
    go_wp2_with (first
      | (go_at_call 34; (with_reducible refine hoff.mono ?_); rintro e w' ⟨rfl, rfl⟩)
      | (go_at_call 35; (with_reducible refine hst.mono ?_); rintro e w2 ⟨b, rfl, hr, h2, hb2⟩; have H2 := Lib.hid (And.intro hr (And.intro h2 hb2)); clear hr h2 hb2))
    go_ret
    exact ⟨_, rfl, H2.out.1, H2.out.2.1, (But.of_below HW.out.below (Nat.le_refl _)).trans (H2.out.2.2.mono (fun k hk => .inl hk))⟩
  | false =>
    rw [ho] at hoff
    have hb' := hb ho
    simp only [DK.bad, Bool.or_eq_false_iff, decide_eq_false_iff_not] at hb'
    obtain ⟨k, rfl⟩ : ∃ k : Nat, i = (k : Int) := ⟨i.toNat, by omega⟩
    have hk : k < d.firm.length := by omega
    clear ho hb hb'
    go_wp2_with (first
      | (go_at_call 34; (with_reducible refine hoff.mono ?_); rintro e w' ⟨rfl, rfl⟩)
      | (go_at_call 35; (with_reducible refine hst.mono ?_); rintro e w2 ⟨b, rfl, hr, h2, hb2⟩; have H2 := Lib.hid (And.intro hr (And.intro h2 hb2)); clear hr h2 hb2))
    go_ret
    exact ⟨_, rfl, H2.out.1, H2.out.2.1, (But.of_below HW.out.below (Nat.le_refl _)).trans (H2.out.2.2.mono (fun k hk => .inl hk))⟩

set_option maxHeartbeats 4000000 in
theorem write_bad (h : IsDk w base db fb mb cap cv d) (i : Int) (p : List Nat) (ho : d.off = false) (hb : d.bad i = true) : Calls Tryd.prog 15 #[.pointer (some ⟨db, 0, none⟩), .int .i64 i, pgV p] w fun e w' => ∃ v, e = .returned v ∧ IsRes w' v 1 ∧ IsDk w' base db fb mb cap cv d ∧ But (wrS db mb cv) w w' := by
  have hb' : i < 0 ∨ (0 ≤ i ∧ (d.firm.length : Int) ≤ i) := by
    simp only [DK.bad, Bool.or_eq_true, decide_eq_true_eq] at hb
    omega
  go_enter Tryd.func15, Tryd.ntmps15
  unfold pgV
  go_upto_region 1 with fail
  change Code.wp _ _ _ _ (w.alloc (.cells (nv .u8 p) 48))
  have hw : NewPg w (w.alloc (.cells (nv .u8 p) 48)) p := ⟨IsBlk.new _ _ _, (Below.refl _ _).alloc (Nat.le_refl _) _, by simp⟩
  generalize w.alloc (.cells (nv .u8 p) 48) = w1 at hw ⊢
  have h1 := h.below hw.below
  have hoff := off_any h1
  have c0 := h1.c0
  rw [ho] at hoff
  have hn2 := h.n2
  have HW := Lib.hid (And.intro hw h1)
  clear h h1 hw ho hb
  rcases hb' with hneg | ⟨hpos, hge⟩
  · go_wp2_with (first
      | (go_at_call 34; (with_reducible refine hoff.mono ?_); rintro e w' ⟨rfl, rfl⟩)
      | (go_at_call 32; (with_reducible refine (in_arg _).mono ?_); rintro e w2 ⟨v, rfl, ⟨b, rfl, _⟩, hr, hb2⟩; have HR := Lib.hid (And.intro hr hb2); clear hr hb2))
    go_ret
    exact ⟨_, rfl, HR.out.1, HW.out.2.below HR.out.2, (But.of_below HW.out.1.below (Nat.le_refl _)).trans (But.of_below HR.out.2 (Nat.le_refl _))⟩
  · have hneg : ¬ i < 0 := by omega
    go_wp2_with (first
      | (go_at_call 34; (with_reducible refine hoff.mono ?_); rintro e w' ⟨rfl, rfl⟩)
      | (go_at_call 32; (with_reducible refine (in_arg _).mono ?_); rintro e w2 ⟨v, rfl, ⟨b, rfl, _⟩, hr, hb2⟩; have HR := Lib.hid (And.intro hr hb2); clear hr hb2))
    go_ret
    exact ⟨_, rfl, HR.out.1, HW.out.2.below HR.out.2, (But.of_below HW.out.1.below (Nat.le_refl _)).trans (But.of_below HR.out.2 (Nat.le_refl _))⟩

/-- Write, whatever comes. -/
theorem write_any (h : IsDk w base db fb mb cap cv d) (i : Int) (p : List Nat) (hp : p.length = 64) (hl : d.pend.length < 1000000) (hbase : base ≤ w.heap.size) : Calls Tryd.prog 15 #[.pointer (some ⟨db, 0, none⟩), .int .i64 i, pgV p] w fun e w' => ∃ v cv', e = .returned v ∧ IsRes w' v (d.writeE i) ∧ IsDk w' base db fb mb cap cv' (d.write i p) ∧ But (wrS db mb cv) w w' ∧ (cv'.ownBlock = cv.ownBlock ∨ ∃ k, cv'.ownBlock = some k ∧ w.heap.size ≤ k) := by
  cases ho : d.off with
  | true =>
    have hm : d.may = false := by simp [DK.may, ho]
    have e1 : d.writeE i = 10 := by simp [DK.writeE, ho]
    have e2 : d.write i p = d := by simp [DK.write, ho]
    have e3 : d.step = d := by simp [DK.step, ho]
    rw [e1, e2]
    refine (write_no h i p hm (fun h => by rw [ho] at h; cases h)).mono ?_
    rintro e w' ⟨v, rfl, h1, h2, h3⟩
    rw [e3] at h2
    exact ⟨v, cv, rfl, h1, h2, h3, .inl rfl⟩
  | false =>
    cases hb : d.bad i with
    | true =>
      have e1 : d.writeE i = 1 := by simp [DK.writeE, ho, hb]
      have e2 : d.write i p = d := by simp [DK.write, ho, hb]
      rw [e1, e2]
      exact (write_bad h i p ho hb).mono fun e w' ⟨v, h0, h1, h2, h3⟩ => ⟨v, cv, h0, h1, h2, h3, .inl rfl⟩
    | false =>
      cases hm : d.may with
      | false =>
        have e1 : d.writeE i = 10 := by simp [DK.writeE, ho, hb, hm]
        have e2 : d.write i p = d.step := by simp [DK.write, ho, hb, hm]
        rw [e1, e2]
        exact (write_no h i p hm (fun _ => hb)).mono fun e w' ⟨v, h0, h1, h2, h3⟩ => ⟨v, cv, h0, h1, h2, h3, .inl rfl⟩
      | true =>
        have e1 : d.writeE i = 0 := by simp [DK.writeE, ho, hb, hm]
        simp only [DK.bad, Bool.or_eq_false_iff, decide_eq_false_iff_not] at hb
        obtain ⟨k, rfl⟩ : ∃ k : Nat, i = (k : Int) := ⟨i.toNat, by omega⟩
        have hbad : d.bad (k : Int) = false := by simp only [DK.bad, Bool.or_eq_false_iff, decide_eq_false_iff_not]; omega
        have e2 : d.write (k : Int) p = d.step.put k p := by
          simp only [DK.write, ho, hbad, hm, if_true, DK.put, Int.toNat_natCast, (step_firm d).2]
          rfl
        rw [e1, e2]
        refine (write_ok h k p hp ho (by omega) hm hl hbase).mono ?_
        rintro e w' ⟨rfl, cv', h1, h2, h3⟩
        exact ⟨_, cv', rfl, rfl, h1, h2, h3⟩

/-! A disk that is none. -/
theorem step_nil (w : World) : Calls Tryd.prog 35 #[.pointer none] w fun e w' => ∃ b, e = .returned (.iface 115 (.pointer (some ⟨b, 0, none⟩))) ∧ IsRes w' (.iface 115 (.pointer (some ⟨b, 0, none⟩))) 10 ∧ Below w.heap.size w w' := by
  go_enter Tryd.func35, Tryd.ntmps35
  go_wp2_with (first
    | (go_at_call 34; (with_reducible refine (off_nil _).mono ?_); rintro e w' ⟨rfl, rfl⟩)
    | (go_at_call 32; (with_reducible refine (in_off _).mono ?_); rintro e w' ⟨v, rfl, ⟨b, rfl, _⟩, hr, hb⟩))
  go_ret
  exact ⟨_, rfl, hr, hb⟩
theorem write_nil (i : Int) (p : List Nat) (w : World) : Calls Tryd.prog 15 #[.pointer none, .int .i64 i, pgV p] w fun e w' => ∃ v, e = .returned v ∧ IsRes w' v 10 ∧ Below w.heap.size w w' := by
  go_enter Tryd.func15, Tryd.ntmps15
  unfold pgV
  go_upto_region 1 with fail
  change Code.wp _ _ _ _ (w.alloc (.cells (nv .u8 p) 48))
  have hw : Below w.heap.size w (w.alloc (.cells (nv .u8 p) 48)) := (Below.refl _ _).alloc (Nat.le_refl _) _
  generalize w.alloc (.cells (nv .u8 p) 48) = w1 at hw ⊢
  have HW := Lib.hid hw
  clear hw
  go_wp2_with (first
    | (go_at_call 34; (with_reducible refine (off_nil _).mono ?_); rintro e w' ⟨rfl, rfl⟩)
    | (go_at_call 35; (with_reducible refine (step_nil _).mono ?_); rintro e w2 ⟨b, rfl, hr, hb2⟩; have H2 := Lib.hid (And.intro hr hb2); clear hr hb2))
  go_ret
  exact ⟨_, rfl, H2.out.1, HW.out.trans (H2.out.2.mono HW.out.size)⟩
theorem flush_nil (w : World) : Calls Tryd.prog 30 #[.pointer none] w fun e w' => ∃ v, e = .returned v ∧ IsRes w' v 10 ∧ Below w.heap.size w w' := by
  go_enter Tryd.func30, Tryd.ntmps30
  go_wp2_with (first
    | (go_at_call 35; (with_reducible refine (step_nil _).mono ?_); rintro e w2 ⟨b, rfl, hr, hb2⟩; have H2 := Lib.hid (And.intro hr hb2); clear hr hb2))
  go_ret
  exact ⟨_, rfl, H2.out.1, H2.out.2⟩
theorem size_nil (w : World) : Calls Tryd.prog 38 #[.pointer none] w fun e w' => e = .returned (.int .i64 0) ∧ w' = w := by
  go_enter Tryd.func38, Tryd.ntmps38
  go_wp2
  go_ret
  exact ⟨rfl, rfl⟩
theorem crash_nil (v : Value) (w : World) : Calls Tryd.prog 31 #[.pointer none, v] w fun e w' => e = .returned (.pointer none) ∧ w' = w := by
  go_enter Tryd.func31, Tryd.ntmps31
  go_wp2
  go_ret
  exact ⟨rfl, rfl⟩
end
end Go.Proofs.YtkabkehfckbhcaaDoor
