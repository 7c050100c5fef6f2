/-
  flow: one flow, seen from a world behind it.
-/
import Derived.Test.YtjmpjdahkliheaaFloRuns
namespace Go.Proofs.Ytjmpjdahkliheaa
set_option linter.unusedVariables false
set_option linter.unusedSimpArgs false
open Go.RowKit

/-- Since wS only the flow's own blocks turned. -/
structure Since (wS : World) (vS : Value) (fb : Nat) (w : World) (v : Value) : Prop where
  but : But (FlowS fb vS) wS w
  own : v.ownBlock = vS.ownBlock ∨ ∀ k, v.ownBlock = some k → wS.heap.size ≤ k

section
variable {wS w w' : World} {vS v v' : Value} {fb : Nat}
theorem Since.refl (w : World) (v : Value) (fb : Nat) : Since w v fb w v := ⟨But.refl _ _, .inl rfl⟩
theorem Since.step (h : Since wS vS fb w v) (hb : But (FlowS fb v) w w') (hm : Moved w v v') : Since wS vS fb w' v' := by
  refine ⟨⟨hb.os.trans h.but.os, hb.tape.trans h.but.tape, hb.output.trans h.but.output, Nat.le_trans h.but.size hb.size, fun k hk hn => ?_⟩, ?_⟩
  · refine (hb.block k (Nat.lt_of_lt_of_le hk h.but.size) ?_).trans (h.but.block k hk hn)
    rintro (e | e)
    · exact hn (.inl e)
    · rcases h.own with ho | ho
      · exact hn (.inr (by rw [← ho, e]))
      · have := ho k e; omega
  · rcases hm with e | e
    · rw [e]; exact h.own
    · right
      intro k hk
      rw [e] at hk
      cases hk
      exact h.but.size
theorem Since.stay (h : Since wS vS fb w v) (hb : But (FlowS fb v) w w') : Since wS vS fb w' v := h.step hb (.inl rfl)
theorem Since.below (h : Since wS vS fb w v) (hb : Below w.heap.size w w') : Since wS vS fb w' v := h.stay (But.of_below hb (Nat.le_refl _))
theorem Since.drewN (h : Since wS vS fb w v) (n : Nat) : Since wS vS fb (w.drewN n) v := h.stay ((But.refl _ _).drewN n)
theorem Since.cell (h : Since wS vS fb w v) {p : Addr} (hp : p.block < wS.heap.size) (h1 : p.block ≠ fb) (h2 : vS.ownBlock ≠ some p.block) : w.cell? p = wS.cell? p :=
  h.but.cell hp (fun e => e.elim h1 h2)
theorem Since.toBelow {B : Nat} (h : Since wS vS fb w v) (hB : B ≤ wS.heap.size) (h1 : B ≤ fb) (h2 : ∀ k, vS.ownBlock = some k → B ≤ k) : Below B wS w :=
  h.but.below hB (fun k e => e.elim (fun e => e ▸ h1) (h2 k))
end

section
variable {w w' : World} {base fb : Nat} {v : Value} {burst need : Int} {s : FS}
theorem IsFlow.below (h : IsFlow w base fb v burst need s) (hb : Below w.heap.size w w') : IsFlow w' base fb v burst need s :=
  h.but (S := fun _ => False) (But.of_below hb (Nat.le_refl _)) (fun h => h) (fun _ _ h => h)
theorem IsFlow.drewN (h : IsFlow w base fb v burst need s) (n : Nat) : IsFlow (w.drewN n) base fb v burst need s :=
  h.but ((But.refl (fun _ => False) w).drewN n) (fun h => h) (fun _ _ h => h)

/-- The calls, told so. -/
theorem come_one (h : IsFlow w base fb v burst need s) {wS : World} {vS : Value} (hS : Since wS vS fb w v) (sn at_ : Int) (A : Option Addr) (m : List Nat) (n c : Nat) (final : Bool) (s' : FS) (ok : Bool) (hn : n = m.length) (hm : IsBytes w A m) (hc0 : A = none → c = 0) (hl1 : s.data.length ≤ 100000) (hl2 : m.length ≤ 100000)
    (hs : comeS s sn at_ m final = s') (hok : okC s sn at_ m.length final = ok) :
    Calls Try.prog 16 #[.pointer (some ⟨fb, 0, none⟩), .int .u32 sn, .int .i64 at_, .slice A n c, .bool final] w fun e w' => ∃ v', e = .returned (.bool ok) ∧ IsFlow w' base fb v' burst need s' ∧ Since wS vS fb w' v' := by
  subst hn hs hok
  refine (come_any h sn at_ A m c final hm hc0 hl1 hl2).mono ?_
  rintro e w' ⟨v', rfl, hf, hb, hv⟩
  exact ⟨v', rfl, hf, hS.step hb hv⟩
theorem ask_one (h : IsFlow w base fb v burst need s) {wS : World} {vS : Value} (hS : Since wS vS fb w v) (s' : FS) (sn at_ n : Int) (ok : Bool) (hs : askS s burst need = s') (hv : askV s burst need = .tuple #[.int .u32 sn, .agg #[.int .i64 at_, .int .i64 n, .bool false], .bool ok]) :
    Calls Try.prog 14 #[.pointer (some ⟨fb, 0, none⟩)] w fun e w' => e = .returned (.tuple #[.int .u32 sn, .agg #[.int .i64 at_, .int .i64 n, .bool false], .bool ok]) ∧ IsFlow w' base fb v burst need s' ∧ Since wS vS fb w' v := by
  subst hs
  rw [← hv]
  refine (ask_any h).mono ?_
  rintro e w' ⟨rfl, hf, hb⟩
  exact ⟨rfl, hf, hS.stay (hb.mono fun k hk => .inl hk)⟩
theorem done_one (h : IsFlow w base fb v burst need s) {wS : World} {vS : Value} (hS : Since wS vS fb w v) (b : Bool) (hd : doneB s need = b) :
    Calls Try.prog 18 #[.pointer (some ⟨fb, 0, none⟩)] w fun e w' => e = .returned (.bool b) ∧ IsFlow w' base fb v burst need s ∧ Since wS vS fb w' v := by
  subst hd
  refine (done_any h).mono ?_
  rintro e w' ⟨rfl, n, rfl⟩
  exact ⟨rfl, h.drewN n, hS.drewN n⟩
theorem data_one (h : IsFlow w base fb v burst need s) {wS : World} {vS : Value} (hS : Since wS vS fb w v) (hl : s.data.length ≤ 100000) :
    Calls Try.prog 20 #[.pointer (some ⟨fb, 0, none⟩)] w fun e w' => ∃ a n c, e = .returned (.slice a n c) ∧ Hid (n = s.data.length) ∧ (convert 33 9 (.slice a n c)).run Try.prog w' = .ok (.string (strB s.data)) w' ∧ IsFlow w' base fb v burst need s ∧ Since wS vS fb w' v := by
  refine (data_any h hl).mono ?_
  rintro e w' ⟨u, rfl, ho, hb⟩
  obtain ⟨a, c, rfl, hb2, _⟩ := ho.form
  exact ⟨a, _, c, rfl, Lib.hid rfl, conv_bytes hb2 rfl, h.below hb, hS.below hb⟩
end

/-- Parts, one behind the other: just the last one is final. -/
def TilesF (n : Nat) : Nat → List (Nat × Nat × Bool) → Prop
  | p, [] => p = n
  | p, (x, k, f) :: t => x = p ∧ 1 ≤ k ∧ p + k ≤ n ∧ f = decide (p + k = n) ∧ TilesF n (p + k) t
theorem tilesF_parts (n seg : Nat) (hs : 0 < seg) (hn : 0 < n) : ∀ (d p : Nat), n - p = d → p ≤ n → ∀ left, (p < n → left = n - p) → TilesF n p (parts n seg n p left) := by
  intro d
  induction d using Nat.strongRecOn with
  | _ d ih =>
    intro p hd hp left hl
    by_cases h : p < n
    · have hl := hl h
      rw [parts_step n seg n p left h hs (by omega) hn _ rfl _ rfl _ rfl]
      refine ⟨rfl, by omega, by omega, ?_, ih (n - (p + min seg (min left (n - p)))) (by omega) _ rfl (by omega) _ (fun hlt => by rw [if_neg (by omega)]; omega)⟩
      rw [Bool.eq_iff_iff]; simp; omega
    · rw [parts_end n seg n p left (by omega)]
      show p = n
      omega
theorem tilesF_at {n : Nat} {l : List (Nat × Nat × Bool)} (i : Nat) (x : Nat × Nat × Bool) (hi : l[i]? = some x) (q : Nat) (h : TilesF n q (l.drop i)) : x.1 = q ∧ q + x.2.1 ≤ n ∧ 1 ≤ x.2.1 ∧ x.2.2 = decide (q + x.2.1 = n) ∧ TilesF n (q + x.2.1) (l.drop (i + 1)) := by
  have hlt := (List.getElem?_eq_some_iff.1 hi).1
  have hx := (List.getElem?_eq_some_iff.1 hi).2
  rw [List.drop_eq_getElem_cons hlt, hx] at h
  obtain ⟨y, k, f⟩ := x
  obtain ⟨h1, h2, h3, h4, h5⟩ := h
  subst h1
  exact ⟨rfl, h3, h2, h4, h5⟩
theorem tilesF_len {n : Nat} : ∀ {l : List (Nat × Nat × Bool)} {p : Nat}, TilesF n p l → p + l.length ≤ n
  | [], p, h => by have : p = n := h; simp; omega
  | (x, k, f) :: t, p, h => by
    obtain ⟨h1, h2, h3, h4, h5⟩ := h
    have := tilesF_len h5
    simp; omega
theorem tilesF_end {n : Nat} {l : List (Nat × Nat × Bool)} {q : Nat} (h : TilesF n q (l.drop l.length)) : q = n := by
  rw [List.drop_length] at h; exact h

/-- The state in the midst of a sequence: p bytes ahead of it, n in it, q of them there, j parts. -/
def midS (d : List Nat) (p n q j : Nat) (turn : Int) : FS := ⟨d.take (p + q), if q = n then -1 else ((p + n : Nat) : Int), if q = n then 0 else (j : Int), turn, false⟩
theorem take_slice (d : List Nat) (p k : Nat) (h : p + k ≤ d.length) : d.take p ++ (d.drop p).take k = d.take (p + k) := by
  rw [List.take_add]
theorem mid_come (d : List Nat) (p n q j k : Nat) (turn : Int) (f : Bool) (hd : p + n ≤ d.length) (hq : q < n) (hk : q + k ≤ n) (hk1 : 1 ≤ k) (hf : f = decide (q + k = n)) (hj : j < 100000) :
    okC (midS d p n q j turn) (j : Int) ((p : Int) + (q : Int)) ((d.drop (p + q)).take k).length f = true ∧ comeS (midS d p n q j turn) (j : Int) ((p : Int) + (q : Int)) ((d.drop (p + q)).take k) f = midS d p n (q + k) (j + 1) turn := by
  have hl : (d.take (p + q)).length = p + q := by simp; omega
  have hlk : ((d.drop (p + q)).take k).length = k := by simp; omega
  have hm : midS d p n q j turn = ⟨d.take (p + q), ((p + n : Nat) : Int), (j : Int), turn, false⟩ := by unfold midS; rw [if_neg (by omega), if_neg (by omega)]
  have hok : okC (midS d p n q j turn) (j : Int) ((p : Int) + (q : Int)) ((d.drop (p + q)).take k).length f = true := by
    rw [hm, okC_iff, hlk, hl]
    refine ⟨by omega, rfl, by omega, by omega, by omega, ?_⟩
    by_cases he : q + k = n
    · simp only [he, decide_true] at hf; subst hf
      exact .inr (.inl ⟨rfl, by omega⟩)
    · simp only [he, decide_false] at hf; subst hf
      exact .inr (.inr ⟨rfl, by omega⟩)
  refine ⟨hok, ?_⟩
  unfold comeS
  rw [hok, hm]
  have ht : d.take (p + q) ++ (d.drop (p + q)).take k = d.take (p + (q + k)) := by rw [take_slice _ _ _ (by omega), Nat.add_assoc]
  by_cases he : q + k = n
  · simp only [he, decide_true] at hf; subst hf
    simp only [cond_true, midS, he, if_true]
    rw [ht, he]
  · simp only [he, decide_false] at hf; subst hf
    simp only [cond_true, cond_false, midS, he, if_false]
    rw [ht]
    congr 1
    omega
theorem mid_start (d : List Nat) (p n : Nat) (turn burst : Int) (hb : 1 ≤ burst) (hp : p < d.length) (hn : (n : Int) = min burst ((d.length : Int) - p)) (s : FS) (hs : s = ⟨d.take p, -1, 0, turn, false⟩) :
    askS s burst d.length = midS d p n 0 0 ((turn + 1) % 4294967296) ∧ askV s burst d.length = .tuple #[.int .u32 turn, .agg #[.int .i64 p, .int .i64 n, .bool false], .bool true] := by
  have hl : (d.take p).length = p := by simp; omega
  subst hs
  have hok : okA ⟨d.take p, -1, 0, turn, false⟩ burst d.length = true := by simp [okA]; omega
  have hla : lenA ⟨d.take p, -1, 0, turn, false⟩ burst d.length = n := by simp only [lenA, hl]; omega
  have hn0 : (0 : Nat) ≠ n := by omega
  constructor
  · unfold askS
    rw [hok, hla]
    simp only [cond_true, midS, hl, hn0, if_false, Nat.add_zero]
    congr 1
  · unfold askV
    rw [hok, hla]
    simp [hl]
theorem mid_end (d : List Nat) (p n j : Nat) (turn : Int) : midS d p n n j turn = ⟨d.take (p + n), -1, 0, turn, false⟩ := by simp [midS]
theorem since_below {w w1 w2 : World} {fb : Nat} {v v' : Value} {burst need : Int} {s : FS} (hB : Below w.heap.size w w1) (hf : IsFlow w1 w.heap.size fb v burst need s) (hS : Since w1 v fb w2 v') : Below w.heap.size w w2 :=
  hB.trans (hS.toBelow hB.size hf.hfb hf.own.base_le)
theorem IsFlow.drew {w : World} {base fb : Nat} {v : Value} {burst need : Int} {s : FS} (h : IsFlow w base fb v burst need s) : IsFlow w.drew base fb v burst need s := h.drewN 1
theorem Since.drew {wS w : World} {vS v : Value} {fb : Nat} (h : Since wS vS fb w v) : Since wS vS fb w.drew v := h.drewN 1

theorem Since.trans {wS w w' : World} {vS v v' : Value} {fb : Nat} (h : Since wS vS fb w v) (k : Since w v fb w' v') : Since wS vS fb w' v' := by
  refine ⟨⟨k.but.os.trans h.but.os, k.but.tape.trans h.but.tape, k.but.output.trans h.but.output, Nat.le_trans h.but.size k.but.size, fun j hj hn => ?_⟩, ?_⟩
  · refine (k.but.block j (Nat.lt_of_lt_of_le hj h.but.size) ?_).trans (h.but.block j hj hn)
    rintro (e | e)
    · exact hn (.inl e)
    · rcases h.own with ho | ho
      · exact hn (.inr (by rw [← ho, e]))
      · have := ho j e; omega
  · rcases k.own with e | e
    · rw [e]; exact h.own
    · exact .inr fun j hj => Nat.le_trans h.but.size (e j hj)

end Go.Proofs.Ytjmpjdahkliheaa
