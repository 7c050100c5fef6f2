/-
  flow: what a flow is, in plain numbers; a flow in memory.
-/
import Derived.Test.YtjmpjdahkliheaaFloStands
import Derived.Test.YtjmpjdahkliheaaBlk
namespace Go.Proofs.Ytjmpjdahkliheaa
set_option linter.unusedVariables false
set_option linter.unusedSimpArgs false
open Go.RowKit

/-- A flow: its data; where the open sequence ends (-1: none is open); the next part's number; how often was asked; is it spoilt. -/
structure FS where
  data : List Nat
  fin : Int
  sn : Int
  turn : Int
  bad : Bool

/-- Is a part that came what is awaited? -/
def okC (s : FS) (sn at_ : Int) (len : Nat) (final : Bool) : Bool :=
  !s.bad && decide (0 ≤ s.fin) && decide (sn = s.sn) && decide (at_ = (s.data.length : Int)) && decide (((s.data.length + len : Nat) : Int) ≤ s.fin) && (decide (0 < len) || final) &&
    (decide (s.turn ≤ 0) || decide (final = decide (((s.data.length + len : Nat) : Int) = s.fin)))
def comeS (s : FS) (sn at_ : Int) (m : List Nat) (final : Bool) : FS :=
  bif okC s sn at_ m.length final then
    (bif final then { s with data := s.data ++ m, fin := -1, sn := 0 } else { s with data := s.data ++ m, sn := (s.sn + 1) % 4294967296 })
  else { s with bad := true }
/-- Is a sequence to be asked for? -/
def okA (s : FS) (burst need : Int) : Bool := !s.bad && decide (s.fin < 0) && decide ((s.data.length : Int) < need) && decide (1 ≤ burst)
def lenA (s : FS) (burst need : Int) : Int := min burst (need - s.data.length)
def askS (s : FS) (burst need : Int) : FS :=
  bif okA s burst need then { s with fin := s.data.length + lenA s burst need, sn := 0, turn := (s.turn + 1) % 4294967296 } else s
def doneB (s : FS) (need : Int) : Bool := !s.bad && decide (s.fin < 0) && decide ((s.data.length : Int) = need)

/-- What always holds of a flow's numbers. -/
structure Fine (need : Int) (s : FS) : Prop where
  n0 : 0 ≤ need
  n1 : need < 9223372036854775808
  len : (s.data.length : Int) ≤ need
  fin0 : -1 ≤ s.fin
  fin1 : s.fin ≤ need
  sn0 : 0 ≤ s.sn
  sn1 : s.sn < 4294967296
  turn0 : 0 ≤ s.turn
  turn1 : s.turn < 4294967296

theorem Fine.come {need : Int} {s : FS} (h : Fine need s) (sn at_ : Int) (m : List Nat) (final : Bool) : Fine need (comeS s sn at_ m final) := by
  obtain ⟨h1, h2, h3, h4, h5, h6, h7, h8, h9⟩ := h
  unfold comeS
  cases hk : okC s sn at_ m.length final with
  | false => exact ⟨h1, h2, h3, h4, h5, h6, h7, h8, h9⟩
  | true =>
    simp only [okC, Bool.and_eq_true, decide_eq_true_eq] at hk
    obtain ⟨⟨⟨⟨⟨⟨_, k2⟩, _⟩, _⟩, k5⟩, _⟩, _⟩ := hk
    cases final with
    | true => exact ⟨h1, h2, by simp; omega, by simp, by simp; omega, by simp, by simp, h8, h9⟩
    | false => exact ⟨h1, h2, by simp; omega, h4, h5, by simp; omega, by simp; omega, h8, h9⟩
theorem Fine.ask {need : Int} {s : FS} (h : Fine need s) (burst : Int) : Fine need (askS s burst need) := by
  obtain ⟨h1, h2, h3, h4, h5, h6, h7, h8, h9⟩ := h
  unfold askS
  cases hk : okA s burst need with
  | false => exact ⟨h1, h2, h3, h4, h5, h6, h7, h8, h9⟩
  | true =>
    simp only [okA, Bool.and_eq_true, decide_eq_true_eq] at hk
    obtain ⟨⟨⟨_, k2⟩, k3⟩, k4⟩ := hk
    exact ⟨h1, h2, h3, by simp [lenA]; omega, by simp [lenA]; omega, by simp, by simp, by simp; omega, by simp; omega⟩

/-- The program's flow, at block fb, its data in the value v. -/
structure IsFlow (w : World) (base fb : Nat) (v : Value) (burst need : Int) (s : FS) : Prop where
  blk : ∃ d0 d1 d2 d3 d5 d6 d7 ak, IsBlk w fb #[d0, d1, d2, d3, .int .i64 burst, d5, d6, d7, .int .i64 need, v, .int .i64 ak, .bool (decide (0 ≤ s.fin)), .int .u32 s.sn, .int .u32 s.turn, .bool s.bad] 58 ∧ (0 ≤ s.fin → ak = s.fin)
  own : Own w base v s.data
  ne : v.ownBlock ≠ some fb
  hfb : base ≤ fb
  fine : Fine need s
/-- The reference's flow. -/
structure IsFlowR (w : World) (base fb : Nat) (v : Value) (burst need : Int) (s : FS) : Prop where
  blk : ∃ d0 d1 d2 d3 d5 d6 d7, IsBlk w fb #[d0, d1, d2, d3, .int .i64 burst, d5, d6, d7, .int .i64 need, v, .int .i64 s.fin, .int .u32 s.sn, .int .u32 s.turn, .bool s.bad] 54
  own : Own w base v s.data
  ne : v.ownBlock ≠ some fb
  hfb : base ≤ fb
  fine : Fine need s

/-- The blocks that a call of a flow may turn. -/
def FlowS (fb : Nat) (v : Value) : Nat → Prop := fun k => k = fb ∨ v.ownBlock = some k

theorem IsFlow.but {w w' : World} {base fb : Nat} {v : Value} {burst need : Int} {s : FS} {S : Nat → Prop} (h : IsFlow w base fb v burst need s) (hb : But S w w') (h1 : ¬ S fb) (h2 : ∀ k, v.ownBlock = some k → ¬ S k) : IsFlow w' base fb v burst need s := by
  obtain ⟨⟨d0, d1, d2, d3, d5, d6, d7, ak, hk, ha⟩, ho, hn, hf, hs⟩ := h
  exact ⟨⟨d0, d1, d2, d3, d5, d6, d7, ak, hb.blk hk h1, ha⟩, hb.own ho h2, hn, hf, hs⟩
theorem IsFlowR.but {w w' : World} {base fb : Nat} {v : Value} {burst need : Int} {s : FS} {S : Nat → Prop} (h : IsFlowR w base fb v burst need s) (hb : But S w w') (h1 : ¬ S fb) (h2 : ∀ k, v.ownBlock = some k → ¬ S k) : IsFlowR w' base fb v burst need s := by
  obtain ⟨⟨d0, d1, d2, d3, d5, d6, d7, hk⟩, ho, hn, hf, hs⟩ := h
  exact ⟨⟨d0, d1, d2, d3, d5, d6, d7, hb.blk hk h1⟩, hb.own ho h2, hn, hf, hs⟩
theorem IsFlow.lt {w : World} {base fb : Nat} {v : Value} {burst need : Int} {s : FS} (h : IsFlow w base fb v burst need s) : fb < w.heap.size := by
  obtain ⟨⟨d0, d1, d2, d3, d5, d6, d7, ak, hk, ha⟩, _⟩ := h
  exact hk.lt
theorem IsFlowR.lt {w : World} {base fb : Nat} {v : Value} {burst need : Int} {s : FS} (h : IsFlowR w base fb v burst need s) : fb < w.heap.size := by
  obtain ⟨⟨d0, d1, d2, d3, d5, d6, d7, hk⟩, _⟩ := h
  exact hk.lt
theorem okC_iff (D : List Nat) (fin sn' turn sn at_ : Int) (n : Nat) (final : Bool) : okC ⟨D, fin, sn', turn, false⟩ sn at_ n final = true ↔
    0 ≤ fin ∧ sn = sn' ∧ at_ = (D.length : Int) ∧ (D.length : Int) + n ≤ fin ∧ (n ≠ 0 ∨ final = true) ∧ (turn ≤ 0 ∨ (final = true ∧ (D.length : Int) + n = fin) ∨ (final = false ∧ ¬ (D.length : Int) + n = fin)) := by
  have e : (0 < n) ↔ n ≠ 0 := by omega
  cases final <;> simp [okC, and_assoc, e]
theorem okC_not {D : List Nat} {fin sn' turn sn at_ : Int} {n : Nat} {final : Bool} (h : ¬ (0 ≤ fin ∧ sn = sn' ∧ at_ = (D.length : Int) ∧ (D.length : Int) + n ≤ fin ∧ (n ≠ 0 ∨ final = true) ∧ (turn ≤ 0 ∨ (final = true ∧ (D.length : Int) + n = fin) ∨ (final = false ∧ ¬ (D.length : Int) + n = fin)))) : okC ⟨D, fin, sn', turn, false⟩ sn at_ n final = false :=
  Bool.eq_false_iff.2 fun hh => h ((okC_iff ..).1 hh)

end Go.Proofs.Ytjmpjdahkliheaa
