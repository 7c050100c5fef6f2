/-
  flow: the calls of a law; light.
-/
import Derived.Test.YtjmpjdahkliheaaFloState
namespace Go.Proofs.Ytjmpjdahkliheaa
set_option linter.unusedVariables false
set_option linter.unusedSimpArgs false
open Go.RowKit

/-- One call of a flow. -/
structure CallD where
  kd : Int
  sn : Int
  at_ : Int
  A : Option Addr
  m : List Nat
  c : Nat
  fin : Bool

def pre (K : Nat → CallD) : Nat → Nat
  | 0 => 0
  | k + 1 => pre K k + (1 + (K k).m.length)
theorem pre_mono (K : Nat → CallD) {i j : Nat} (h : i ≤ j) : pre K i ≤ pre K j := by
  induction j with
  | zero => obtain rfl : i = 0 := by omega
            exact Nat.le_refl _
  | succ j ih =>
    by_cases hi : i = j + 1
    · subst hi; exact Nat.le_refl _
    · have := ih (by omega); simp only [pre]; omega
theorem pre_ge (K : Nat → CallD) : ∀ k, k ≤ pre K k
  | 0 => Nat.le_refl _
  | k + 1 => by have := pre_ge K k; simp only [pre]; omega

/-- A slice of calls that came in. -/
structure IsCalls (w : World) (a : Option Addr) (len : Nat) (K : Nat → CallD) : Prop where
  byt : ∀ i, i < len → IsBytes w (K i).A (K i).m ∧ ((K i).A = none → (K i).c = 0) ∧ (K i).m.length ≤ 140737488355328 ∧ (∀ x, (K i).A = some x → (K i).m ≠ [] → x.block < w.heap.size)
  at_ : len = 0 ∨ ∃ b off, a = some ⟨b, off, none⟩ ∧ b < w.heap.size ∧ ∀ i, i < len → w.cell? ⟨b, off + i * 5, none⟩ = some (.int .i64 (K i).kd) ∧ w.cell? ⟨b, off + i * 5 + 1, none⟩ = some (.int .u32 (K i).sn) ∧
    w.cell? ⟨b, off + i * 5 + 2, none⟩ = some (.int .i64 (K i).at_) ∧ w.cell? ⟨b, off + i * 5 + 3, none⟩ = some (.slice (K i).A (K i).m.length (K i).c) ∧ w.cell? ⟨b, off + i * 5 + 4, none⟩ = some (.bool (K i).fin)
theorem IsCalls.below {w w' : World} {a : Option Addr} {len : Nat} {K : Nat → CallD} (h : IsCalls w a len K) (hb : Below w.heap.size w w') : IsCalls w' a len K := by
  refine ⟨fun i hi => ?_, h.at_.imp id ?_⟩
  · obtain ⟨h1, h2, h3, h4⟩ := h.byt i hi
    exact ⟨h1.of_below hb, h2, h3, fun x hx hn => Nat.lt_of_lt_of_le (h4 x hx hn) hb.size⟩
  · rintro ⟨b, off, rfl, hbl, hc⟩
    refine ⟨b, off, rfl, Nat.lt_of_lt_of_le hbl hb.size, fun i hi => ?_⟩
    obtain ⟨h1, h2, h3, h4, h5⟩ := hc i hi
    exact ⟨(hb.cell (p := ⟨b, _, none⟩) hbl).trans h1, (hb.cell (p := ⟨b, _, none⟩) hbl).trans h2, (hb.cell (p := ⟨b, _, none⟩) hbl).trans h3, (hb.cell (p := ⟨b, _, none⟩) hbl).trans h4, (hb.cell (p := ⟨b, _, none⟩) hbl).trans h5⟩

set_option maxHeartbeats 2000000 in
theorem light_any (d0 d3 burst first need : Int) (d1 d2 ready tog fin : Bool) (zA : Option Addr) (zn zc : Nat) (a : Option Addr) (len cap : Nat) (K : Nat → CallD) (w : World) (hz : zn ≤ 140737488355328) (hK : IsCalls w a len K) (hlen : len ≤ 140737488355328) :
    Calls Try.prog 11 #[.agg #[.int .i64 d0, .bool d1, .bool d2, .int .i64 d3, .int .i64 burst, .int .i64 first, .bool ready, .bool tog, .int .i64 need, .slice zA zn zc, .bool fin], .slice a len cap] w fun e w' => e = .returned (.bool (decide (zn + pre K len ≤ 20000))) ∧ Below w.heap.size w w' := by
  go_enter Try.func11, Try.ntmps11
  go_wp2
  go_loopw [5, 13] (fun nv i wr => ∃ k N : Nat, k ≤ len ∧ i = .int .i64 k ∧ nv = .int .i64 N ∧ N = zn + pre K k ∧ (k = 0 ∨ N ≤ 20000) ∧ Below w.heap.size w wr) (fun _ i _ => len - (intOf i).toNat)
  case atStart => exact ⟨0, zn, by omega, rfl, rfl, rfl, .inl rfl, (Below.refl _ _).alloc (Nat.le_refl _) _⟩
  case round =>
    obtain ⟨k, N, hk, rfl, rfl, hN, hN2, hbel⟩ := hrel
    have HN := Lib.hid hN
    have hN3 : N ≤ 140737488355328 := by rcases hN2 with h | h <;> first | omega | (subst h; simp [pre] at hN; omega)
    clear hN hN2
    by_cases hlt : k < len
    · obtain ⟨b, off, rfl, hbl, hcs⟩ := hK.at_.resolve_left (by omega)
      obtain ⟨q1, q2, q3, q4, q5⟩ := hcs k hlt
      have q1' := (hbel.cell (p := ⟨b, off + k * 5, none⟩) hbl).trans q1
      have q2' := (hbel.cell (p := ⟨b, off + k * 5 + 1, none⟩) hbl).trans q2
      have q3' := (hbel.cell (p := ⟨b, off + k * 5 + 2, none⟩) hbl).trans q3
      have q4' := (hbel.cell (p := ⟨b, off + k * 5 + 3, none⟩) hbl).trans q4
      have q5' := (hbel.cell (p := ⟨b, off + k * 5 + 4, none⟩) hbl).trans q5
      have hml := (hK.byt k hlt).2.2.1
      have hal : Below w.heap.size w (wr.alloc (.cells #[.int .i64 (K k).kd, .int .u32 (K k).sn, .int .i64 (K k).at_, .slice (K k).A (K k).m.length (K k).c, .bool (K k).fin] 46)) := hbel.alloc hbel.size _
      have HAL := Lib.hid hal
      have HKK := Lib.hid hK
      have hp : pre K (k + 1) = pre K k + (1 + (K k).m.length) := rfl
      have hp2 := pre_mono K (show k + 1 ≤ len by omega)
      have HP := Lib.hid (And.intro hp hp2)
      clear q1 q2 q3 q4 q5 hcs hbel hal hK hp hp2
      generalize (K k).m.length = ml at *
      go_wp2
      · go_ret
        have hp := HP.out
        have hN := HN.out
        refine ⟨?_, HAL.out⟩
        have h20 : ¬ (zn + pre K len ≤ 20000) := by omega
        rw [decide_eq_false h20]
        rfl
      · go_roundw
        case rel => exact ⟨k + 1, N + (1 + ml), by omega, by go_num, by go_num, by rw [HP.out.1, HN.out]; omega, .inr (by omega), HAL.out⟩
        case measure => simp [intOf]; omega
    · obtain rfl : k = len := by omega
      go_wp2
      go_ret
      refine ⟨?_, hbel⟩
      have hN := HN.out
      rw [← hN]
      exact congrArg (fun z => Ending.returned (.bool z)) (by rw [Bool.eq_iff_iff]; simp; omega)
end Go.Proofs.Ytjmpjdahkliheaa
