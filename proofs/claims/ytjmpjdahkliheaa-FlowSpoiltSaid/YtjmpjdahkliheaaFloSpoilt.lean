/-
  flow: the law FlowSpoilt.
-/
import Derived.Test.YtjmpjdahkliheaaFloEnds
namespace Go.Proofs.Ytjmpjdahkliheaa
set_option linter.unusedVariables false
set_option linter.unusedSimpArgs false
open Go.RowKit

/-- Calls, cell by cell. -/
def cvl (l : List CallD) : List Value := l.flatMap fun x => [.int .i64 x.kd, .int .u32 x.sn, .int .i64 x.at_, .slice x.A x.m.length x.c, .bool x.fin]
theorem cvl_append (l m : List CallD) : cvl (l ++ m) = cvl l ++ cvl m := by simp [cvl]
theorem cvl_length : ∀ l : List CallD, (cvl l).length = l.length * 5
  | [] => rfl
  | x :: t => by
    have := cvl_length t
    simp only [cvl, List.flatMap_cons, List.length_append, List.length_cons, List.length_nil] at *
    omega
theorem cvl_one (l : List CallD) : ∀ u ∈ cvl l, u.oneCell' = true := by
  intro u hu
  obtain ⟨x, _, hx⟩ := List.mem_flatMap.1 hu
  simp at hx
  rcases hx with rfl | rfl | rfl | rfl | rfl <;> rfl
theorem cvl_get : ∀ (l : List CallD) (i : Nat) (x : CallD), l[i]? = some x →
    (cvl l)[i * 5]? = some (.int .i64 x.kd) ∧ (cvl l)[i * 5 + 1]? = some (.int .u32 x.sn) ∧ (cvl l)[i * 5 + 2]? = some (.int .i64 x.at_) ∧ (cvl l)[i * 5 + 3]? = some (.slice x.A x.m.length x.c) ∧ (cvl l)[i * 5 + 4]? = some (.bool x.fin)
  | [], i, x, h => by simp at h
  | y :: t, 0, x, h => by
    simp at h
    subst h
    simp [cvl]
  | y :: t, i + 1, x, h => by
    have := cvl_get t i x (by simpa using h)
    have e : cvl (y :: t) = [.int .i64 y.kd, .int .u32 y.sn, .int .i64 y.at_, .slice y.A y.m.length y.c, .bool y.fin] ++ cvl t := by simp [cvl]
    rw [e]
    refine ⟨?_, ?_, ?_, ?_, ?_⟩ <;> rw [List.getElem?_append_right (by simp; omega)]
    · rw [← this.1]; congr 1; simp; omega
    · rw [← this.2.1]; congr 1; simp; omega
    · rw [← this.2.2.1]; congr 1; simp; omega
    · rw [← this.2.2.2.1]; congr 1; simp; omega
    · rw [← this.2.2.2.2]; congr 1; simp; omega

def kl (K : Nat → CallD) (len : Nat) : List CallD := (List.range len).map K
theorem kl_get (K : Nat → CallD) (len i : Nat) (h : i < len) : (kl K len)[i]? = some (K i) := by simp [kl, h]
theorem kl_len (K : Nat → CallD) (len : Nat) : (kl K len).length = len := by simp [kl]

theorem src_calls {w : World} {a : Option Addr} {len : Nat} {K : Nat → CallD} (h : IsCalls w a len K) : Src w 5 a len (cvl (kl K len)) := by
  refine ⟨by rw [cvl_length, kl_len], fun ha => ?_, fun ad had j u hu => ?_⟩
  · rcases h.at_ with h0 | ⟨b, off, rfl, _⟩
    · exact h0
    · cases ha
  · have hj : j < len * 5 := by
      have := (List.getElem?_eq_some_iff.1 hu).1
      rwa [cvl_length, kl_len] at this
    obtain ⟨b, off, rfl, _, hc⟩ := h.at_.resolve_left (by omega)
    cases had
    have hi : j / 5 < len := by omega
    obtain ⟨c0, c1, c2, c3, c4⟩ := hc (j / 5) hi
    obtain ⟨g0, g1, g2, g3, g4⟩ := cvl_get _ _ _ (kl_get K len (j / 5) hi)
    rw [Go.WideShapes.add_plain]
    rcases (by omega : j = j / 5 * 5 ∨ j = j / 5 * 5 + 1 ∨ j = j / 5 * 5 + 2 ∨ j = j / 5 * 5 + 3 ∨ j = j / 5 * 5 + 4) with e | e | e | e | e
    · rw [← e] at c0 g0; rw [g0] at hu; rw [← hu]; exact c0
    · rw [Nat.add_assoc, ← e] at c1; rw [← e] at g1; rw [g1] at hu; rw [← hu]; exact c1
    · rw [Nat.add_assoc, ← e] at c2; rw [← e] at g2; rw [g2] at hu; rw [← hu]; exact c2
    · rw [Nat.add_assoc, ← e] at c3; rw [← e] at g3; rw [g3] at hu; rw [← hu]; exact c3
    · rw [Nat.add_assoc, ← e] at c4; rw [← e] at g4; rw [g4] at hu; rw [← hu]; exact c4

theorem Try.infoC : (Try.prog.info? 46).map (fun i => (i.zero, i.size, i.bytes)) = some (some (.agg #[.int .i64 0, .int .u32 0, .int .i64 0, .slice none 0 0, .bool false]), 5, 56) := by kernel_rfl

/-- A row of calls of the call's own, read. -/
theorem calls_own {w : World} {base : Nat} {v : Value} {l : List CallD} (h : w.ownsRow base 46 5 v l.length (cvl l)) (K : Nat → CallD) (hK : ∀ i, i < l.length → l[i]? = some (K i))
    (hb : ∀ i, i < l.length → IsBytes w (K i).A (K i).m ∧ ((K i).A = none → (K i).c = 0) ∧ (K i).m.length ≤ 140737488355328 ∧ (∀ x, (K i).A = some x → (K i).m ≠ [] → x.block < w.heap.size)) :
    ∃ a cap, v = .slice a l.length cap ∧ IsCalls w a l.length K := by
  obtain ⟨h1, h2⟩ := h
  rcases h2 with ⟨rfl, h0⟩ | ⟨g, cap, cur, rfl, hg, hh, hn, hcap, hsz, htake⟩
  · exact ⟨none, 0, by rw [h0], hb, .inl h0⟩
  · refine ⟨some ⟨g, 0, none⟩, cap, rfl, hb, .inr ⟨g, 0, rfl, ?_, fun i hi => ?_⟩⟩
    · by_cases hb : g < w.heap.size
      · exact hb
      · rw [Array.getElem?_eq_none (by omega)] at hh; cases hh
    · have hc : ∀ j, j < l.length * 5 → w.cell? ⟨g, j, none⟩ = (cvl l)[j]? := by
        intro j hj
        have : w.cell? ⟨g, j, none⟩ = cur[j]? := by unfold World.cell?; rw [hh]; simp
        rw [this, ← htake, List.getElem?_take, if_pos hj]
        simp
      obtain ⟨p0, p1, p2, p3, p4⟩ := cvl_get l i _ (hK i hi)
      simp only [Nat.zero_add]
      exact ⟨by rw [hc _ (by omega), p0], by rw [hc _ (by omega), p1], by rw [hc _ (by omega), p2], by rw [hc _ (by omega), p3], by rw [hc _ (by omega), p4]⟩

theorem ask_nil (w : World) :
    Calls Try.prog 14 #[.pointer none] w fun e w' => e = .returned (.tuple #[.int .u32 0, .agg #[.int .i64 0, .int .i64 0, .bool false], .bool false]) ∧ Below w.heap.size w w' := by
  have HB1 := Lib.hid ((Below.refl w.heap.size w).alloc (Nat.le_refl _) (.cells #[.int .i64 0, .int .i64 0, .bool false] 28))
  go_enter Try.func14, Try.ntmps14
  go_wp2
  go_quiet (fail)
  go_wp2
  refine bodyPost_ret (v := .tuple #[.int .u32 0, .agg #[.int .i64 0, .int .i64 0, .bool false], .bool false]) (by simp [results, Try.results14, go_sem]) rfl ⟨rfl, ?_⟩
  exact (((((Below.refl _ _).alloc (Nat.le_refl _) _).drewN' _).setCell (Nat.le_refl _) _).setCell (Nat.le_refl _) _).setCell (Nat.le_refl _) _
theorem come_nil (w : World) :
    Calls Try.prog 16 #[.pointer none, .int .u32 0, .int .i64 0, .slice none 0 0, .bool true] w fun e w' => e = .returned (.bool false) ∧ w = w' := by
  go_enter Try.func16, Try.ntmps16
  go_wp2
  all_goals first | (go_ret; exact ⟨rfl, rfl⟩) | exact ⟨rfl, rfl⟩
end Go.Proofs.Ytjmpjdahkliheaa
