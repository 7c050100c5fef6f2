/-
  ring: errors, and the calls that are refused.
-/
import Derived.Test.YtkabkehfckbhcaaDoorMgG
namespace Go.Proofs.YtkabkehfckbhcaaDoor
set_option linter.unusedVariables false
set_option linter.unusedSimpArgs false
open Go.RowKit

/-- An answer's number: nil for 0, else an error of that number, wherever it was met. -/
def IsNum (w : World) (v : Value) (n : Nat) : Prop := if n = 0 then v = .nilIface else ∃ b l, v = .iface 115 (.pointer (some ⟨b, 0, none⟩)) ∧ IsErr w v l (n : Int)
theorem IsNum.below {w w' : World} {v : Value} {n : Nat} (h : IsNum w v n) (hb : Below w.heap.size w w') : IsNum w' v n := by
  unfold IsNum at *
  by_cases hn : n = 0
  · rw [if_pos hn] at *; exact h
  · rw [if_neg hn] at *
    obtain ⟨b, l, h1, h2⟩ := h
    exact ⟨b, l, h1, h2.below hb⟩
theorem isNum_nil (w : World) : IsNum w .nilIface 0 := rfl
theorem isNum_zero {w : World} {v : Value} (h : IsNum w v 0) : v = .nilIface := h
theorem in_ring (n : Nat) (hn : n ≠ 0) (W : World) : Calls Tryd.prog 32 #[.string ⟨#[114, 105, 110, 103]⟩, .iface 83 (.int .i64 (n : Int))] W fun e w' => ∃ v, e = .returned v ∧ (∃ b, v = .iface 115 (.pointer (some ⟨b, 0, none⟩)) ∧ W.heap.size ≤ b) ∧ IsNum w' v n ∧ Below W.heap.size W w' := by
  refine (in_some ⟨#[114, 105, 110, 103]⟩ 83 (.int .i64 (n : Int)) W).mono ?_
  rintro e w' ⟨rfl, rfl⟩
  refine ⟨_, rfl, ⟨_, rfl, Nat.le_refl _⟩, ?_, (Below.refl _ _).alloc (Nat.le_refl _) _⟩
  unfold IsNum
  rw [if_neg hn]
  exact ⟨_, _, rfl, IsErr.push (l := []) (n := (n : Int)) rfl _⟩
theorem in_ring1 (W : World) : Calls Tryd.prog 32 #[.string ⟨#[114, 105, 110, 103]⟩, .iface 83 (.int .i64 1)] W fun e w' => ∃ v, e = .returned v ∧ (∃ b, v = .iface 115 (.pointer (some ⟨b, 0, none⟩)) ∧ W.heap.size ≤ b) ∧ IsNum w' v 1 ∧ Below W.heap.size W w' := in_ring 1 (by decide) W
theorem in_ring10 (W : World) : Calls Tryd.prog 32 #[.string ⟨#[114, 105, 110, 103]⟩, .iface 83 (.int .i64 10)] W fun e w' => ∃ v, e = .returned v ∧ (∃ b, v = .iface 115 (.pointer (some ⟨b, 0, none⟩)) ∧ W.heap.size ≤ b) ∧ IsNum w' v 10 ∧ Below W.heap.size W w' := in_ring 10 (by decide) W
theorem in_ring11 (W : World) : Calls Tryd.prog 32 #[.string ⟨#[114, 105, 110, 103]⟩, .iface 83 (.int .i64 11)] W fun e w' => ∃ v, e = .returned v ∧ (∃ b, v = .iface 115 (.pointer (some ⟨b, 0, none⟩)) ∧ W.heap.size ≤ b) ∧ IsNum w' v 11 ∧ Below W.heap.size W w' := in_ring 11 (by decide) W
theorem in_ring20 (W : World) : Calls Tryd.prog 32 #[.string ⟨#[114, 105, 110, 103]⟩, .iface 83 (.int .i64 20)] W fun e w' => ∃ v, e = .returned v ∧ (∃ b, v = .iface 115 (.pointer (some ⟨b, 0, none⟩)) ∧ W.heap.size ≤ b) ∧ IsNum w' v 20 ∧ Below W.heap.size W w' := in_ring 20 (by decide) W
set_option maxHeartbeats 1000000 in
theorem num_is (v : Value) (n : Nat) (W : World) (hg : HasET W) (h : IsNum W v n) : Calls Tryd.prog 20 #[v] W fun ev w' => ev = .returned (.int .i64 (n : Int)) ∧ Below W.heap.size W w' := by
  unfold IsNum at h
  by_cases hn : n = 0
  · rw [if_pos hn] at h
    subst h hn
    go_enter Tryd.func20, Tryd.ntmps20
    go_wp2
    go_ret
    exact ⟨rfl, Below.refl _ _⟩
  · rw [if_neg hn] at h
    obtain ⟨b, l, rfl, h⟩ := h
    have hb : Below W.heap.size W (W.alloc (.cells #[.int .i64 0] 83)) := (Below.refl _ _).alloc (Nat.le_refl _) _
    have hc := as_num' _ _ (n : Int) ⟨W.heap.size, 0, none⟩ (.int .i64 0) (W.alloc (.cells #[.int .i64 0] 83)) (hg.below hb) (by simp) (by simp) (h.below hb)
    go_enter Tryd.func20, Tryd.ntmps20
    go_wp2_with (go_at_call 42; (with_reducible refine hc.mono ?_); rintro e w' ⟨rfl, hs⟩; have hs1 := hs.got; have hs2 : Hid (Below W.heap.size W w') := hb.trans hs.rest; clear hs)
    go_ret
    exact ⟨rfl, hs2.out⟩

section
variable {w : World} {rg db : Nat} {s : RS} {size : Nat}
set_option maxRecDepth 100000 in
set_option maxHeartbeats 2000000 in
theorem add_large (w : World) (rg : Nat) (ca : Option Addr) (k cc : Nat) (hk : k < 1 ∨ 60 < k) (hk2 : k ≤ 1000000) : Calls Tryd.prog 24 #[.pointer (some ⟨rg, 0, none⟩), .slice ca k cc] w fun e w' => ∃ v, e = .returned v ∧ IsNum w' v 11 ∧ Below w.heap.size w w' := by
  by_cases h1 : k < 1
  · have i1 : (k : Int) < 1 := by omega
    go_enter Tryd.func24, Tryd.ntmps24
    go_wp2_with (go_at_call 32; (with_reducible refine (in_ring11 _).mono ?_); rintro e w2 ⟨v, rfl, ⟨b, rfl, _⟩, hr, hb2⟩; have HR := Lib.hid (And.intro hr hb2); clear hr hb2)
    go_ret
    exact ⟨_, rfl, HR.out⟩
  · have i1 : ¬ (k : Int) < 1 := by omega
    have i2 : (60 : Int) < (k : Int) := by omega
    go_enter Tryd.func24, Tryd.ntmps24
    go_wp2_with (go_at_call 32; (with_reducible refine (in_ring11 _).mono ?_); rintro e w2 ⟨v, rfl, ⟨b, rfl, _⟩, hr, hb2⟩; have HR := Lib.hid (And.intro hr hb2); clear hr hb2)
    go_ret
    exact ⟨_, rfl, HR.out⟩
set_option maxRecDepth 100000 in
set_option maxHeartbeats 2000000 in
theorem add_full (h : IsRg 100 w rg db s) (hs : RSok s size) (ca : Option Addr) (k cc : Nat) (h1 : 1 ≤ k) (h2 : k ≤ 60) (hf : s.n - s.used < takes k) : Calls Tryd.prog 24 #[.pointer (some ⟨rg, 0, none⟩), .slice ca k cc] w fun e w' => ∃ v, e = .returned v ∧ IsNum w' v 20 ∧ Below w.heap.size w w' := by
  have hfit := fits_any h hs k (by omega)
  have hfe : s.fits k = false := by
    unfold RS.fits
    have : ¬ takes k ≤ s.n - s.used := by omega
    simp [this]
  rw [hfe] at hfit
  have i1 : ¬ (k : Int) < 1 := by omega
  have i2 : ¬ (60 : Int) < (k : Int) := by omega
  clear h hs hfe hf
  go_enter Tryd.func24, Tryd.ntmps24
  go_wp2_with (first
    | (go_at_call 22; (with_reducible refine hfit.mono ?_); rintro e w1 ⟨rfl, m, hw1⟩; have HB1 := Lib.hid (show Below w.heap.size w w1 from hw1 ▸ drawn_below (Below.refl _ _) m); clear hw1)
    | (go_at_call 32; (with_reducible refine (in_ring20 _).mono ?_); rintro e w2 ⟨v, rfl, ⟨b, rfl, _⟩, hr, hb2⟩; have HR := Lib.hid (And.intro hr hb2); clear hr hb2))
  go_ret
  exact ⟨_, rfl, HR.out.1, HB1.out.trans (HR.out.2.mono HB1.out.size)⟩
set_option maxRecDepth 100000 in
set_option maxHeartbeats 2000000 in
theorem add_nil (w : World) (v0 : Value) : Calls Tryd.prog 24 #[.pointer none, v0] w fun e w' => ∃ v, e = .returned v ∧ IsNum w' v 10 ∧ Below w.heap.size w w' := by
  go_enter Tryd.func24, Tryd.ntmps24
  go_wp2_with (go_at_call 32; (with_reducible refine (in_ring10 _).mono ?_); rintro e w2 ⟨v, rfl, ⟨b, rfl, _⟩, hr, hb2⟩; have HR := Lib.hid (And.intro hr hb2); clear hr hb2)
  go_ret
  exact ⟨_, rfl, HR.out⟩
end
end Go.Proofs.YtkabkehfckbhcaaDoor
