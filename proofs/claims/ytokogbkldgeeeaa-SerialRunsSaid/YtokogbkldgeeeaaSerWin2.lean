/-
  serial: New, Come, Turn, Resize.
-/
import Derived.Test.YtokogbkldgeeeaaSerWin
namespace Go.Proofs.Ytokogbkldgeeeaa
set_option linter.unusedVariables false
set_option linter.unusedSimpArgs false
open Go.RowKit

def fitR (room : Int) : Int := min (max room 0) 65536
theorem new_end (nx room r : Int) (w : World) (h0 : 0 ≤ nx) (h1 : nx < 4294967296) (hr : r = fitR room) :
    IsWin ((w.alloc (.map #[] 0)).alloc (.cells #[.int .u32 nx, .int .i64 r, .map (some w.heap.size)] 37)) (w.heap.size + 1) w.heap.size nx (fitR room) (fun _ => false) ∧
      Below w.heap.size w ((w.alloc (.map #[] 0)).alloc (.cells #[.int .u32 nx, .int .i64 r, .map (some w.heap.size)] 37)) ∧
      ((w.alloc (.map #[] 0)).alloc (.cells #[.int .u32 nx, .int .i64 r, .map (some w.heap.size)] 37)).heap.size = w.heap.size + 2 := by
  subst hr
  refine ⟨⟨?_, ?_, h0, h1, by unfold fitR; omega, by unfold fitR; omega, by omega⟩, ((Below.refl _ _).alloc (Nat.le_refl _) _).alloc (by simp) _, by simp⟩
  · have := heap_alloc_new (w.alloc (.map #[] 0)) (.cells #[.int .u32 nx, .int .i64 (fitR room), .map (some w.heap.size)] 37)
    rw [World.size_alloc] at this
    exact this
  · have h2 : IntMap (w.alloc (.map #[] 0)) w.heap.size .u32 (setF fun _ => false) := IntMap.new w .u32
    exact h2.of_below ((Below.refl _ _).alloc (Nat.le_refl _) _)
theorem new_any (nx room : Int) (w : World) (h0 : 0 ≤ nx) (h1 : nx < 4294967296) :
    Calls Try.prog 11 #[.int .u32 nx, .int .i64 room] w fun e w' => e = .returned (.pointer (some ⟨w.heap.size + 1, 0, none⟩)) ∧ IsWin w' (w.heap.size + 1) w.heap.size nx (fitR room) (fun _ => false) ∧ Below w.heap.size w w' ∧ w'.heap.size = w.heap.size + 2 := by
  have hmm := @run_makeMap Try.prog
  go_enter Try.func11, Try.ntmps11
  go_wp2
  all_goals go_ret
  all_goals exact ⟨rfl, new_end nx room _ w h0 h1 (by unfold fitR; omega)⟩

theorem choose_world {P : Program} {α : Type} {f : World → Sem α} {w : World} {a : α} {R : Nat → World → Prop} (h : ∀ m, ∃ w', (f (w.drewN m)).run P (w.drewN m) = .ok a w' ∧ R m w') :
    ∃ W1 : Nat → World, (∀ m, (f (w.drewN m)).run P (w.drewN m) = .ok a (W1 m)) ∧ ∀ m, R m (W1 m) :=
  ⟨fun m => (h m).choose, fun m => (h m).choose_spec.1, fun m => (h m).choose_spec.2⟩

/-- May a number come? -/
def comeB (nx rm : Int) (S : Int → Bool) (x : Int) : Bool := decide (rm ≠ 0) && withinB x nx ((nx + rm - 1) % 4294967296) && !S x

section
variable {w : World} {wb mb : Nat} {nx rm : Int} {S : Int → Bool}

set_option maxHeartbeats 2000000 in
theorem come_no (h : IsWin w wb mb nx rm S) (x : Int) (hx0 : 0 ≤ x) (hx1 : x < 4294967296) (hc : comeB nx rm S x = false) :
    Calls Try.prog 13 #[.pointer (some ⟨wb, 0, none⟩), .int .u32 x] w fun e w' => e = .returned (.bool false) ∧ ∃ n, w' = w.drewN n := by
  have c0 := h.c0
  have c1 := h.c1
  have c2 := h.c2
  have h1 := h.rm0
  have h2 := h.rm1
  have h3 := h.nx0
  have h4 := h.nx1
  have hlook : ∀ m, (Instr.lookup 30 (.map (some mb)) (.int .u32 x) false).run Try.prog (w.drewN m) = .ok (.bool (S x)) (w.drewN m) := fun m => h.look x _ rfl
  by_cases hr : rm = 0
  · have hr1 : (rm == 0) = true := by simp [hr]
    clear hc
    go_enter Try.func13, Try.ntmps13
    go_wp2
    go_quiet (fail)
    go_wp2
    go_ret
    exact ⟨rfl, _, rfl⟩
  · have hr1 : (rm == 0) = false := by simp [hr]
    have hc' : (withinB x nx ((nx + rm - 1) % 4294967296) && !S x) = false := by simpa [comeB, hr] using hc
    clear hc hr
    generalize hq : withinB x nx ((nx + rm - 1) % 4294967296) = q at *
    have HQ := Lib.hid hq
    clear hq
    cases q with
    | false =>
      clear hc'
      go_enter Try.func13, Try.ntmps13
      go_wp2
      go_quiet (first | (go_at_call 16; exact Calls.quiet_of (last_any (h.drewN _))) | (go_at_call 10; refine Calls.quiet_of_same ((within_any _ _ _ _).mono fun e w' h => ⟨by rw [h.1, HQ.out], h.2.symm⟩)))
      go_wp2
      go_ret
      exact ⟨rfl, _, rfl⟩
    | true =>
      have hs : S x = true := by simpa using hc'
      clear hc'
      go_enter Try.func13, Try.ntmps13
      go_wp2
      go_quiet (first | (go_at_call 16; exact Calls.quiet_of (last_any (h.drewN _))) | (go_at_call 10; refine Calls.quiet_of_same ((within_any _ _ _ _).mono fun e w' h => ⟨by rw [h.1, HQ.out], h.2.symm⟩)))
      go_wp2
      go_ret
      exact ⟨rfl, _, rfl⟩

set_option maxHeartbeats 2000000 in
theorem come_yes (h : IsWin w wb mb nx rm S) (x : Int) (hx0 : 0 ≤ x) (hx1 : x < 4294967296) (hc : comeB nx rm S x = true) :
    Calls Try.prog 13 #[.pointer (some ⟨wb, 0, none⟩), .int .u32 x] w fun e w' => e = .returned (.bool true) ∧ IsWin w' wb mb nx rm (addS S x) ∧ But2 w w' wb mb := by
  have c0 := h.c0
  have c1 := h.c1
  have c2 := h.c2
  have h1 := h.rm0
  have h2 := h.rm1
  have h3 := h.nx0
  have h4 := h.nx1
  have hup : ∀ m, ∃ w', (Instr.mapUpdate 30 (.map (some mb)) (.int .u32 x) (.bool true)).run Try.prog (w.drewN m) = .ok () w' ∧ IsWin w' wb mb nx rm (addS S x) ∧ But2 w w' wb mb := fun m => by
    obtain ⟨w', hr, hi, ht⟩ := run_update_intMap (P := Try.prog) (t := 30) (kt := 22) (e := 4) Try.underlying30 Try.underlying22 (h.drewN m).map x (.bool true)
    rw [setF_add] at hi
    exact ⟨w', hr, ⟨(ht.2.2.2.2 wb h.ne).trans (h.drewN m).cells, hi, h.nx0, h.nx1, h.rm0, h.rm1, h.ne⟩, (But2.drewN w m wb mb).trans (But2.turned ht)⟩
  obtain ⟨W1, hW, hR⟩ := choose_world (f := fun _ => Instr.mapUpdate 30 (.map (some mb)) (.int .u32 x) (.bool true)) (R := fun _ w' => IsWin w' wb mb nx rm (addS S x) ∧ But2 w w' wb mb) hup
  have hlook : ∀ m, (Instr.lookup 30 (.map (some mb)) (.int .u32 x) false).run Try.prog (w.drewN m) = .ok (.bool (S x)) (w.drewN m) := fun m => h.look x _ rfl
  simp only [comeB, Bool.and_eq_true, decide_eq_true_eq, Bool.not_eq_true'] at hc
  obtain ⟨⟨hr, hq⟩, hs⟩ := hc
  have hr1 : (rm == 0) = false := by simp [hr]
  have HQ := Lib.hid hq
  have HR := Lib.hid hR
  clear hq hr hup hR
  go_enter Try.func13, Try.ntmps13
  go_wp2
  go_quiet (first | (go_at_call 16; exact Calls.quiet_of (last_any (h.drewN _))) | (go_at_call 10; refine Calls.quiet_of_same ((within_any _ _ _ _).mono fun e w' h => ⟨by rw [h.1, HQ.out], h.2.symm⟩)))
  go_wp2
  go_ret
  exact ⟨rfl, HR.out _⟩

theorem come_nil (x : Int) (w : World) :
    Calls Try.prog 13 #[.pointer none, .int .u32 x] w fun e w' => e = .returned (.bool false) ∧ ∃ n, w' = w.drewN n := by
  go_enter Try.func13, Try.ntmps13
  go_wp2
  go_quiet (fail)
  go_wp2
  go_ret
  exact ⟨rfl, _, rfl⟩
theorem turn_nil (w : World) :
    Calls Try.prog 14 #[.pointer none] w fun e w' => e = .returned (.bool false) ∧ ∃ n, w' = w.drewN n := by
  go_enter Try.func14, Try.ntmps14
  go_wp2
  go_quiet (fail)
  go_wp2
  go_ret
  exact ⟨rfl, _, rfl⟩
theorem last_nil (w : World) :
    Calls Try.prog 16 #[.pointer none] w fun e w' => e = .returned (.int .u32 0) ∧ w = w' := by
  go_enter Try.func16, Try.ntmps16
  go_wp2
  go_ret
  exact ⟨rfl, rfl⟩
theorem turn_no (h : IsWin w wb mb nx rm S) (hc : S nx = false) :
    Calls Try.prog 14 #[.pointer (some ⟨wb, 0, none⟩)] w fun e w' => e = .returned (.bool false) ∧ ∃ n, w' = w.drewN n := by
  have c0 := h.c0
  have c2 := h.c2
  have hlook : ∀ m, (Instr.lookup 30 (.map (some mb)) (.int .u32 nx) false).run Try.prog (w.drewN m) = .ok (.bool (S nx)) (w.drewN m) := fun m => h.look nx _ rfl
  rw [hc] at hlook
  go_enter Try.func14, Try.ntmps14
  go_wp2
  go_quiet (fail)
  go_wp2
  go_ret
  exact ⟨rfl, _, rfl⟩
end

end Go.Proofs.Ytokogbkldgeeeaa
