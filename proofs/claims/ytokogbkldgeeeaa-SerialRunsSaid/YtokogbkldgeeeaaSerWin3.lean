/-
  serial: Turn where the next number came; Resize.
-/
import Derived.Test.YtokogbkldgeeeaaSerWin2
namespace Go.Proofs.Ytokogbkldgeeeaa
set_option linter.unusedVariables false
set_option linter.unusedSimpArgs false
open Go.RowKit

section
variable {w : World} {wb mb : Nat} {nx rm : Int} {S : Int → Bool}

theorem IsWin.setNext {w1 : World} (h1 : w1.heap[wb]? = some (.cells #[.int .u32 nx, .int .i64 rm, .map (some mb)] 37)) (hm : IntMap w1 mb .u32 (setF S)) (hne : wb ≠ mb) (hr0 : 0 ≤ rm) (hr1 : rm ≤ 65536) (v : Int) (hv0 : 0 ≤ v) (hv1 : v < 4294967296) :
    IsWin (w1.setCell ⟨wb, 0, none⟩ (.int .u32 v)) wb mb v rm S := by
  refine ⟨?_, hm.of_block (Below.heap_setCell _ _ _ _ (fun e => hne e.symm)), hv0, hv1, hr0, hr1, hne⟩
  simp [World.setCell, Array.getElem?_modify, h1]
theorem IsWin.setRoom {w1 : World} (h : IsWin w1 wb mb nx rm S) (r : Int) (hr0 : 0 ≤ r) (hr1 : r ≤ 65536) : IsWin (w1.setCell ⟨wb, 1, none⟩ (.int .i64 r)) wb mb nx r S := by
  refine ⟨?_, h.map.of_block (Below.heap_setCell _ _ _ _ (fun e => h.ne e.symm)), h.nx0, h.nx1, hr0, hr1, h.ne⟩
  simp [World.setCell, Array.getElem?_modify, h.cells]

theorem IsWin.setRoom' {w1 : World} (h : IsWin w1 wb mb nx rm S) (room r : Int) (hr : r = fitR room) : IsWin (w1.setCell ⟨wb, 1, none⟩ (.int .i64 r)) wb mb nx (fitR room) S := by
  subst hr
  exact h.setRoom _ (by unfold fitR; omega) (by unfold fitR; omega)

set_option maxHeartbeats 2000000 in
theorem turn_yes (hwin : IsWin w wb mb nx rm S) (hc : S nx = true) :
    Calls Try.prog 14 #[.pointer (some ⟨wb, 0, none⟩)] w fun e w' => e = .returned (.bool true) ∧ IsWin w' wb mb ((nx + 1) % 4294967296) rm (delS S nx) ∧ But2 w w' wb mb := by
  have c0 := hwin.c0
  have c2 := hwin.c2
  have h3 := hwin.nx0
  have h4 := hwin.nx1
  have hlook : ∀ m, (Instr.lookup 30 (.map (some mb)) (.int .u32 nx) false).run Try.prog (w.drewN m) = .ok (.bool (S nx)) (w.drewN m) := fun m => hwin.look nx _ rfl
  rw [hc] at hlook
  have hdel : ∀ m, ∃ w', (Builtin.delete_ #[30, 22] 0 #[.map (some mb), .int .u32 nx]).run Try.prog (w.drewN m) = .ok (.tuple #[]) w' ∧
      w'.heap[wb]? = some (.cells #[.int .u32 nx, .int .i64 rm, .map (some mb)] 37) ∧ IntMap w' mb .u32 (setF (delS S nx)) ∧ But2 w w' wb mb := fun m => by
    obtain ⟨w', hr, hi, ht⟩ := run_delete_intMap (P := Try.prog) (t := 30) (kt := 22) (e := 4) (w := w.drewN m) Try.underlying30 Try.underlying22 ((hwin.drewN m).map) nx 0
    rw [setF_del] at hi
    exact ⟨w', hr, (ht.2.2.2.2 wb hwin.ne).trans (hwin.drewN m).cells, hi, (But2.drewN w m wb mb).trans (But2.turned ht)⟩
  obtain ⟨W1, hW, hR⟩ : ∃ W1 : Nat → World, (∀ m, (Builtin.delete_ #[30, 22] 0 #[.map (some mb), .int .u32 nx]).run Try.prog (w.drewN m) = .ok (.tuple #[]) (W1 m)) ∧
      ∀ m, (W1 m).heap[wb]? = some (.cells #[.int .u32 nx, .int .i64 rm, .map (some mb)] 37) ∧ IntMap (W1 m) mb .u32 (setF (delS S nx)) ∧ But2 w (W1 m) wb mb :=
    ⟨fun m => (hdel m).choose, fun m => (hdel m).choose_spec.1, fun m => (hdel m).choose_spec.2⟩
  have hcell : ∀ m, (W1 m).cell? ⟨wb, 0, none⟩ = some (.int .u32 nx) := fun m => by unfold World.cell?; rw [(hR m).1]; rfl
  have hfz : ∀ m, (W1 m).frozen? ⟨wb, 0, none⟩ = false := fun m => by unfold World.frozen?; rw [(hR m).1]; simp
  have HR := Lib.hid hR
  clear hR hdel
  go_enter Try.func14, Try.ntmps14
  go_wp2
  go_quiet (fail)
  go_wp2
  go_region
  all_goals go_wp2
  all_goals go_ret
  all_goals exact ⟨rfl, IsWin.setNext (HR.out _).1 (HR.out _).2.1 hwin.ne hwin.rm0 hwin.rm1 _ (by omega) (by omega), (HR.out _).2.2.trans (But2.setCell _ wb 0 mb _)⟩

set_option maxHeartbeats 1000000 in
theorem resize_any (hwin : IsWin w wb mb nx rm S) (room : Int) :
    Calls Try.prog 15 #[.pointer (some ⟨wb, 0, none⟩), .int .i64 room] w fun e w' => e = .returned (.tuple #[]) ∧ IsWin w' wb mb nx (fitR room) S ∧ But2 w w' wb mb := by
  have c1 := hwin.c1
  have hf := hwin.fz 1
  go_enter Try.func15, Try.ntmps15
  go_wp2
  all_goals go_end0
  all_goals exact ⟨rfl, hwin.setRoom' room _ (by unfold fitR; omega), But2.setCell _ wb 1 mb _⟩
end
theorem resize_nil (room : Int) (w : World) :
    Calls Try.prog 15 #[.pointer none, .int .i64 room] w fun e w' => e = .returned (.tuple #[]) ∧ w = w' := by
  go_enter Try.func15, Try.ntmps15
  go_wp2
  go_end0
  exact ⟨rfl, rfl⟩

end Go.Proofs.Ytokogbkldgeeeaa
