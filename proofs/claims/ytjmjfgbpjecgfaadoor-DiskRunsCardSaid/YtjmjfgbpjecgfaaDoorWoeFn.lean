/-
  woe: In, Number.
-/
import Derived.Test.YtjmjfgbpjecgfaaDoorWoeAs3
namespace Go.Proofs.YtjmjfgbpjecgfaaDoor
set_option linter.unusedVariables false
set_option linter.unusedSimpArgs false
open Go.RowKit Go.Extern.Stop Go.Stop Go.Extern

/-- errors.As has laid v at t; below t all is as it was. -/
structure AsSet (w w' : World) (t : Addr) (v : Value) : Prop where
  got : w'.cell? t = some v
  rest : Below t.block w w'
theorem asSet_of {w w1 : World} {t : Addr} {old v : Value} (ht : w.cell? t = some old) (hb : Below w.heap.size w w1) : AsSet w (w1.setCell t v) t v :=
  ⟨World.cell?_setCell_same _ _ _ (u := old) (by rw [hb.cell (cell_lt ht)]; exact ht), (hb.mono (Nat.le_of_lt (cell_lt ht))).setCell (Nat.le_refl _) _⟩

theorem as_num' (e : Value) (ways : List ByteArray) (n : Int) (t : Addr) (old : Value) (w : World) (hg : HasET w) (ht : w.cell? t = some old) (hf : w.frozen? t = false) (he : IsErr w e ways n) :
    Calls Tryd.prog 25 #[e, .iface 70 (.pointer (some t))] w fun ev w' => ev = .returned (.bool true) ∧ AsSet w w' t (.int .i64 n) :=
  (as_num e ways n t old w hg ht hf he).mono fun ev w' ⟨h, w1, hb, hw⟩ => ⟨h, by rw [hw]; exact asSet_of ht hb⟩
theorem in_nil (s : ByteArray) (W : World) : Calls Tryd.prog 23 #[.string s, .nilIface] W fun e w' => e = .returned .nilIface ∧ w' = W := by
  go_enter Tryd.func23, Tryd.ntmps23
  go_wp2
  go_ret
  exact ⟨rfl, rfl⟩
theorem in_some (s : ByteArray) (T : TypeId) (x : Value) (W : World) : Calls Tryd.prog 23 #[.string s, .iface T x] W fun e w' => e = .returned (.iface 75 (.pointer (some ⟨W.heap.size, 0, none⟩))) ∧ w' = W.alloc (.cells #[.string s, .iface T x] 77) := by
  go_enter Tryd.func23, Tryd.ntmps23
  go_wp2
  go_ret
  exact ⟨rfl, rfl⟩
theorem IsErr.push {W : World} {l : List ByteArray} {T : TypeId} {x : Value} {n : Int} (h : IsErr W (.iface T x) l n) (s : ByteArray) : IsErr (W.alloc (.cells #[.string s, .iface T x] 77)) (.iface 75 (.pointer (some ⟨W.heap.size, 0, none⟩))) (s :: l) n :=
  ⟨W.heap.size, .iface T x, rfl, by simp, by rw [World.cell?_alloc_at _ _ _ _ (by simp)]; rfl, h.below ((Below.refl _ _).alloc (Nat.le_refl _) _)⟩
/-- In, of an error. -/
theorem in_err (s : ByteArray) (e : Value) (l : List ByteArray) (n : Int) (W : World) (h : IsErr W e l n) : Calls Tryd.prog 23 #[.string s, e] W fun ev w' => ∃ T x, ev = .returned (.iface T x) ∧ IsErr w' (.iface T x) (s :: l) n ∧ Below W.heap.size W w' := by
  obtain ⟨T, x, rfl⟩ := h.iface
  exact (in_some s T x W).mono fun ev w' ⟨h1, h2⟩ => ⟨_, _, h1, by rw [h2]; exact h.push s, by rw [h2]; exact (Below.refl _ _).alloc (Nat.le_refl _) _⟩

end Go.Proofs.YtjmjfgbpjecgfaaDoor
