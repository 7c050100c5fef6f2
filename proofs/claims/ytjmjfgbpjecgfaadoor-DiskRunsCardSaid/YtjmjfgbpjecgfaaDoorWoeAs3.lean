/-
  woe: errors.As by its contracts.
-/
import Derived.Test.YtjmjfgbpjecgfaaDoorWoeAs2
namespace Go.Proofs.YtjmjfgbpjecgfaaDoor
set_option linter.unusedVariables false
set_option linter.unusedSimpArgs false
open Go.RowKit Go.Extern.Stop Go.Stop Go.Extern

/-- What errors.errorType holds. -/
def HasET (W : World) : Prop := W.cell? ⟨0, 0, none⟩ = some (.iface 91 (.agg #[.pointer (some ⟨1, 26, none⟩)]))
theorem HasET.below {W w' : World} (h : HasET W) (hb : Below W.heap.size W w') : HasET w' := by
  unfold HasET at *
  rw [hb.cell (cell_lt h)]
  exact h

theorem as_nil (t : Value) (w : World) :
    Calls Tryd.prog 25 #[.nilIface, t] w fun e w' => e = .returned (.bool false) ∧ w' = w := by
  go_enter Tryd.func25, Tryd.ntmps25
  go_wp2
  go_ret
  exact ⟨rfl, rfl⟩

set_option maxHeartbeats 4000000 in
/-- errors.As at a *api.Errno. -/
theorem as_num (e : Value) (ways : List ByteArray) (n : Int) (t : Addr) (old : Value) (w : World) (hg : HasET w) (ht : w.cell? t = some old) (hf : w.frozen? t = false) (he : IsErr w e ways n) :
    Calls Tryd.prog 25 #[e, .iface 70 (.pointer (some t))] w fun ev w' => ev = .returned (.bool true) ∧ ∃ w1, Below w.heap.size w w1 ∧ w' = w1.setCell t (.int .i64 n) := by
  have h20 := @ra_h20
  have h21 := @ra_h21
  have h22 := @ra_h22
  have h56 := @ra_h56
  have h65 := @ra_h65
  have h66 := @ra_h66
  have q1 := ra_valueOfPN
  have q2 := ra_typePN
  have q3 := ra_methodKind
  have q4 := ra_kindPN
  have q5 := ra_kindEN
  have q6 := ra_methodElem
  have q7 := ra_methodImplements
  have q8 := ra_elemTN
  have q9 := ra_implementsN
  have h0 := cell_lt hg
  have ta := cell_lt ht
  have qi := ra_isNilN ⟨w.heap.size, 0, none⟩ t ((w.alloc (.cells #[.pointer (some t)] 70)).alloc (.cells #[.pointer (some ⟨1, 70, none⟩), .pointer (some ⟨w.heap.size, 0, none⟩), .int .u64 150] 81)) (by simp)
  have hg2 : ((w.alloc (.cells #[.pointer (some t)] 70)).alloc (.cells #[.pointer (some ⟨1, 70, none⟩), .pointer (some ⟨w.heap.size, 0, none⟩), .int .u64 150] 81)).cell? ⟨0, 0, none⟩ = some (.iface 91 (.agg #[.pointer (some ⟨1, 26, none⟩)])) := by
    rw [World.cell?_alloc_lt _ _ ⟨0, 0, none⟩ (by simp), World.cell?_alloc_lt _ _ ⟨0, 0, none⟩ h0]; exact hg
  obtain ⟨T, x, rfl⟩ := he.iface
  have hc := as2_num _ ways n t ⟨w.heap.size, 0, none⟩ old ((w.alloc (.cells #[.pointer (some t)] 70)).alloc (.cells #[.pointer (some ⟨1, 70, none⟩), .pointer (some ⟨w.heap.size, 0, none⟩), .int .u64 150] 81)) (he.below (((Below.refl _ _).alloc (Nat.le_refl _) _).alloc (by simp) _)) (by rw [World.cell?_alloc_lt _ _ _ (by simp)]; simp) (by rw [World.cell?_alloc_lt _ _ t (by simp; omega), World.cell?_alloc_lt _ _ t ta]; exact ht) (by rw [World.frozen?_alloc_old _ _ t (by simp; omega), World.frozen?_alloc_old _ _ t (Nat.ne_of_lt ta)]; exact hf)
  go_enter Tryd.func25, Tryd.ntmps25
  go_wp2_with (go_at_call 33; refine hc.mono ?_; rintro e w' ⟨rfl, w1, hb, rfl⟩)
  go_ret
  exact ⟨rfl, _, (((Below.refl _ _).alloc (Nat.le_refl _) _).alloc (by simp) _).trans (hb.mono (by simp; omega)), rfl⟩

end Go.Proofs.YtjmjfgbpjecgfaaDoor
