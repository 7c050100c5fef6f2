/-
  woe: errors.as walked.
-/
import Derived.Test.YtjmjfgbpjecgfaaDoorWoeAs
namespace Go.Proofs.YtjmjfgbpjecgfaaDoor
set_option linter.unusedVariables false
set_option linter.unusedSimpArgs false
open Go.RowKit Go.Extern.Stop Go.Stop Go.Extern

set_option maxHeartbeats 4000000 in
/-- errors.as at a *api.Errno: it goes down all places. -/
theorem as2_num (e : Value) (ways : List ByteArray) (n : Int) (t a0 : Addr) (old : Value) (w : World) (he : IsErr w e ways n) (ha : w.cell? a0 = some (.pointer (some t))) (ht : w.cell? t = some old) (hf : w.frozen? t = false) :
    Calls Tryd.prog 33 #[e, .iface 70 (.pointer (some t)), .agg #[.pointer (some ⟨1, 70, none⟩), .pointer (some a0), .int .u64 150], .iface 91 (.agg #[.pointer (some ⟨1, 61, none⟩)])] w
      fun ev w' => ev = .returned (.bool true) ∧ ∃ w1, Below w.heap.size w w1 ∧ w' = w1.setCell t (.int .i64 n) := by
  have h24 := @ra_h24
  have h20 := @ra_h20
  have h63 := @ra_h63
  have h28 := @ra_h28
  have h29 := @ra_h29
  have q1 := ra_methodAssignableTo
  have q2 := ra_typeOfW
  have q3 := ra_typeOfN
  have q4 := ra_assignN
  have q5 := ra_assignWN
  have q6 := ra_noAsW
  have q7 := ra_unwrapW
  have q8 := ra_methodUnwrap
  have q9 := ra_valueOfEN
  go_enter Tryd.func33, Tryd.ntmps33
  go_wp2
  go_loopg [0] ways.length (fun g x wr => ∃ r, g = r.length ∧ IsErr w x r n ∧ wr = w.alloc (.cells #[.pointer (some ⟨1, 70, none⟩), .pointer (some a0), .int .u64 150] 81))
  case atStart => exact ⟨ways, rfl, he, rfl⟩
  case round =>
    obtain ⟨r, rfl, hr, rfl⟩ := hrel
    cases r with
    | nil =>
      obtain rfl : u0 = _ := hr
      have ta := cell_lt ht
      have aa := cell_lt ha
      have el := ra_elemVN a0 t (w.alloc (.cells #[.pointer (some ⟨1, 70, none⟩), .pointer (some a0), .int .u64 150] 81)) (by rw [World.cell?_alloc_lt _ _ a0 aa]; exact ha)
      have st := ra_setN t ⟨w.heap.size + 1, 0, none⟩ n old ((w.alloc (.cells #[.pointer (some ⟨1, 70, none⟩), .pointer (some a0), .int .u64 150] 81)).alloc (.cells #[.int .i64 n] 61))
        (by rw [World.cell?_alloc_at _ _ _ _ (by simp)]; rfl)
        (by rw [World.cell?_alloc_lt _ _ t (by simp; omega), World.cell?_alloc_lt _ _ t ta]; exact ht)
        (by rw [World.frozen?_alloc_old _ _ t (by simp; omega), World.frozen?_alloc_old _ _ t (Nat.ne_of_lt ta)]; exact hf)
      go_wp2
      go_ret
      exact ⟨rfl, _, ((Below.refl _ _).alloc (Nat.le_refl _) _).alloc (by simp) _, rfl⟩
    | cons s r =>
      obtain ⟨b, v, rfl, hs, hv, hr'⟩ := hr
      have hv' : (w.alloc (.cells #[.pointer (some ⟨1, 70, none⟩), .pointer (some a0), .int .u64 150] 81)).cell? ⟨b, 1, none⟩ = some v := by rw [World.cell?_alloc_lt _ _ ⟨b, 1, none⟩ (cell_lt hv)]; exact hv
      obtain ⟨T, x, rfl⟩ := hr'.iface
      go_wp2_with (go_at_call 57; refine (unwrap_any b _ _ hv').mono ?_; rintro e w' ⟨rfl, rfl⟩)
      go_roundg r.length
      case rel => exact ⟨r, rfl, hr', rfl⟩
      case measure => simp

end Go.Proofs.YtjmjfgbpjecgfaaDoor
