/-
  woe: few, made.
-/
import Derived.Test.YtgoddepgdgdacaaDoorWoeStr
import Derived.Deep.LoopGhost
namespace Go.Proofs.YtgoddepgdgdacaaDoor
set_option linter.unusedVariables false
set_option linter.unusedSimpArgs false
open Go.RowKit

set_option maxHeartbeats 1000000 in
theorem few_any (a : Option Addr) (l : List ByteArray) (cap : Nat) (w : World) (hl : IsStrs w a l) (hm : l.length ≤ maxLen) :
    Calls Tryd.prog 9 #[.slice a l.length cap] w fun e w' => (e = .returned (.bool true) ∨ e = .returned (.bool false)) ∧ w' = w := by
  unfold maxLen at hm
  go_enter Tryd.func9, Tryd.ntmps9
  go_wp2
  go_loop [3, 10] (fun x i => ∃ k : Nat, k ≤ l.length ∧ i = .int .i64 k ∧ ∃ z : Int, x = .int .i64 z) (fun _ i => l.length - (intOf i).toNat)
  case atStart => exact ⟨0, by omega, rfl, _, rfl⟩
  case round =>
    obtain ⟨k, hk, rfl, z, rfl⟩ := hrel
    by_cases hlt : k < l.length
    · obtain ⟨b, off, rfl, hbl, hc0⟩ := hl.2.resolve_left (by intro h; subst h; simp at hlt)
      have hc := hc0 k hlt
      generalize l.getD k ByteArray.empty = s at *
      clear hc0
      go_wp2
      go_round
      case rel => exact ⟨k + 1, by omega, by go_num, _, rfl⟩
      case measure => simp [intOf]; omega
    · obtain rfl : k = l.length := by omega
      by_cases hz : z ≤ 300
      · go_wp2
        go_ret
        exact ⟨.inl rfl, rfl⟩
      · go_wp2
        go_ret
        exact ⟨.inr rfl, rfl⟩

set_option maxHeartbeats 1000000 in
theorem made_any (n : Int) (a : Option Addr) (l : List ByteArray) (cap : Nat) (w : World) (hl : IsStrs w a l) (hm : l.length ≤ maxLen) :
    Calls Tryd.prog 10 #[.int .i64 n, .slice a l.length cap] w fun e w' => ∃ T x, e = .returned (.iface T x) ∧ IsErr w' (.iface T x) l n ∧ Below w.heap.size w w' := by
  unfold maxLen at hm
  go_enter Tryd.func10, Tryd.ntmps10
  go_wp2
  go_loopg [5, 6] l.length (fun g e i wr => ∃ k : Nat, k ≤ l.length ∧ i = .int .i64 ((k : Int) - 1) ∧ g = k ∧ IsErr wr e (l.drop k) n ∧ Below w.heap.size w wr)
  case atStart => exact ⟨l.length, Nat.le_refl _, by go_num, rfl, by rw [List.drop_length]; rfl, Below.refl _ _⟩
  case round =>
    obtain ⟨k, hk, rfl, hgk, he, hb⟩ := hrel
    cases k with
    | zero =>
      obtain ⟨T, x, rfl⟩ := he.iface
      have HE : Hid (IsErr wr (.iface T x) l n) := by show IsErr wr (.iface T x) l n; simpa using he
      have HB := Hid.out (p := Hid (Below w.heap.size w wr)) hb
      clear he hb
      go_wp2
      go_ret
      exact ⟨_, _, rfl, HE.out, HB.out⟩
    | succ k =>
      obtain ⟨b, off, rfl, hbl, hc0⟩ := hl.2.resolve_left (by intro h; subst h; simp at hk)
      have hc : wr.cell? ⟨b, off + k, none⟩ = some (.string (l.getD k ByteArray.empty)) := by rw [hb.cell hbl]; exact hc0 k (by omega)
      have HD : Hid (l.drop k = l.getD k ByteArray.empty :: l.drop (k + 1)) := by
        show l.drop k = _
        rw [List.drop_eq_getElem_cons (by omega)]
        simp [List.getD, List.getElem?_eq_getElem (show k < l.length by omega)]
      have hin := in_err (l.getD k ByteArray.empty) u5 (l.drop (k + 1)) n wr he
      generalize l.getD k ByteArray.empty = s at *
      have HB : Hid (Below w.heap.size w wr) := hb
      clear hc0 he hb
      have hcast : ((k + 1 : Nat) : Int) - 1 = k := by omega
      rw [hcast]
      go_wp2_with (go_at_call 17; refine hin.mono ?_; rintro e w' ⟨T, x, rfl, h1, h2⟩; have H1 := Hid.out (p := Hid _) h1; have H2 := Hid.out (p := Hid _) h2; clear h1 h2)
      go_roundg k
      case rel => exact ⟨k, by omega, by go_num, rfl, by rw [HD.out]; assumption, HB.out.trans (H2.out.mono HB.out.size)⟩
      case measure => omega
end Go.Proofs.YtgoddepgdgdacaaDoor
