/-
  disk: num, Off, Size, Pending, Fuel, step.
-/
import Derived.Test.YtjmjfgbpjecgfaaDoorDkMem
import Derived.Deep.QuietTactic
import Derived.BigQuiet
import Derived.Tactics
namespace Go.Proofs.YtjmjfgbpjecgfaaDoor
set_option linter.unusedVariables false
set_option linter.unusedSimpArgs false
open Go.RowKit

/-- What a call of a disk answers as its error: nil for 0, else an error of that number. -/
def IsRes (w : World) (v : Value) (n : Nat) : Prop := if n = 0 then v = .nilIface else ∃ b, v = .iface 75 (.pointer (some ⟨b, 0, none⟩)) ∧ IsErr w v [⟨#[100, 105, 115, 107]⟩] (n : Int)
theorem IsRes.below {w w' : World} {v : Value} {n : Nat} (h : IsRes w v n) (hb : Below w.heap.size w w') : IsRes w' v n := by
  unfold IsRes at *
  by_cases hn : n = 0
  · rw [if_pos hn] at *; exact h
  · rw [if_neg hn] at *
    obtain ⟨b, h1, h2⟩ := h
    exact ⟨b, h1, h2.below hb⟩
theorem IsErr.but {W w' : World} {S : Nat → Prop} (hb : But S W w') {b : Nat} {s : ByteArray} {n : Int} (hs : ¬ S b) (h : IsErr W (.iface 75 (.pointer (some ⟨b, 0, none⟩))) [s] n) : IsErr w' (.iface 75 (.pointer (some ⟨b, 0, none⟩))) [s] n := by
  obtain ⟨b', v, h1, h2, h3, h4⟩ := h
  injection h1 with _ h1
  injection h1 with h1
  injection h1 with h1
  injection h1 with h1
  subst h1
  exact ⟨b, v, rfl, by rw [hb.cell (cell_lt h2) hs]; exact h2, by rw [hb.cell (cell_lt h3) hs]; exact h3, h4⟩
theorem IsRes.but {w w' : World} {S : Nat → Prop} (hb : But S w w') {b : Nat} (hs : ¬ S b) {n : Nat} (h : IsRes w (.iface 75 (.pointer (some ⟨b, 0, none⟩))) n) : IsRes w' (.iface 75 (.pointer (some ⟨b, 0, none⟩))) n := by
  unfold IsRes at *
  by_cases hn : n = 0
  · rw [if_pos hn] at *; exact h
  · rw [if_neg hn] at *
    obtain ⟨b', _, h2⟩ := h
    exact ⟨b, rfl, h2.but hb hs⟩
/-- The error of a number, made. -/
theorem in_disk (n : Nat) (hn : n ≠ 0) (W : World) : Calls Tryd.prog 23 #[.string ⟨#[100, 105, 115, 107]⟩, .iface 61 (.int .i64 (n : Int))] W fun e w' => ∃ v, e = .returned v ∧ (∃ b, v = .iface 75 (.pointer (some ⟨b, 0, none⟩)) ∧ W.heap.size ≤ b) ∧ IsRes w' v n ∧ Below W.heap.size W w' := by
  refine (in_some ⟨#[100, 105, 115, 107]⟩ 61 (.int .i64 (n : Int)) W).mono ?_
  rintro e w' ⟨rfl, rfl⟩
  refine ⟨_, rfl, ⟨_, rfl, Nat.le_refl _⟩, ?_, (Below.refl _ _).alloc (Nat.le_refl _) _⟩
  unfold IsRes
  rw [if_neg hn]
  exact ⟨_, rfl, IsErr.push (l := []) (n := (n : Int)) rfl _⟩

theorem in_off (W : World) : Calls Tryd.prog 23 #[.string ⟨#[100, 105, 115, 107]⟩, .iface 61 (.int .i64 10)] W fun e w' => ∃ v, e = .returned v ∧ (∃ b, v = .iface 75 (.pointer (some ⟨b, 0, none⟩)) ∧ W.heap.size ≤ b) ∧ IsRes w' v 10 ∧ Below W.heap.size W w' := in_disk 10 (by decide) W
theorem in_arg (W : World) : Calls Tryd.prog 23 #[.string ⟨#[100, 105, 115, 107]⟩, .iface 61 (.int .i64 1)] W fun e w' => ∃ v, e = .returned v ∧ (∃ b, v = .iface 75 (.pointer (some ⟨b, 0, none⟩)) ∧ W.heap.size ≤ b) ∧ IsRes w' v 1 ∧ Below W.heap.size W w' := in_disk 1 (by decide) W

set_option maxHeartbeats 1000000 in
theorem num_res (v : Value) (n : Nat) (W : World) (hg : HasET W) (h : IsRes W v n) : Calls Tryd.prog 14 #[v] W fun ev w' => ev = .returned (.int .i64 (n : Int)) ∧ Below W.heap.size W w' := by
  unfold IsRes at h
  by_cases hn : n = 0
  · rw [if_pos hn] at h
    subst h hn
    go_enter Tryd.func14, Tryd.ntmps14
    go_wp2
    go_ret
    exact ⟨rfl, Below.refl _ _⟩
  · rw [if_neg hn] at h
    obtain ⟨b, rfl, h⟩ := h
    have hb : Below W.heap.size W (W.alloc (.cells #[.int .i64 0] 61)) := (Below.refl _ _).alloc (Nat.le_refl _) _
    have hc := as_num' _ _ (n : Int) ⟨W.heap.size, 0, none⟩ (.int .i64 0) (W.alloc (.cells #[.int .i64 0] 61)) (hg.below hb) (by simp) (by simp) (h.below hb)
    go_enter Tryd.func14, Tryd.ntmps14
    go_wp2_with (go_at_call 25; (with_reducible refine hc.mono ?_); rintro e w' ⟨rfl, hs⟩; have hs1 := hs.got; have hs2 : Hid (Below W.heap.size W w') := hb.trans hs.rest; clear hs)
    go_ret
    exact ⟨rfl, hs2.out⟩

section
variable {w : World} {base db fb mb cap : Nat} {cv : Value} {d : DK}
theorem IsDk.c0 (h : IsDk w base db fb mb cap cv d) : w.cell? ⟨db, 0, none⟩ = some (.slice (some ⟨fb, 0, none⟩) d.firm.length cap) := h.blk.cell 0 rfl
theorem IsDk.c1 (h : IsDk w base db fb mb cap cv d) : w.cell? ⟨db, 1, none⟩ = some cv := h.blk.cell 1 rfl
theorem IsDk.c2 (h : IsDk w base db fb mb cap cv d) : w.cell? ⟨db, 2, none⟩ = some (.map (some mb)) := h.blk.cell 2 rfl
theorem IsDk.c3 (h : IsDk w base db fb mb cap cv d) : w.cell? ⟨db, 3, none⟩ = some (.int .i64 d.fuel) := h.blk.cell 3 rfl
theorem IsDk.c4 (h : IsDk w base db fb mb cap cv d) : w.cell? ⟨db, 4, none⟩ = some (.bool d.off) := h.blk.cell 4 rfl

set_option maxHeartbeats 1000000 in
theorem off_any (h : IsDk w base db fb mb cap cv d) : Calls Tryd.prog 17 #[.pointer (some ⟨db, 0, none⟩)] w fun e w' => e = .returned (.bool d.off) ∧ w' = w := by
  have c4 := h.c4
  clear h
  go_enter Tryd.func17, Tryd.ntmps17
  go_wp2
  go_ret
  exact ⟨rfl, rfl⟩
theorem off_nil (w : World) : Calls Tryd.prog 17 #[.pointer none] w fun e w' => e = .returned (.bool true) ∧ w' = w := by
  go_enter Tryd.func17, Tryd.ntmps17
  go_wp2
  go_ret
  exact ⟨rfl, rfl⟩
theorem size_any (h : IsDk w base db fb mb cap cv d) : Calls Tryd.prog 21 #[.pointer (some ⟨db, 0, none⟩)] w fun e w' => e = .returned (.int .i64 ((d.firm.length : Nat) : Int)) ∧ w' = w := by
  have c0 := h.c0
  clear h
  go_enter Tryd.func21, Tryd.ntmps21
  go_wp2
  go_ret
  exact ⟨rfl, rfl⟩
theorem pending_any (h : IsDk w base db fb mb cap cv d) : Calls Tryd.prog 18 #[.pointer (some ⟨db, 0, none⟩)] w fun e w' => e = .returned (.int .i64 ((d.pend.length : Nat) : Int)) ∧ w' = w := by
  have c1 := h.c1
  obtain ⟨a, c, rfl⟩ := h.cache.slice
  clear h
  go_enter Tryd.func18, Tryd.ntmps18
  go_wp2
  go_ret
  exact ⟨rfl, rfl⟩

theorem IsDk.fz (h : IsDk w base db fb mb cap cv d) (i : Nat) : w.frozen? ⟨db, i, none⟩ = false := h.blk.fz i

theorem IsDk.putFuel (h : IsDk w base db fb mb cap cv d) (x : Int) (h1 : -1 ≤ x) (h2 : x ≤ 9223372036854775807) : IsDk (w.setCell ⟨db, 3, none⟩ (.int .i64 x)) base db fb mb cap cv { d with fuel := x } ∧ But (fun k => k = db) w (w.setCell ⟨db, 3, none⟩ (.int .i64 x)) :=
  have hb : But (fun k => k = db) w (w.setCell ⟨db, 3, none⟩ (.int .i64 x)) := (But.refl (fun k => k = db) w).setCell (p := ⟨db, 3, none⟩) rfl _
  ⟨h.turn rfl rfl h1 h2 (h.blk.set 3 _) hb, hb⟩
theorem IsDk.putOff (h : IsDk w base db fb mb cap cv d) (x : Bool) : IsDk (w.setCell ⟨db, 4, none⟩ (.bool x)) base db fb mb cap cv { d with off := x } ∧ But (fun k => k = db) w (w.setCell ⟨db, 4, none⟩ (.bool x)) :=
  have hb : But (fun k => k = db) w (w.setCell ⟨db, 4, none⟩ (.bool x)) := (But.refl (fun k => k = db) w).setCell (p := ⟨db, 4, none⟩) rfl _
  ⟨h.turn rfl rfl h.f1 h.f2 (h.blk.set 4 _) hb, hb⟩

set_option maxHeartbeats 2000000 in
theorem fuel_any (h : IsDk w base db fb mb cap cv d) (n : Int) (h2 : n ≤ 9223372036854775807) : Calls Tryd.prog 16 #[.pointer (some ⟨db, 0, none⟩), .int .i64 n] w fun e w' => (∃ v, e = .returned v) ∧ IsDk w' base db fb mb cap cv (d.setFuel n) ∧ But (fun k => k = db) w w' := by
  have c3 := h.c3
  have z3 := h.fz 3
  have H := Hid.out (p := Hid _) h
  clear h
  go_enter Tryd.func16, Tryd.ntmps16
  go_wp2
  · go_end0
    have hm : max n (-1) = -1 := by omega
    exact ⟨⟨_, rfl⟩, by simpa only [DK.setFuel, hm] using H.out.putFuel (-1) (by omega) (by omega)⟩
  · go_end0
    have hm : max n (-1) = n := by omega
    exact ⟨⟨_, rfl⟩, by simpa only [DK.setFuel, hm] using H.out.putFuel n (by omega) (by omega)⟩
theorem fuel_nil (n : Int) (w : World) : Calls Tryd.prog 16 #[.pointer none, .int .i64 n] w fun e w' => (∃ v, e = .returned v) ∧ w' = w := by
  go_enter Tryd.func16, Tryd.ntmps16
  go_wp2
  go_end0
  exact ⟨⟨_, rfl⟩, rfl⟩

/-- step: what it answers, what it leaves. -/
def stepE (d : DK) : Nat := if d.may then 0 else 10
set_option maxHeartbeats 2000000 in
theorem step_any (h : IsDk w base db fb mb cap cv d) : Calls Tryd.prog 24 #[.pointer (some ⟨db, 0, none⟩)] w fun e w' => ∃ v, e = .returned v ∧ (v = .nilIface ∨ ∃ b, v = .iface 75 (.pointer (some ⟨b, 0, none⟩)) ∧ w.heap.size ≤ b) ∧ IsRes w' v (stepE d) ∧ IsDk w' base db fb mb cap cv d.step ∧ But (fun k => k = db) w w' := by
  have c3 := h.c3
  have z3 := h.fz 3
  have z4 := h.fz 4
  have c4 := h.c4
  have hoff := off_any h
  have hf1 := h.f1
  have hf2 := h.f2
  have H := Hid.out (p := Hid _) h
  have hlt := h.blk.lt
  clear h
  obtain ⟨firm, pend, fuel, off⟩ := d
  simp only at *
  cases off with
  | true =>
    go_enter Tryd.func24, Tryd.ntmps24
    go_wp2_with (first
      | (go_at_call 17; (with_reducible refine hoff.mono ?_); rintro e w' ⟨rfl, rfl⟩)
      | (go_at_call 23; (with_reducible refine (in_off _).mono ?_); rintro e w' ⟨v, rfl, ⟨b, rfl, hbb⟩, hr, hb⟩))
    go_ret
    exact ⟨_, rfl, .inr ⟨b, rfl, hbb⟩, hr, H.out.below hb, But.of_below hb (Nat.le_refl _)⟩
  | false =>
    by_cases h0 : fuel = 0
    · subst h0
      go_enter Tryd.func24, Tryd.ntmps24
      have H2 := Lib.hid (H.out.putOff true)
      go_wp2_with (first
        | (go_at_call 17; (with_reducible refine hoff.mono ?_); rintro e w' ⟨rfl, rfl⟩)
        | (go_at_call 23; (with_reducible refine (in_off _).mono ?_); rintro e w' ⟨v, rfl, ⟨b, rfl, hbb⟩, hr, hb⟩))
      go_ret
      exact ⟨_, rfl, .inr ⟨b, rfl, by simpa using hbb⟩, hr, H2.out.1.below hb, H2.out.2.trans (But.of_below hb (Nat.le_refl _))⟩
    · by_cases hp : 0 < fuel
      · have H2 := Lib.hid (H.out.putFuel (fuel - 1) (by show -1 ≤ fuel - 1; omega) (by show fuel - 1 ≤ 9223372036854775807; omega))
        go_enter Tryd.func24, Tryd.ntmps24
        go_wp2_with (first
          | (go_at_call 17; (with_reducible refine hoff.mono ?_); rintro e w' ⟨rfl, rfl⟩))
        go_ret
        exact ⟨_, rfl, .inl rfl, by simp [IsRes, stepE, DK.may, h0], by simpa only [DK.step, h0, hp, if_true, if_false, Bool.false_eq_true] using H2.out.1, H2.out.2⟩
      · go_enter Tryd.func24, Tryd.ntmps24
        go_wp2_with (first
          | (go_at_call 17; (with_reducible refine hoff.mono ?_); rintro e w' ⟨rfl, rfl⟩))
        go_ret
        exact ⟨_, rfl, .inl rfl, by simp [IsRes, stepE, DK.may, h0], by rw [show DK.step ⟨firm, pend, fuel, false⟩ = ⟨firm, pend, fuel, false⟩ by unfold DK.step; rw [if_neg (by simp), if_neg h0, if_neg (by show ¬ 0 < fuel; omega)]]; exact H.out, But.refl _ _⟩
end
end Go.Proofs.YtjmjfgbpjecgfaaDoor
