/-
  flow: Done, Data.
-/
import Derived.Test.YtjmpjdahkliheaaFloState
namespace Go.Proofs.Ytjmpjdahkliheaa
set_option linter.unusedVariables false
set_option linter.unusedSimpArgs false
open Go.RowKit

section
variable {w : World} {base fb : Nat} {v : Value} {burst need : Int} {s : FS}

set_option maxHeartbeats 2000000 in
theorem done_any (h : IsFlow w base fb v burst need s) :
    Calls Try.prog 18 #[.pointer (some ⟨fb, 0, none⟩)] w fun e w' => e = .returned (.bool (doneB s need)) ∧ ∃ n, w' = w.drewN n := by
  obtain ⟨⟨d0, d1, d2, d3, d5, d6, d7, ak, hk, ha⟩, ho, hn, hf, hs⟩ := h
  obtain ⟨D, fin, sn', turn, bad⟩ := s
  have e8 := hk.cell 8 rfl
  have e9 := hk.cell 9 rfl
  have e11 := hk.cell 11 rfl
  have e14 := hk.cell 14 rfl
  obtain ⟨a, cap, rfl, _⟩ := ho.form
  clear hk ho hn ha hf hs
  cases bad with
  | true =>
    go_enter Try.func18, Try.ntmps18
    go_wp2
    go_quiet (fail)
    go_wp2
    go_ret
    exact ⟨rfl, _, rfl⟩
  | false =>
    by_cases hfin : 0 ≤ fin
    · have hop : decide (0 ≤ fin) = true := by simp [hfin]
      have hd : doneB ⟨D, fin, sn', turn, false⟩ need = false := by simp [doneB]; omega
      have HD := Lib.hid hd
      simp only at e11
      rw [hop] at e11
      clear hd hop hfin
      go_enter Try.func18, Try.ntmps18
      go_wp2
      go_quiet (fail)
      go_wp2
      go_ret
      exact ⟨by rw [HD.out]; rfl, _, rfl⟩
    · have hop : decide (0 ≤ fin) = false := by simp [hfin]
      have hd : doneB ⟨D, fin, sn', turn, false⟩ need = decide ((D.length : Int) = need) := by simp [doneB]; omega
      have HD := Lib.hid hd
      simp only at e11
      rw [hop] at e11
      clear hd hop hfin
      go_enter Try.func18, Try.ntmps18
      go_wp2
      go_quiet (fail)
      go_wp2
      go_ret
      exact ⟨by rw [HD.out]; rfl, _, rfl⟩
theorem done_nil (w : World) :
    Calls Try.prog 18 #[.pointer none] w fun e w' => e = .returned (.bool false) ∧ ∃ n, w' = w.drewN n := by
  go_enter Try.func18, Try.ntmps18
  go_wp2
  go_quiet (fail)
  go_wp2
  go_ret
  exact ⟨rfl, _, rfl⟩

set_option maxHeartbeats 2000000 in
theorem doneR_any (h : IsFlowR w base fb v burst need s) :
    Calls Try.prog 19 #[.pointer (some ⟨fb, 0, none⟩)] w fun e w' => e = .returned (.bool (doneB s need)) ∧ ∃ n, w' = w.drewN n := by
  obtain ⟨⟨d0, d1, d2, d3, d5, d6, d7, hk⟩, ho, hn, hf, hs⟩ := h
  obtain ⟨D, fin, sn', turn, bad⟩ := s
  have e8 := hk.cell 8 rfl
  have e9 := hk.cell 9 rfl
  have e10 := hk.cell 10 rfl
  have e13 := hk.cell 13 rfl
  obtain ⟨a, cap, rfl, _⟩ := ho.form
  clear hk ho hn hf hs
  cases bad with
  | true =>
    go_enter Try.func19, Try.ntmps19
    go_wp2
    go_quiet (fail)
    go_wp2
    go_ret
    exact ⟨rfl, _, rfl⟩
  | false =>
    by_cases hfin : fin < 0
    · have hop : decide (fin < 0) = true := by simp [hfin]
      have hd : doneB ⟨D, fin, sn', turn, false⟩ need = decide ((D.length : Int) = need) := by simp [doneB]; omega
      have HD := Lib.hid hd
      clear hd hfin
      go_enter Try.func19, Try.ntmps19
      go_wp2
      go_quiet (fail)
      go_wp2
      go_ret
      exact ⟨by rw [HD.out]; rfl, _, rfl⟩
    · have hop : decide (fin < 0) = false := by simp [hfin]
      have hd : doneB ⟨D, fin, sn', turn, false⟩ need = false := by simp [doneB]; omega
      have HD := Lib.hid hd
      clear hd hfin
      go_enter Try.func19, Try.ntmps19
      go_wp2
      go_quiet (fail)
      go_wp2
      go_ret
      exact ⟨by rw [HD.out]; rfl, _, rfl⟩

/-- Data: a row of the call's own. -/
theorem data_any (h : IsFlow w base fb v burst need s) (hl : s.data.length ≤ 100000) :
    Calls Try.prog 20 #[.pointer (some ⟨fb, 0, none⟩)] w fun e w' => ∃ u, e = .returned u ∧ Own w' w.heap.size u s.data ∧ Below w.heap.size w w' := by
  obtain ⟨⟨d0, d1, d2, d3, d5, d6, d7, ak, hk, ha⟩, ho, hn, hf, hs⟩ := h
  obtain ⟨D, fin, sn', turn, bad⟩ := s
  have e9 := hk.cell 9 rfl
  obtain ⟨a, cap, rfl, hb, _, _, _⟩ := ho.form
  have hz := ho.capz
  have HB := Lib.hid hb
  have HZ := Lib.hid hz
  clear hk ho hn ha hf hs hb hz
  simp only at hl e9
  go_enter Try.func20, Try.ntmps20
  go_wp2_with (first
    | (at_builtin; refine wpList_app rfl (.const (.slice none 0 0)) (.tmp 8) rfl w.heap.size _ [] rfl (Own.nil _ _) a cap D rfl HB.out HZ.out (by simp; omega) (Nat.le_refl _) ?_; intro v' w1 ho1 hb1 hg1 hv1; have HO1 := Lib.hid ho1; have HB1 := Lib.hid hb1; clear ho1 hb1 hg1 hv1)
    | go_in)
  go_ret
  exact ⟨_, rfl, HO1.out, HB1.out⟩
theorem data_nil (w : World) :
    Calls Try.prog 20 #[.pointer none] w fun e w' => e = .returned (.slice none 0 0) ∧ w = w' := by
  go_enter Try.func20, Try.ntmps20
  go_wp2
  go_ret
  exact ⟨rfl, rfl⟩
end
end Go.Proofs.Ytjmpjdahkliheaa
