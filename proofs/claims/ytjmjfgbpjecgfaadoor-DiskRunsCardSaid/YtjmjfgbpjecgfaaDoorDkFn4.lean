/-
  disk: Write, whatever comes.
-/
import Derived.Test.YtjmjfgbpjecgfaaDoorDkFn3
namespace Go.Proofs.YtjmjfgbpjecgfaaDoor
set_option linter.unusedVariables false
set_option linter.unusedSimpArgs false
open Go.RowKit

section
variable {w : World} {base db fb mb cap : Nat} {cv : Value} {d : DK}

theorem step_no (h : IsDk w base db fb mb cap cv d) (hm : d.may = false) : Calls Tryd.prog 24 #[.pointer (some ⟨db, 0, none⟩)] w fun e w' => ∃ b, e = .returned (.iface 75 (.pointer (some ⟨b, 0, none⟩))) ∧ IsRes w' (.iface 75 (.pointer (some ⟨b, 0, none⟩))) 10 ∧ IsDk w' base db fb mb cap cv d.step ∧ But (fun k => k = db) w w' := by
  refine (step_any h).mono ?_
  rintro e w' ⟨v, rfl, hv, hr, h1, h2⟩
  have hs : stepE d = 10 := by unfold stepE; rw [hm]; rfl
  rw [hs] at hr
  rcases hv with rfl | ⟨b, rfl, _⟩
  · simp [IsRes] at hr
  · exact ⟨b, rfl, hr, h1, h2⟩

set_option maxHeartbeats 4000000 in
theorem write_no (h : IsDk w base db fb mb cap cv d) (i : Int) (p : List Nat) (hm : d.may = false) (hb : d.off = false → d.bad i = false) : Calls Tryd.prog 11 #[.pointer (some ⟨db, 0, none⟩), .int .i64 i, pgV p] w fun e w' => ∃ v, e = .returned v ∧ IsRes w' v 10 ∧ IsDk w' base db fb mb cap cv d.step ∧ But (wrS db mb cv) w w' := by
  go_enter Tryd.func11, Tryd.ntmps11
  unfold pgV
  go_upto_region 1 with fail
  change Code.wp _ _ _ _ (w.alloc (.cells (nv .u8 p) 33))
  have hw : NewPg w (w.alloc (.cells (nv .u8 p) 33)) p := ⟨IsBlk.new _ _ _, (Below.refl _ _).alloc (Nat.le_refl _) _, by simp⟩
  generalize w.alloc (.cells (nv .u8 p) 33) = w1 at hw ⊢
  have h1 := h.below hw.below
  have hoff := off_any h1
  have c0 := h1.c0
  have hst := step_no h1 hm
  have hn2 := h.n2
  have HW := Lib.hid hw
  clear h h1 hw hm
  cases ho : d.off with
  | true =>
    rw [ho] at hoff
    clear ho hb
    go_wp2_with (first
      | (go_at_call 17; (with_reducible refine hoff.mono ?_); rintro e w' ⟨rfl, rfl⟩)
      | (go_at_call 24; (with_reducible refine hst.mono ?_); rintro e w2 ⟨b, rfl, hr, h2, hb2⟩; have H2 := Lib.hid (And.intro hr (And.intro h2 hb2)); clear hr h2 hb2))
    go_ret
    exact ⟨_, rfl, H2.out.1, H2.out.2.1, (But.of_below HW.out.below (Nat.le_refl _)).trans (H2.out.2.2.mono (fun k hk => .inl hk))⟩
  | false =>
    rw [ho] at hoff
    have hb' := hb ho
    simp only [DK.bad, Bool.or_eq_false_iff, decide_eq_false_iff_not] at hb'
    obtain ⟨k, rfl⟩ : ∃ k : Nat, i = (k : Int) := ⟨i.toNat, by omega⟩
    have hk : k < d.firm.length := by omega
    clear ho hb hb'
    go_wp2_with (first
      | (go_at_call 17; (with_reducible refine hoff.mono ?_); rintro e w' ⟨rfl, rfl⟩)
      | (go_at_call 24; (with_reducible refine hst.mono ?_); rintro e w2 ⟨b, rfl, hr, h2, hb2⟩; have H2 := Lib.hid (And.intro hr (And.intro h2 hb2)); clear hr h2 hb2))
    go_ret
    exact ⟨_, rfl, H2.out.1, H2.out.2.1, (But.of_below HW.out.below (Nat.le_refl _)).trans (H2.out.2.2.mono (fun k hk => .inl hk))⟩

set_option maxHeartbeats 4000000 in
theorem write_bad (h : IsDk w base db fb mb cap cv d) (i : Int) (p : List Nat) (ho : d.off = false) (hb : d.bad i = true) : Calls Tryd.prog 11 #[.pointer (some ⟨db, 0, none⟩), .int .i64 i, pgV p] w fun e w' => ∃ v, e = .returned v ∧ IsRes w' v 1 ∧ IsDk w' base db fb mb cap cv d ∧ But (wrS db mb cv) w w' := by
  have hb' : i < 0 ∨ (0 ≤ i ∧ (d.firm.length : Int) ≤ i) := by
    simp only [DK.bad, Bool.or_eq_true, decide_eq_true_eq] at hb
    omega
  go_enter Tryd.func11, Tryd.ntmps11
  unfold pgV
  go_upto_region 1 with fail
  change Code.wp _ _ _ _ (w.alloc (.cells (nv .u8 p) 33))
  have hw : NewPg w (w.alloc (.cells (nv .u8 p) 33)) p := ⟨IsBlk.new _ _ _, (Below.refl _ _).alloc (Nat.le_refl _) _, by simp⟩
  generalize w.alloc (.cells (nv .u8 p) 33) = w1 at hw ⊢
  have h1 := h.below hw.below
  have hoff := off_any h1
  have c0 := h1.c0
  rw [ho] at hoff
  have hn2 := h.n2
  have HW := Lib.hid (And.intro hw h1)
  clear h h1 hw ho hb
  rcases hb' with hneg | ⟨hpos, hge⟩
  · go_wp2_with (first
      | (go_at_call 17; (with_reducible refine hoff.mono ?_); rintro e w' ⟨rfl, rfl⟩)
      | (go_at_call 23; (with_reducible refine (in_arg _).mono ?_); rintro e w2 ⟨v, rfl, ⟨b, rfl, _⟩, hr, hb2⟩; have HR := Lib.hid (And.intro hr hb2); clear hr hb2))
    go_ret
    exact ⟨_, rfl, HR.out.1, HW.out.2.below HR.out.2, (But.of_below HW.out.1.below (Nat.le_refl _)).trans (But.of_below HR.out.2 (Nat.le_refl _))⟩
  · have hneg : ¬ i < 0 := by omega
    go_wp2_with (first
      | (go_at_call 17; (with_reducible refine hoff.mono ?_); rintro e w' ⟨rfl, rfl⟩)
      | (go_at_call 23; (with_reducible refine (in_arg _).mono ?_); rintro e w2 ⟨v, rfl, ⟨b, rfl, _⟩, hr, hb2⟩; have HR := Lib.hid (And.intro hr hb2); clear hr hb2))
    go_ret
    exact ⟨_, rfl, HR.out.1, HW.out.2.below HR.out.2, (But.of_below HW.out.1.below (Nat.le_refl _)).trans (But.of_below HR.out.2 (Nat.le_refl _))⟩

/-- Write, whatever comes. -/
theorem write_any (h : IsDk w base db fb mb cap cv d) (i : Int) (p : List Nat) (hp : p.length = 64) (hl : d.pend.length < 1000000) (hbase : base ≤ w.heap.size) : Calls Tryd.prog 11 #[.pointer (some ⟨db, 0, none⟩), .int .i64 i, pgV p] w fun e w' => ∃ v cv', e = .returned v ∧ IsRes w' v (d.writeE i) ∧ IsDk w' base db fb mb cap cv' (d.write i p) ∧ But (wrS db mb cv) w w' ∧ (cv'.ownBlock = cv.ownBlock ∨ ∃ k, cv'.ownBlock = some k ∧ w.heap.size ≤ k) := by
  cases ho : d.off with
  | true =>
    have hm : d.may = false := by simp [DK.may, ho]
    have e1 : d.writeE i = 10 := by simp [DK.writeE, ho]
    have e2 : d.write i p = d := by simp [DK.write, ho]
    have e3 : d.step = d := by simp [DK.step, ho]
    rw [e1, e2]
    refine (write_no h i p hm (fun h => by rw [ho] at h; cases h)).mono ?_
    rintro e w' ⟨v, rfl, h1, h2, h3⟩
    rw [e3] at h2
    exact ⟨v, cv, rfl, h1, h2, h3, .inl rfl⟩
  | false =>
    cases hb : d.bad i with
    | true =>
      have e1 : d.writeE i = 1 := by simp [DK.writeE, ho, hb]
      have e2 : d.write i p = d := by simp [DK.write, ho, hb]
      rw [e1, e2]
      exact (write_bad h i p ho hb).mono fun e w' ⟨v, h0, h1, h2, h3⟩ => ⟨v, cv, h0, h1, h2, h3, .inl rfl⟩
    | false =>
      cases hm : d.may with
      | false =>
        have e1 : d.writeE i = 10 := by simp [DK.writeE, ho, hb, hm]
        have e2 : d.write i p = d.step := by simp [DK.write, ho, hb, hm]
        rw [e1, e2]
        exact (write_no h i p hm (fun _ => hb)).mono fun e w' ⟨v, h0, h1, h2, h3⟩ => ⟨v, cv, h0, h1, h2, h3, .inl rfl⟩
      | true =>
        have e1 : d.writeE i = 0 := by simp [DK.writeE, ho, hb, hm]
        simp only [DK.bad, Bool.or_eq_false_iff, decide_eq_false_iff_not] at hb
        obtain ⟨k, rfl⟩ : ∃ k : Nat, i = (k : Int) := ⟨i.toNat, by omega⟩
        have hbad : d.bad (k : Int) = false := by simp only [DK.bad, Bool.or_eq_false_iff, decide_eq_false_iff_not]; omega
        have e2 : d.write (k : Int) p = d.step.put k p := by
          simp only [DK.write, ho, hbad, hm, if_true, DK.put, Int.toNat_natCast, (step_firm d).2]
          rfl
        rw [e1, e2]
        refine (write_ok h k p hp ho (by omega) hm hl hbase).mono ?_
        rintro e w' ⟨rfl, cv', h1, h2, h3⟩
        exact ⟨_, cv', rfl, rfl, h1, h2, h3⟩

/-! A disk that is none. -/
theorem step_nil (w : World) : Calls Tryd.prog 24 #[.pointer none] w fun e w' => ∃ b, e = .returned (.iface 75 (.pointer (some ⟨b, 0, none⟩))) ∧ IsRes w' (.iface 75 (.pointer (some ⟨b, 0, none⟩))) 10 ∧ Below w.heap.size w w' := by
  go_enter Tryd.func24, Tryd.ntmps24
  go_wp2_with (first
    | (go_at_call 17; (with_reducible refine (off_nil _).mono ?_); rintro e w' ⟨rfl, rfl⟩)
    | (go_at_call 23; (with_reducible refine (in_off _).mono ?_); rintro e w' ⟨v, rfl, ⟨b, rfl, _⟩, hr, hb⟩))
  go_ret
  exact ⟨_, rfl, hr, hb⟩
theorem write_nil (i : Int) (p : List Nat) (w : World) : Calls Tryd.prog 11 #[.pointer none, .int .i64 i, pgV p] w fun e w' => ∃ v, e = .returned v ∧ IsRes w' v 10 ∧ Below w.heap.size w w' := by
  go_enter Tryd.func11, Tryd.ntmps11
  unfold pgV
  go_upto_region 1 with fail
  change Code.wp _ _ _ _ (w.alloc (.cells (nv .u8 p) 33))
  have hw : Below w.heap.size w (w.alloc (.cells (nv .u8 p) 33)) := (Below.refl _ _).alloc (Nat.le_refl _) _
  generalize w.alloc (.cells (nv .u8 p) 33) = w1 at hw ⊢
  have HW := Lib.hid hw
  clear hw
  go_wp2_with (first
    | (go_at_call 17; (with_reducible refine (off_nil _).mono ?_); rintro e w' ⟨rfl, rfl⟩)
    | (go_at_call 24; (with_reducible refine (step_nil _).mono ?_); rintro e w2 ⟨b, rfl, hr, hb2⟩; have H2 := Lib.hid (And.intro hr hb2); clear hr hb2))
  go_ret
  exact ⟨_, rfl, H2.out.1, HW.out.trans (H2.out.2.mono HW.out.size)⟩
theorem flush_nil (w : World) : Calls Tryd.prog 12 #[.pointer none] w fun e w' => ∃ v, e = .returned v ∧ IsRes w' v 10 ∧ Below w.heap.size w w' := by
  go_enter Tryd.func12, Tryd.ntmps12
  go_wp2_with (first
    | (go_at_call 24; (with_reducible refine (step_nil _).mono ?_); rintro e w2 ⟨b, rfl, hr, hb2⟩; have H2 := Lib.hid (And.intro hr hb2); clear hr hb2))
  go_ret
  exact ⟨_, rfl, H2.out.1, H2.out.2⟩
theorem size_nil (w : World) : Calls Tryd.prog 21 #[.pointer none] w fun e w' => e = .returned (.int .i64 0) ∧ w' = w := by
  go_enter Tryd.func21, Tryd.ntmps21
  go_wp2
  go_ret
  exact ⟨rfl, rfl⟩
theorem pending_nil (w : World) : Calls Tryd.prog 18 #[.pointer none] w fun e w' => e = .returned (.int .i64 0) ∧ w' = w := by
  go_enter Tryd.func18, Tryd.ntmps18
  go_wp2
  go_ret
  exact ⟨rfl, rfl⟩
theorem crash_nil (v : Value) (w : World) : Calls Tryd.prog 13 #[.pointer none, v] w fun e w' => e = .returned (.pointer none) ∧ w' = w := by
  go_enter Tryd.func13, Tryd.ntmps13
  go_wp2
  go_ret
  exact ⟨rfl, rfl⟩
end
end Go.Proofs.YtjmjfgbpjecgfaaDoor
