/-
  flow: New.
-/
import Derived.Test.YtjmpjdahkliheaaFloState
namespace Go.Proofs.Ytjmpjdahkliheaa
set_option linter.unusedVariables false
set_option linter.unusedSimpArgs false
open Go.RowKit

/-- May a command begin so? -/
def okN (first need : Int) (ready tog : Bool) (len : Nat) (final : Bool) : Bool :=
  decide (0 ≤ need) && decide ((len : Int) ≤ need) && (decide (len = 0) || tog) && decide ((len : Int) ≤ first) && (final || (!ready && decide ((len : Int) < min first need)))
theorem okN_iff (first need : Int) (ready tog : Bool) (len : Nat) (final : Bool) : okN first need ready tog len final = true ↔
    0 ≤ need ∧ (len : Int) ≤ need ∧ (len = 0 ∨ tog = true) ∧ (len : Int) ≤ first ∧ (final = true ∨ (ready = false ∧ (len : Int) < first ∧ (len : Int) < need)) := by
  simp [okN, and_assoc]
  intro _ _ _ _
  have : (len : Int) < min first need ↔ (len : Int) < first ∧ (len : Int) < need := by omega
  rw [this]
theorem okN_not {first need : Int} {ready tog : Bool} {len : Nat} {final : Bool} (h : ¬ (0 ≤ need ∧ (len : Int) ≤ need ∧ (len = 0 ∨ tog = true) ∧ (len : Int) ≤ first ∧ (final = true ∨ (ready = false ∧ (len : Int) < first ∧ (len : Int) < need)))) : okN first need ready tog len final = false :=
  Bool.eq_false_iff.2 fun hh => h ((okN_iff ..).1 hh)
def newS (first need : Int) (m : List Nat) (final : Bool) : FS := ⟨m, bif final then -1 else min first need, 0, 0, false⟩
theorem fine_new {first need : Int} {ready tog : Bool} {m : List Nat} {final : Bool} (h : okN first need ready tog m.length final = true) (hn : need < 9223372036854775808) : Fine need (newS first need m final) := by
  obtain ⟨h1, h2, h3, h4, h5⟩ := (okN_iff ..).1 h
  refine ⟨h1, hn, h2, ?_, ?_, by simp [newS], by simp [newS], by simp [newS], by simp [newS]⟩
  · cases final <;> simp [newS] <;> omega
  · cases final <;> simp [newS] <;> omega

theorem new_own {w1 W : World} {b : Nat} {v : Value} {m : List Nat} (ho : Own w1 (b + 2) v ([] ++ m)) (hb : But (fun k => k = b + 1) w1 W) : Own W b v m ∧ v.ownBlock ≠ some (b + 1) := by
  have hl := ho.base_le
  have hne : v.ownBlock ≠ some (b + 1) := fun e => by have := hl _ e; omega
  exact ⟨(hb.own ho fun k hk e => hne (by rw [hk, e])).mono (by omega), hne⟩

theorem isFlow_new {d0 d1 d2 d3 d6 d7 : Value} {burst first need ak : Int} {ready tog op : Bool} {final : Bool} {m : List Nat} {W : World} {b : Nat} {v : Value} (hok : okN first need ready tog m.length final = true) (hn1 : need < 9223372036854775808)
    (hb : IsBlk W (b + 1) #[d0, d1, d2, d3, .int .i64 burst, .int .i64 first, d6, d7, .int .i64 need, v, .int .i64 ak, .bool op, .int .u32 0, .int .u32 0, .bool false] 58) (hop : op = !final) (hak : final = true ∨ ak = min first need)
    (ho : Own W b v m ∧ v.ownBlock ≠ some (b + 1)) : IsFlow W b (b + 1) v burst need (newS first need m final) := by
  obtain ⟨h1, h2, h3, h4, h5⟩ := (okN_iff ..).1 hok
  have hd : decide (0 ≤ (newS first need m final).fin) = op := by
    subst hop
    cases final
    · have : 0 ≤ min first need := by omega
      simp only [newS, cond_false, this, decide_true, Bool.not_false]
    · simp [newS]
  refine ⟨⟨d0, d1, d2, d3, .int .i64 first, d6, d7, ak, ?_, ?_⟩, ho.1, ho.2, by omega, fine_new hok hn1⟩
  · rw [hd]; exact hb
  · cases final
    · intro _; simp [newS]; simpa using hak
    · intro h; simp [newS] at h

set_option maxHeartbeats 8000000 in
theorem new_walk (d0 d3 burst first need : Int) (d1 d2 ready tog final : Bool) (A : Option Addr) (n c : Nat) (m : List Nat) (w : World) (Q : Ending → World → Prop)
    (HL : Hid (n = m.length)) (hm : IsBytes w A m) (hc0 : A = none → c = 0) (hl2 : n ≤ 100000) (hn1 : need < 9223372036854775808)
    (HN : Hid (okN first need ready tog m.length final = false → ∀ W, Below w.heap.size w W → Q (.returned (.tuple #[.pointer none, .bool false])) W))
    (HY : Hid (okN first need ready tog m.length final = true → ∀ W v, Below w.heap.size w W → IsFlow W w.heap.size (w.heap.size + 1) v burst need (newS first need m final) → Q (.returned (.tuple #[.pointer (some ⟨w.heap.size + 1, 0, none⟩), .bool true])) W)) :
    Calls Try.prog 12 #[.agg #[.int .i64 d0, .bool d1, .bool d2, .int .i64 d3, .int .i64 burst, .int .i64 first, .bool ready, .bool tog], .int .i64 need, .slice A n c, .bool final] w Q := by
  have HM := Lib.hid hm
  clear hm
  obtain ⟨mn, hmn⟩ : ∃ mn, min first need = mn := ⟨_, rfl⟩
  have HMN := Lib.hid hmn
  by_cases hmin : need < first
  · obtain rfl : need = mn := by omega
    clear hmn
    cases final
    all_goals
      go_enter Try.func12, Try.ntmps12
      go_wp2_with (first
        | (at_builtin; refine wpList_app' rfl (.const (.slice none 0 0)) (.tmp 60) rfl (w.heap.size + 2) (.slice none 0 0) [] rfl (Own.nil _ _) A _ c m rfl (by have := HL.out; omega) ((HM.out.alloc _).alloc _) hc0 (by have := HL.out; simp; omega) (by simp) ?_; intro v' w1 ho1 hb1 hg1 hv1; obtain ⟨a2, len2, cap2, rfl, hlen2⟩ := ho1.slice; have hk1 := (IsBlk.new (w.alloc _) _ 58).grown hg1 (by simp [Value.ownBlock]); simp only [World.size_alloc] at hk1; have f9 := hk1.cell 9 rfl; have f10 := hk1.cell 10 rfl; have f11 := hk1.cell 11 rfl; have hfz1 := hk1.fz; have HK1 := Lib.hid hk1; have HO1 := Lib.hid ho1; have HG1 := Lib.hid hb1; clear hk1 ho1 hb1 hg1 hv1)
        | go_in)
    all_goals (try (have e := ‹tog = true›; subst e))
    all_goals (try (have e : tog = false := (by simpa using ‹¬ tog = true›); subst e))
    all_goals (try (have e := ‹ready = true›; subst e))
    all_goals (try (have e : ready = false := (by simpa using ‹¬ ready = true›); subst e))
    all_goals first
      | (refine HN.out (okN_not fun hh => ?_) _ (((Below.refl _ _).alloc (Nat.le_refl _) _).alloc (by simp) _); have hL := HL.out; have hM := HMN.out; clear HN HY HM HL HMN; rw [← hL] at hh; simp at hh <;> omega)
      | (refine (fun hok => HY.out hok _ _ ?_ (isFlow_new hok hn1 ((((HK1.out.set 9 _).set 10 _).set 10 _).set 11 _) rfl (.inr HMN.out.symm) (new_own HO1.out ((((((But.refl (fun k => k = w.heap.size + 1) w1).setCell (p := ⟨w.heap.size + 1, 9, none⟩) rfl _).setCell (p := ⟨w.heap.size + 1, 10, none⟩) rfl _).setCell (p := ⟨w.heap.size + 1, 10, none⟩) rfl _).setCell (p := ⟨w.heap.size + 1, 11, none⟩) rfl _))))) ((okN_iff ..).2 ?_)
         · exact (((((((Below.refl _ _).alloc (Nat.le_refl _) _).alloc (by simp) _).trans (HG1.out.mono (by omega))).setCell (by simp) _).setCell (by simp) _).setCell (by simp) _).setCell (by simp) _
         · have hL := HL.out; have hM := HMN.out; clear HN HY HM HL HMN HO1 HK1 HG1; rw [← hL]; simp <;> omega)
      | (refine (fun hok => HY.out hok _ _ ?_ (isFlow_new hok hn1 ((HK1.out.set 9 _).set 10 _) rfl (.inl rfl) (new_own HO1.out (((But.refl (fun k => k = w.heap.size + 1) w1).setCell (p := ⟨w.heap.size + 1, 9, none⟩) rfl _).setCell (p := ⟨w.heap.size + 1, 10, none⟩) rfl _)))) ((okN_iff ..).2 ?_)
         · exact (((((Below.refl _ _).alloc (Nat.le_refl _) _).alloc (by simp) _).trans (HG1.out.mono (by omega))).setCell (by simp) _).setCell (by simp) _
         · have hL := HL.out; have hM := HMN.out; clear HN HY HM HL HMN HO1 HK1 HG1; rw [← hL]; simp <;> omega)
      | skip
    go_ways
  · obtain rfl : first = mn := by omega
    clear hmn
    cases final
    all_goals
      go_enter Try.func12, Try.ntmps12
      go_wp2_with (first
        | (at_builtin; refine wpList_app' rfl (.const (.slice none 0 0)) (.tmp 60) rfl (w.heap.size + 2) (.slice none 0 0) [] rfl (Own.nil _ _) A _ c m rfl (by have := HL.out; omega) ((HM.out.alloc _).alloc _) hc0 (by have := HL.out; simp; omega) (by simp) ?_; intro v' w1 ho1 hb1 hg1 hv1; obtain ⟨a2, len2, cap2, rfl, hlen2⟩ := ho1.slice; have hk1 := (IsBlk.new (w.alloc _) _ 58).grown hg1 (by simp [Value.ownBlock]); simp only [World.size_alloc] at hk1; have f9 := hk1.cell 9 rfl; have f10 := hk1.cell 10 rfl; have f11 := hk1.cell 11 rfl; have hfz1 := hk1.fz; have HK1 := Lib.hid hk1; have HO1 := Lib.hid ho1; have HG1 := Lib.hid hb1; clear hk1 ho1 hb1 hg1 hv1)
        | go_in)
    all_goals (try (have e := ‹tog = true›; subst e))
    all_goals (try (have e : tog = false := (by simpa using ‹¬ tog = true›); subst e))
    all_goals (try (have e := ‹ready = true›; subst e))
    all_goals (try (have e : ready = false := (by simpa using ‹¬ ready = true›); subst e))
    all_goals first
      | (refine HN.out (okN_not fun hh => ?_) _ (((Below.refl _ _).alloc (Nat.le_refl _) _).alloc (by simp) _); have hL := HL.out; have hM := HMN.out; clear HN HY HM HL HMN; rw [← hL] at hh; simp at hh <;> omega)
      | (refine (fun hok => HY.out hok _ _ ?_ (isFlow_new hok hn1 ((((HK1.out.set 9 _).set 10 _).set 10 _).set 11 _) rfl (.inr HMN.out.symm) (new_own HO1.out ((((((But.refl (fun k => k = w.heap.size + 1) w1).setCell (p := ⟨w.heap.size + 1, 9, none⟩) rfl _).setCell (p := ⟨w.heap.size + 1, 10, none⟩) rfl _).setCell (p := ⟨w.heap.size + 1, 10, none⟩) rfl _).setCell (p := ⟨w.heap.size + 1, 11, none⟩) rfl _))))) ((okN_iff ..).2 ?_)
         · exact (((((((Below.refl _ _).alloc (Nat.le_refl _) _).alloc (by simp) _).trans (HG1.out.mono (by omega))).setCell (by simp) _).setCell (by simp) _).setCell (by simp) _).setCell (by simp) _
         · have hL := HL.out; have hM := HMN.out; clear HN HY HM HL HMN HO1 HK1 HG1; rw [← hL]; simp <;> omega)
      | (refine (fun hok => HY.out hok _ _ ?_ (isFlow_new hok hn1 ((HK1.out.set 9 _).set 10 _) rfl (.inl rfl) (new_own HO1.out (((But.refl (fun k => k = w.heap.size + 1) w1).setCell (p := ⟨w.heap.size + 1, 9, none⟩) rfl _).setCell (p := ⟨w.heap.size + 1, 10, none⟩) rfl _)))) ((okN_iff ..).2 ?_)
         · exact (((((Below.refl _ _).alloc (Nat.le_refl _) _).alloc (by simp) _).trans (HG1.out.mono (by omega))).setCell (by simp) _).setCell (by simp) _
         · have hL := HL.out; have hM := HMN.out; clear HN HY HM HL HMN HO1 HK1 HG1; rw [← hL]; simp <;> omega)
      | skip
    go_ways
end Go.Proofs.Ytjmpjdahkliheaa
