/-
  flow: New, of the reference.
-/
import Derived.Test.YtjmpjdahkliheaaFloNew
namespace Go.Proofs.Ytjmpjdahkliheaa
set_option linter.unusedVariables false
set_option linter.unusedSimpArgs false
open Go.RowKit

theorem isFlowR_new {d0 d1 d2 d3 d6 d7 : Value} {burst first need fin : Int} {ready tog : Bool} {final : Bool} {m : List Nat} {W : World} {b fb : Nat} {v : Value} (hok : okN first need ready tog m.length final = true) (hn1 : need < 9223372036854775808)
    (hb : IsBlk W fb #[d0, d1, d2, d3, .int .i64 burst, .int .i64 first, d6, d7, .int .i64 need, v, .int .i64 fin, .int .u32 0, .int .u32 0, .bool false] 54) (hfin : (final = true ∧ fin = -1) ∨ (final = false ∧ fin = min first need))
    (ho : Own W b v m) (hn : v.ownBlock ≠ some fb) (hf : b ≤ fb) : IsFlowR W b fb v burst need (newS first need m final) := by
  have hd : (newS first need m final).fin = fin := by
    rcases hfin with ⟨rfl, rfl⟩ | ⟨rfl, rfl⟩ <;> simp [newS]
  refine ⟨⟨d0, d1, d2, d3, .int .i64 first, d6, d7, ?_⟩, ho, hn, hf, fine_new hok hn1⟩
  rw [hd]; exact hb

theorem newR_own {w1 W : World} {b : Nat} {v : Value} {m : List Nat} (ho : Own w1 (b + 1) v ([] ++ m)) (hb : But (fun k => k = w1.heap.size) w1 W) : Own W b v m ∧ v.ownBlock ≠ some w1.heap.size := by
  have hl := ho.lt
  have hne : v.ownBlock ≠ some w1.heap.size := fun e => by have := hl _ e; omega
  exact ⟨(hb.own ho fun k hk e => hne (by rw [hk, e])).mono (by omega), hne⟩
theorem isFlowR_new' {d0 d1 d2 d3 d6 d7 : Value} {burst first need fin : Int} {ready tog : Bool} {final : Bool} {m : List Nat} {w w1 W : World} {v : Value} (hok : okN first need ready tog m.length final = true) (hn1 : need < 9223372036854775808)
    (hb : IsBlk W w1.heap.size #[d0, d1, d2, d3, .int .i64 burst, .int .i64 first, d6, d7, .int .i64 need, v, .int .i64 fin, .int .u32 0, .int .u32 0, .bool false] 54) (hfin : (final = true ∧ fin = -1) ∨ (final = false ∧ fin = min first need))
    (ho : Own w1 (w.heap.size + 1) v ([] ++ m)) (hz : w.heap.size < w1.heap.size) (hB : But (fun k => k = w1.heap.size) w1 W) : IsFlowR W w.heap.size w1.heap.size v burst need (newS first need m final) :=
  isFlowR_new hok hn1 hb hfin (newR_own ho hB).1 (newR_own ho hB).2 (by omega)

set_option maxHeartbeats 8000000 in
theorem newR_walk (d0 d3 burst first need : Int) (d1 d2 ready tog final : Bool) (A : Option Addr) (n c : Nat) (m : List Nat) (w : World) (Q : Ending → World → Prop)
    (HL : Hid (n = m.length)) (hm : IsBytes w A m) (hc0 : A = none → c = 0) (hl2 : n ≤ 100000) (hn1 : need < 9223372036854775808)
    (HN : Hid (okN first need ready tog m.length final = false → ∀ W, Below w.heap.size w W → Q (.returned (.tuple #[.pointer none, .bool false])) W))
    (HY : Hid (okN first need ready tog m.length final = true → ∀ W fb v, Below w.heap.size w W → IsFlowR W w.heap.size fb v burst need (newS first need m final) → Q (.returned (.tuple #[.pointer (some ⟨fb, 0, none⟩), .bool true])) W)) :
    Calls Try.prog 13 #[.agg #[.int .i64 d0, .bool d1, .bool d2, .int .i64 d3, .int .i64 burst, .int .i64 first, .bool ready, .bool tog], .int .i64 need, .slice A n c, .bool final] w Q := by
  have HM := Lib.hid hm
  clear hm
  obtain ⟨mn, hmn⟩ : ∃ mn, min first need = mn := ⟨_, rfl⟩
  have HMN := Lib.hid hmn
  by_cases hmin : need < first
  · obtain rfl : need = mn := by omega
    clear hmn
    cases final
    all_goals
      go_enter Try.func13, Try.ntmps13
      go_wp2
      all_goals (try (have e : tog = true := (by simpa using ‹(!tog) = false›); subst e))
      all_goals (try (exact HN.out (okN_not fun hh => by have hL := HL.out; have hM := HMN.out; clear HN HY HM HL HMN; rw [← hL] at hh; clear hL; cases tog <;> simp_all <;> omega) _ ((Below.refl _ _).alloc (Nat.le_refl _) _)))
      all_goals
        go_region_law (refine step_app' (by rfl) _ _ (by rfl) (w.heap.size + 1) (.slice none 0 0) [] (by rfl) (Own.nil _ _) A _ c m (by rfl) (by have := HL.out; omega) (by exact HM.out.alloc _) hc0 (by have := HL.out; simp; omega) (by simp) ?_
                       intro v1 W1 ho1 hb1 hg1
                       obtain ⟨a2, len2, cap2, rfl, hlen2⟩ := ho1.slice
                       have hd1 := ((IsBlk.new w _ _).drew).below hb1 (Nat.lt_succ_self _)
                       have f0 := hd1.cell 0 rfl
                       have f1 := hd1.cell 1 rfl
                       have f2 := hd1.cell 2 rfl
                       have f3 := hd1.cell 3 rfl
                       have f4 := hd1.cell 4 rfl
                       have f5 := hd1.cell 5 rfl
                       have f6 := hd1.cell 6 rfl
                       have f7 := hd1.cell 7 rfl
                       have hz1 : w.heap.size < W1.heap.size := hd1.lt
                       have hz2 : w.heap.size ≠ W1.heap.size := by omega
                       have HD1 := Lib.hid hd1
                       have HO1 := Lib.hid ho1
                       have HB1 := Lib.hid hb1
                       clear hd1 ho1 hb1 hg1)
        go_wp2
      all_goals (try (have e := ‹ready = true›; subst e))
      all_goals (try (have e : ready = false := (by simpa using ‹¬ ready = true›); subst e))
      all_goals first
        | (refine HN.out (okN_not fun hh => ?_) _ (((((Below.refl _ _).alloc (Nat.le_refl _) _).drew.trans (HB1.out.mono (by omega))).alloc (Nat.le_of_lt hz1) _)); have hL := HL.out; have hM := HMN.out; clear HN HY HM HL HMN HO1 HB1 HD1; rw [← hL] at hh; clear hL; cases tog <;> simp_all <;> omega)
        | (refine (fun hok => HY.out hok _ _ _ (((((Below.refl _ _).alloc (Nat.le_refl _) _).drew.trans (HB1.out.mono (by omega))).alloc (Nat.le_of_lt hz1) _)) (isFlowR_new' hok hn1 (IsBlk.new W1 _ _) (.inr ⟨rfl, HMN.out.symm⟩) HO1.out hz1 ((But.refl _ W1).alloc _))) ((okN_iff ..).2 ?_)
           have hL := HL.out; have hM := HMN.out; clear HN HY HM HL HMN HO1 HB1 HD1; rw [← hL]; clear hL; cases tog <;> simp_all <;> omega)
        | (refine (fun hok => HY.out hok _ _ _ ((((Below.refl _ _).alloc (Nat.le_refl _) _).drew.trans (HB1.out.mono (by omega))).alloc (Nat.le_of_lt hz1) _) (isFlowR_new' hok hn1 (IsBlk.new W1 _ _) (.inl ⟨rfl, rfl⟩) HO1.out hz1 ((But.refl _ W1).alloc _))) ((okN_iff ..).2 ?_)
           have hL := HL.out; have hM := HMN.out; clear HN HY HM HL HMN HO1 HB1 HD1; rw [← hL]; clear hL; cases tog <;> simp_all <;> omega)
        | skip
    go_ways
  · obtain rfl : first = mn := by omega
    clear hmn
    cases final
    all_goals
      go_enter Try.func13, Try.ntmps13
      go_wp2
      all_goals (try (have e : tog = true := (by simpa using ‹(!tog) = false›); subst e))
      all_goals (try (exact HN.out (okN_not fun hh => by have hL := HL.out; have hM := HMN.out; clear HN HY HM HL HMN; rw [← hL] at hh; clear hL; cases tog <;> simp_all <;> omega) _ ((Below.refl _ _).alloc (Nat.le_refl _) _)))
      all_goals
        go_region_law (refine step_app' (by rfl) _ _ (by rfl) (w.heap.size + 1) (.slice none 0 0) [] (by rfl) (Own.nil _ _) A _ c m (by rfl) (by have := HL.out; omega) (by exact HM.out.alloc _) hc0 (by have := HL.out; simp; omega) (by simp) ?_
                       intro v1 W1 ho1 hb1 hg1
                       obtain ⟨a2, len2, cap2, rfl, hlen2⟩ := ho1.slice
                       have hd1 := ((IsBlk.new w _ _).drew).below hb1 (Nat.lt_succ_self _)
                       have f0 := hd1.cell 0 rfl
                       have f1 := hd1.cell 1 rfl
                       have f2 := hd1.cell 2 rfl
                       have f3 := hd1.cell 3 rfl
                       have f4 := hd1.cell 4 rfl
                       have f5 := hd1.cell 5 rfl
                       have f6 := hd1.cell 6 rfl
                       have f7 := hd1.cell 7 rfl
                       have hz1 : w.heap.size < W1.heap.size := hd1.lt
                       have hz2 : w.heap.size ≠ W1.heap.size := by omega
                       have HD1 := Lib.hid hd1
                       have HO1 := Lib.hid ho1
                       have HB1 := Lib.hid hb1
                       clear hd1 ho1 hb1 hg1)
        go_wp2
      all_goals (try (have e := ‹ready = true›; subst e))
      all_goals (try (have e : ready = false := (by simpa using ‹¬ ready = true›); subst e))
      all_goals first
        | (refine HN.out (okN_not fun hh => ?_) _ (((((Below.refl _ _).alloc (Nat.le_refl _) _).drew.trans (HB1.out.mono (by omega))).alloc (Nat.le_of_lt hz1) _)); have hL := HL.out; have hM := HMN.out; clear HN HY HM HL HMN HO1 HB1 HD1; rw [← hL] at hh; clear hL; cases tog <;> simp_all <;> omega)
        | (refine (fun hok => HY.out hok _ _ _ (((((Below.refl _ _).alloc (Nat.le_refl _) _).drew.trans (HB1.out.mono (by omega))).alloc (Nat.le_of_lt hz1) _)) (isFlowR_new' hok hn1 (IsBlk.new W1 _ _) (.inr ⟨rfl, HMN.out.symm⟩) HO1.out hz1 ((But.refl _ W1).alloc _))) ((okN_iff ..).2 ?_)
           have hL := HL.out; have hM := HMN.out; clear HN HY HM HL HMN HO1 HB1 HD1; rw [← hL]; clear hL; cases tog <;> simp_all <;> omega)
        | (refine (fun hok => HY.out hok _ _ _ ((((Below.refl _ _).alloc (Nat.le_refl _) _).drew.trans (HB1.out.mono (by omega))).alloc (Nat.le_of_lt hz1) _) (isFlowR_new' hok hn1 (IsBlk.new W1 _ _) (.inl ⟨rfl, rfl⟩) HO1.out hz1 ((But.refl _ W1).alloc _))) ((okN_iff ..).2 ?_)
           have hL := HL.out; have hM := HMN.out; clear HN HY HM HL HMN HO1 HB1 HD1; rw [← hL]; clear hL; cases tog <;> simp_all <;> omega)
        | skip
    go_ways
end Go.Proofs.Ytjmpjdahkliheaa
