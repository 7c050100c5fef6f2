/-
  flow: Split's walks.
-/
import Derived.Test.YtjmpjdahkliheaaFloPlain
import Derived.WalkKit
import Derived.OwnWalk
import Derived.Lib.Hide
namespace Go.Proofs.Ytjmpjdahkliheaa
set_option linter.unusedVariables false
set_option linter.unusedSimpArgs false
open Go.RowKit

theorem split_none (n seg burst : Int) (h : n ≤ 0 ∨ seg < 1 ∨ burst < 1) (w : World) :
    Calls Try.prog 9 #[.int .i64 n, .int .i64 seg, .int .i64 burst] w fun e w' => e = .returned (.slice none 0 0) ∧ w' = w := by
  go_enter Try.func9, Try.ntmps9
  go_wp2
  all_goals first | (exfalso; omega) | (go_ret; exact ⟨rfl, rfl⟩) | skip

theorem splitR_none (n seg burst : Int) (h : n ≤ 0 ∨ seg < 1 ∨ burst < 1) (w : World) :
    Calls Try.prog 10 #[.int .i64 n, .int .i64 seg, .int .i64 burst] w fun e w' => e = .returned (.slice none 0 0) ∧ w' = w := by
  go_enter Try.func10, Try.ntmps10
  go_wp2
  all_goals first | (exfalso; omega) | (go_ret; exact ⟨rfl, rfl⟩) | skip

theorem info_P : ∃ i0, Try.prog.info? 28 = some i0 ∧ i0.zero = some (.agg #[.int .i64 0, .int .i64 0, .bool false]) ∧ i0.size = 3 ∧ i0.bytes = 24 := by
  have h := Try.infoP
  cases hi : Try.prog.info? 28 with
  | none => rw [hi] at h; simp at h
  | some i => rw [hi] at h; simp at h; exact ⟨i, rfl, h.1, h.2.1, h.2.2⟩
theorem info_R : ∃ i0, Try.prog.info? 29 = some i0 ∧ i0.zero = some (.agg #[.int .i64 0, .int .i64 0, .bool false]) ∧ i0.size = 3 ∧ i0.bytes = 24 := by
  have h := Try.infoR
  cases hi : Try.prog.info? 29 with
  | none => rw [hi] at h; simp at h
  | some i => rw [hi] at h; simp at h; exact ⟨i, rfl, h.1, h.2.1, h.2.2⟩

set_option maxHeartbeats 2000000 in
theorem split_any (n seg burst : Nat) (hn : 1 ≤ n) (hn5 : n ≤ 5000) (hs : 1 ≤ seg) (hs6 : seg < 9223372036854775808) (hb : 1 ≤ burst) (hb6 : burst < 9223372036854775808) (w : World) :
    Calls Try.prog 9 #[.int .i64 n, .int .i64 seg, .int .i64 burst] w fun e w' => ∃ v, e = .returned v ∧ OwnP 28 w' w.heap.size v (parts n seg burst 0 burst) ∧ Below w.heap.size w w' := by
  obtain ⟨i0, hi, hz, hsz, hby⟩ := info_P
  go_enter Try.func9, Try.ntmps9
  have g1 : ¬ ((n : Int) ≤ 0) := by omega
  have g2 : ¬ ((seg : Int) < 1) := by omega
  have g3 : ¬ ((burst : Int) < 1) := by omega
  go_wp2
  go_loopw [7, 8, 9] (fun v p q wr => ∃ (a b : Nat) (xs : List (Nat × Nat × Bool)), p = .int .i64 a ∧ q = .int .i64 b ∧ OwnP 28 wr w.heap.size v xs ∧ xs ++ parts n seg burst a b = parts n seg burst 0 burst ∧ 1 ≤ b ∧ b ≤ burst ∧ a ≤ n ∧ xs.length ≤ a ∧ Below w.heap.size w wr)
    (fun _ p _ _ => n - (intOf p).toNat)
  case atStart => exact ⟨0, burst, [], rfl, rfl, OwnP.nil _ _ _, rfl, hb, Nat.le_refl _, by omega, by simp, Below.refl _ _⟩
  case round =>
    obtain ⟨a, b, xs, rfl, rfl, hown, heq, hb1, hb2, ha, hxs, hbel⟩ := hrel
    by_cases hlt : a < n
    · have hlt' : (a : Int) < n := by omega
      obtain ⟨k, hk⟩ : ∃ k, k = min seg (min b (n - a)) := ⟨_, rfl⟩
      have hk1 : 1 ≤ k := by omega
      have hkb : k ≤ b := by omega
      have hkn : a + k ≤ n := by omega
      obtain ⟨q, hq⟩ : ∃ q, q = (decide (b - k = 0) || decide (a + k = n)) := ⟨_, rfl⟩
      have hq1 : ∀ x y : Int, x = b - k → y = a + k → ((x == 0) || (y == n)) = q := by
        intro x y hx hy
        subst hq
        rw [Bool.eq_iff_iff]
        simp
        omega
      have HK := Lib.hid hk
      have HQ := Lib.hid hq
      have HE := Lib.hid heq
      clear heq hk hq
      go_wp2_with (first
        | (at_builtin; refine wpList_part Try.underlying23 hi hz hsz hby rfl _ _ rfl w.heap.size _ xs rfl (hown.alloc _) wr.heap.size 1 (a, k, q) rfl (by simp) (by have h1 : k = min seg (min b (n - a)) := HK; clear HQ HE HK hq1; simp <;> omega) (by have h1 : k = min seg (min b (n - a)) := HK; have h2 : q = (decide (b - k = 0) || decide (a + k = n)) := HQ; subst h2; clear HQ HK HE hq1; simp <;> first | omega | (rw [Bool.eq_iff_iff]; simp <;> omega)) (by omega) (by have := hbel.size; simp; omega) ?_)
        | go_in)
      all_goals intro v' w1 hown' hb'
      all_goals clear hown
      all_goals have hb'' := hbel.trans ((((Below.refl wr.heap.size wr).alloc (Nat.le_refl _) _).mono hbel.size).trans hb')
      all_goals clear hb'
      all_goals go_wp2
      all_goals
        have h1 : k = min seg (min b (n - a)) := HK
        obtain ⟨b', hb'⟩ : ∃ b', b' = if b - k = 0 then burst else b - k := ⟨_, rfl⟩
        have hst := parts_step n seg burst a b hlt hs hb1 hb k h1 q HQ b' hb'
        have hee : xs ++ parts n seg burst a b = parts n seg burst 0 burst := HE
        rw [hst] at hee
        clear HK HQ HE hst hq1
        exact ⟨⟨a + k, b', xs ++ [(a, k, q)], congrArg (Value.int .i64) (by omega), congrArg (Value.int .i64) (by split at hb' <;> omega), hown', by simpa using hee, by split at hb' <;> omega, by split at hb' <;> omega, by omega, by simp; omega, hb''⟩, by simp [intOf]; omega⟩
    · have hlt' : ¬ ((a : Int) < n) := by omega
      go_wp2
      go_ret
      rw [parts_end _ _ _ _ _ (by omega), List.append_nil] at heq
      subst heq
      exact ⟨_, rfl, hown, hbel⟩

set_option maxHeartbeats 3000000 in
theorem splitR_any (n seg burst : Nat) (hn : 1 ≤ n) (hn5 : n ≤ 5000) (hs : 1 ≤ seg) (hs6 : seg < 9223372036854775808) (hb : 1 ≤ burst) (hb6 : burst < 9223372036854775808) (w : World) :
    Calls Try.prog 10 #[.int .i64 n, .int .i64 seg, .int .i64 burst] w fun e w' => ∃ v, e = .returned v ∧ OwnP 29 w' w.heap.size v (parts n seg burst 0 burst) ∧ Below w.heap.size w w' := by
  obtain ⟨i0, hi, hz, hsz, hby⟩ := info_R
  go_enter Try.func10, Try.ntmps10
  have g1 : ¬ ((n : Int) < 1) := by omega
  have g2 : ¬ ((seg : Int) < 1) := by omega
  have g3 : ¬ ((burst : Int) < 1) := by omega
  go_wp2
  go_loopw [7, 8, 9, 10] (fun v p _ _ wr => ∃ (f : Nat) (xs : List (Nat × Nat × Bool)), p = .int .i64 f ∧ OwnP 29 wr w.heap.size v xs ∧ xs ++ parts n seg burst f burst = parts n seg burst 0 burst ∧ f ≤ n ∧ xs.length ≤ f ∧ Below w.heap.size w wr)
    (fun _ p _ _ _ => n - (intOf p).toNat)
  case atStart => exact ⟨0, [], rfl, OwnP.nil _ _ _, rfl, by omega, by simp, Below.refl _ _⟩
  case round =>
    obtain ⟨f, xs0, rfl, hown0, heq0, hf, hxs0, hbel0⟩ := hrel
    by_cases hlt : f < n
    · have hlt' : (f : Int) < n := by omega
      obtain ⟨size, hsize⟩ : ∃ size, size = min burst (n - f) := ⟨_, rfl⟩
      go_wp2
      all_goals
        have hsz1 : 1 ≤ size := by omega
        have hsz2 : size ≤ burst := by omega
        have hsz3 : f + size ≤ n := by omega
        have HS := Lib.hid hsize
        clear hsize
        go_loopw [7, 10] (fun v p wr => ∃ (t : Nat) (xs : List (Nat × Nat × Bool)), p = .int .i64 t ∧ OwnP 29 wr w.heap.size v xs ∧ xs ++ parts n seg burst (f + t) (burst - t) = parts n seg burst 0 burst ∧ t < size ∧ xs.length ≤ f + t ∧ Below w.heap.size w wr)
          (fun _ p _ => size - (intOf p).toNat)
        case atStart => exact ⟨0, xs0, rfl, hown0, heq0, hsz1, hxs0, hbel0⟩
        case round =>
          clear hown0 heq0 hbel0
          obtain ⟨t, xs, rfl, hown, heq, ht, hxs, hbel⟩ := hrel
          have ht1 : (t : Int) < n - f := by omega
          have ht2 : (t : Int) < burst := by omega
          obtain ⟨k, hk⟩ : ∃ k, k = min seg (min (burst - t) (n - (f + t))) := ⟨_, rfl⟩
          obtain ⟨q, hq⟩ : ∃ q, q = (decide (burst - t - k = 0) || decide (f + t + k = n)) := ⟨_, rfl⟩
          have HK := Lib.hid hk
          have HQ := Lib.hid hq
          have HE := Lib.hid heq
          clear heq hk hq
          go_wp2_with (first
            | (at_builtin; refine wpList_part Try.underlying25 hi hz hsz hby rfl _ _ rfl w.heap.size _ xs rfl (hown.alloc _) _ 1 (f + t, k, q) rfl (by simp) (by have h0 : size = min burst (n - f) := HS; have h1 : k = min seg (min (burst - t) (n - (f + t))) := HK; clear HQ HE HK HS; simp <;> omega) (by have h0 : size = min burst (n - f) := HS; have h1 : k = min seg (min (burst - t) (n - (f + t))) := HK; have h2 : q = (decide (burst - t - k = 0) || decide (f + t + k = n)) := HQ; subst h2; clear HQ HK HE HS; simp <;> first | omega | (rw [Bool.eq_iff_iff]; simp <;> omega)) (by omega) (by have := hbel.size; simp; omega) ?_)
            | go_in)
          all_goals intro v' w1 hown' hb'
          all_goals clear hown
          all_goals have hb'' := hbel.trans ((((Below.refl _ wr).alloc (Nat.le_refl _) _).mono hbel.size).trans hb')
          all_goals clear hb'
          all_goals go_wp2
          all_goals
            have h0 : size = min burst (n - f) := HS
            have h1 : k = min seg (min (burst - t) (n - (f + t))) := HK
            obtain ⟨b', hb'⟩ : ∃ b', b' = if burst - t - k = 0 then burst else burst - t - k := ⟨_, rfl⟩
            have hst := parts_step n seg burst (f + t) (burst - t) (by omega) hs (by omega) hb k h1 q HQ b' hb'
            have hee : xs ++ parts n seg burst (f + t) (burst - t) = parts n seg burst 0 burst := HE
            rw [hst] at hee
            clear HK HQ HE HS hst
            have hee' : (xs ++ [(f + t, k, q)]) ++ parts n seg burst (f + t + k) b' = parts n seg burst 0 burst := by simpa using hee
            clear hee
          all_goals first
            | exact ⟨⟨t + k, xs ++ [(f + t, k, q)], congrArg (Value.int .i64) (by omega), hown', by
                have e1 : b' = burst - (t + k) := by split at hb' <;> omega
                rw [← Nat.add_assoc, ← e1]; exact hee', by omega, by simp; omega, hb''⟩, by simp [intOf]; omega⟩
            | exact ⟨⟨f + size, xs ++ [(f + t, k, q)], congrArg (Value.int .i64) (by omega), hown', by
                have e0 : f + t + k = f + size := by omega
                rw [e0] at hee'
                by_cases he : f + size = n
                · rw [parts_end _ _ _ _ _ (by omega)] at hee' ⊢; exact hee'
                · have e1 : b' = burst := by split at hb' <;> omega
                  rw [e1] at hee'; exact hee', by omega, by simp; omega, hb''⟩, by simp [intOf]; omega⟩
    · have hlt' : ¬ ((f : Int) < n) := by omega
      go_wp2
      go_ret
      rw [parts_end _ _ _ _ _ (by omega), List.append_nil] at heq0
      subst heq0
      exact ⟨_, rfl, hown0, hbel0⟩
end Go.Proofs.Ytjmpjdahkliheaa
