/-
  ring: Add of both sides, whatever comes.
-/
import Derived.Test.YtkabkehfckbhcaaDoorZRgRAdd
import Derived.Test.YtkabkehfckbhcaaDoorZRgErr
import Derived.Test.YtkabkehfckbhcaaDoorZRgLawP
import Derived.Test.YtkabkehfckbhcaaDoorZRgRound1
namespace Go.Proofs.YtkabkehfckbhcaaDoor
set_option linter.unusedVariables false
set_option linter.unusedSimpArgs false
open Go.RowKit

theorem addE_cases (s : RS) (k : Nat) : ((k < 1 ∨ 60 < k) ∧ s.addE k = 11) ∨ (1 ≤ k ∧ k ≤ 60 ∧ s.n - s.used < takes k ∧ s.addE k = 20) ∨ (1 ≤ k ∧ k ≤ 60 ∧ takes k ≤ s.n - s.used ∧ s.addE k = 0) := by
  unfold RS.addE
  by_cases h1 : k < 1 ∨ 60 < k
  · exact .inl ⟨h1, if_pos h1⟩
  · by_cases h2 : s.n - s.used < takes k
    · exact .inr (.inl ⟨by omega, by omega, h2, by rw [if_neg h1, if_pos h2]⟩)
    · exact .inr (.inr ⟨by omega, by omega, by omega, by rw [if_neg h1, if_neg h2]⟩)
theorem add_no {s : RS} {l : List CH} {d : DK} (h : s.addE l.length ≠ 0) : s.add l d = (s, d) := by
  unfold RS.add
  rw [if_neg h]
theorem add_yes {s : RS} {l : List CH} {d : DK} (h : s.addE l.length = 0) : s.add l d = (s.behind l.length (recSum s.last s.num l), putAll s (recPgs s.last s.num l) 0 d) := by
  unfold RS.add
  rw [if_pos h]
section
variable {X : Nat → Prop} {B : Nat} {w : World} {db kb : Nat} {d m : DK}
theorem RI.addAny {rg : Nat} {s : RS} {n kk k cc : Nat} {ca : Option Addr} {l : List CH} (h : RI X B w db kb d m) (hrg : IsRg 100 w rg db s) (hX : X rg) (hok : RSok s n) (hon : OnB n kk d) (hkk : kk ≤ 100000) (hc : IsChs w ca l) (hk : k = l.length) (hk2 : k ≤ 1000) (hB : B ≤ w.heap.size) (hrB : B ≤ rg) :
    Calls Tryd.prog 24 #[.pointer (some ⟨rg, 0, none⟩), .slice ca k cc] w fun e w' => ∃ v, e = .returned v ∧ IsNum w' v (s.addE k) ∧ IsRg 100 w' rg db (s.add l d).1 ∧ RI X B w' db kb (s.add l d).2 m ∧ But (fun j => ¬ X j ∨ j = rg) w w' ∧ Below B w w' := by
  rcases addE_cases s k with ⟨h1, h2⟩ | ⟨h0, h1, h2, h3⟩ | ⟨h0, h1, h2, h3⟩
  · refine (add_large w rg ca k cc h1 (by omega)).mono ?_
    rintro e w' ⟨v, rfl, hn, hb⟩
    rw [h2, add_no (by rw [← hk, h2]; decide)]
    exact ⟨v, rfl, hn, hrg.below hb, h.below hb, But.of_below hb (Nat.le_refl _), hb.mono hB⟩
  · refine (add_full hrg hok ca k cc h0 h1 h2).mono ?_
    rintro e w' ⟨v, rfl, hn, hb⟩
    rw [h3, add_no (by rw [← hk, h3]; decide)]
    exact ⟨v, rfl, hn, hrg.below hb, h.below hb, But.of_below hb (Nat.le_refl _), hb.mono hB⟩
  · have h4 := h3
    subst hk
    refine (h.addD (cc := cc) hrg hX hok hon hkk hc h0 h1 h2 hB hrB).mono ?_
    rintro e w' ⟨rfl, r1, r2, r3, r4⟩
    rw [h3, add_yes h4]
    exact ⟨_, rfl, isNum_nil _, r1, r2, r3, r4⟩
theorem RI.addRef {rr : Nat} {s : RS} {n kk k cc : Nat} {ca : Option Addr} {l : List CH} (h : RI X B w db kb d m) (hrg : IsRg 68 w rr kb s) (hX : X rr) (hok : RSok s n) (hon : OnB n kk m) (hkk : kk ≤ 100000) (hc : IsChs w ca l) (hk : k = l.length) (hk2 : k ≤ 1000) (hB : B ≤ w.heap.size) (hrB : B ≤ rr) :
    Calls Tryd.prog 25 #[.pointer (some ⟨rr, 0, none⟩), .slice ca k cc] w fun e w' => e = .returned (.int .i64 ((s.addE k : Nat) : Int)) ∧ IsRg 68 w' rr kb (s.add l m).1 ∧ RI X B w' db kb d (s.add l m).2 ∧ But (fun j => ¬ X j ∨ j = rr) w w' ∧ Below B w w' := by
  rcases addE_cases s k with ⟨h1, h2⟩ | ⟨h0, h1, h2, h3⟩ | ⟨h0, h1, h2, h3⟩
  · refine (radd_large w rr ca k cc h1 (by omega)).mono ?_
    rintro e w' ⟨rfl, rfl⟩
    rw [h2, add_no (by rw [← hk, h2]; decide)]
    exact ⟨rfl, hrg, h, But.refl _ _, Below.refl _ _⟩
  · refine (radd_full hrg hok ca k cc h0 h1 h2).mono ?_
    rintro e w' ⟨rfl, hb⟩
    rw [h3, add_no (by rw [← hk, h3]; decide)]
    exact ⟨rfl, hrg.below hb, h.below hb, But.of_below hb (Nat.le_refl _), hb.mono hB⟩
  · refine (radd_ok (cc := cc) ⟨h, hrg, hX, hok, hon, hkk, hc, by rw [← hk]; exact h0, by rw [← hk]; exact h1, by rw [← hk]; exact h2, hB, hrB⟩ hk).mono ?_
    rintro e w' ⟨rfl, r1, r2, r3, r4⟩
    rw [h3, add_yes (by rw [← hk]; exact h3), ← hk]
    exact ⟨rfl, r1, r2, r3, r4⟩
end
theorem add_fine {s : RS} {n kk : Nat} {d : DK} {l : List CH} (hok : RSok s n) (hon : OnB n kk d) (hc : ∀ c ∈ l, CHok c) (hl : l.length ≤ 64) : RSok (s.add l d).1 n ∧ OnB n (kk + 70) (s.add l d).2 := by
  rcases addE_cases s l.length with ⟨h1, h2⟩ | ⟨h0, h1, h2, h3⟩ | ⟨h0, h1, h2, h3⟩
  · rw [add_no (by rw [h2]; decide)]
    exact ⟨hok, hon.more (by omega)⟩
  · rw [add_no (by rw [h3]; decide)]
    exact ⟨hok, hon.more (by omega)⟩
  · rw [add_yes h3]
    have h5 := putAll_on hok (recPgs s.last s.num l) 0 kk d hon (recPgs_ok hc)
    rw [recPgs_length] at h5
    exact ⟨hok.behind _ h2 _, h5.more (by unfold takes; omega)⟩
theorem add_n (s : RS) (l : List CH) (d : DK) : (s.add l d).1.n = s.n := by
  unfold RS.add
  split
  · rfl
  · rfl
theorem openP_new {n : Nat} {s : RS} (hs : RSok s n) (f : Nat) : openP (DK.new n) f s = (s, []) := by
  cases f with
  | zero => rfl
  | succ f =>
    refine openP_none ?_
    have hlt : s.first + (s.place + 0) % s.n < n := by
      have := Nat.mod_lt (s.place + 0) (show 0 < s.n by have := hs.n1; omega)
      have := hs.fit
      omega
    have h0 : s.sector (DK.new n) 0 = zeroPg := new_read n hlt
    unfold RS.look
    simp only
    rw [h0, if_neg (by intro h; exact absurd h.1 (by decide))]
end Go.Proofs.YtkabkehfckbhcaaDoor
