/-
  ring: what Open answers, whatever comes: both sides in one form.
-/
import Derived.Test.YtkabkehfckbhcaaDoorZRgROpen
import Derived.Test.YtkabkehfckbhcaaDoorZRgOpen2
import Derived.Test.YtkabkehfckbhcaaDoorZRgBoth
namespace Go.Proofs.YtkabkehfckbhcaaDoor
set_option linter.unusedVariables false
set_option linter.unusedSimpArgs false
open Go.RowKit

theorem sector_ok {s : RS} {d : DK} {n kk : Nat} (hs : RSok s n) (hon : OnB n kk d) (i : Nat) : (s.sector d i).length = 64 ∧ ∀ c ∈ s.sector d i, c < 256 := by
  have hlt : s.first + (s.place + i) % s.n < n := by
    have := Nat.mod_lt (s.place + i) (show 0 < s.n by have := hs.n1; omega)
    have := hs.fit
    omega
  exact (onB_read hon hlt).2
theorem look_chok {s : RS} {d : DK} {n kk : Nat} (hs : RSok s n) (hon : OnB n kk d) : ∀ c ∈ (s.look d).1, CHok c := by
  intro c hc
  unfold RS.look at hc
  simp only at hc
  split at hc
  · obtain ⟨i, _, rfl⟩ := List.mem_map.1 hc
    have h1 := leN_lt (((s.sector d (1 + i / 16)).drop (4 * (i % 16))).take 4) (fun c hc => (sector_ok hs hon _).2 c (List.mem_of_mem_drop (List.mem_of_mem_take hc)))
    have h2 : (256 : Nat) ^ ((((s.sector d (1 + i / 16)).drop (4 * (i % 16))).take 4).length) ≤ 256 ^ 4 := Nat.pow_le_pow_right (by decide) (by rw [List.length_take]; omega)
    have h3 : leN (((s.sector d (1 + i / 16)).drop (4 * (i % 16))).take 4) < 256 ^ 4 := Nat.lt_of_lt_of_le h1 h2
    have h4 : (256 : Nat) ^ 4 = 4294967296 := by decide
    rw [h4] at h3
    generalize hk : (s.sector d 0).getD 9 0 = k at *
    exact ⟨(sector_ok hs hon _).1, (sector_ok hs hon _).2, by show -9223372036854775808 ≤ ((leN _ : Nat) : Int); omega, by show ((leN _ : Nat) : Int) ≤ 9223372036854775807; unfold chAt at *; simp only at *; omega⟩
  · cases hc
theorem openP_fine {n kk : Nat} {d : DK} (hon : OnB n kk d) : ∀ (f : Nat) (s : RS), RSok s n → (∀ l ∈ (openP d f s).2, (∀ c ∈ l, CHok c) ∧ l.length ≤ 1000) ∧ (openP d f s).2.length ≤ f := by
  intro f
  induction f with
  | zero => exact fun s _ => ⟨fun l hl => (by cases hl), Nat.le_refl _⟩
  | succ f ih =>
    intro s hs
    by_cases hne : (s.look d).1 = []
    · rw [openP_none hne]
      exact ⟨fun l hl => (by cases hl), Nat.zero_le _⟩
    · rw [openP_some hne]
      obtain ⟨k1, k2, l, hl⟩ := look_ok hne
      have hb := hs.behind _ k2 l
      rw [← hl] at hb
      have hr := ih _ hb
      refine ⟨fun l hl => ?_, by simp only [List.length_cons]; have := hr.2; omega⟩
      rcases List.mem_cons.1 hl with rfl | hl
      · exact ⟨look_chok hs hon, by have := look_le hne; omega⟩
      · exact hr.1 l hl
/-- The number that Open answers. -/
def openE (first n place sz : Int) : Nat := if first < 0 ∨ n < 96 ∨ 4096 < n ∨ sz - n < first ∨ place < 0 ∨ n ≤ place then 1 else 0
/-- A ring as asked for. -/
def rsOf (first n place : Int) (num : Nat) (last : List Nat) : RS := ⟨first.toNat, n.toNat, place.toNat, num, last, 0⟩
/-- The records that Open answers. -/
def openL (d : DK) (first n place : Int) (num : Nat) (last : List Nat) (sz : Int) : List (List CH) := if openE first n place sz = 1 then [] else (openP d (n.toNat + 1) (rsOf first n place num last)).2
structure MarkOk (num : Nat) (last : List Nat) : Prop where
  len : last.length = 32
  byte : ∀ c ∈ last, c < 256
  num : num < 18446744073709551616
theorem openE_cases (first n place sz : Int) : (openE first n place sz = 1 ∧ OpenBad first n place sz) ∨ (openE first n place sz = 0 ∧ ¬ OpenBad first n place sz) := by
  unfold openE OpenBad
  split
  · exact .inl ⟨rfl, by assumption⟩
  · exact .inr ⟨rfl, by assumption⟩
theorem rsOf_ok {first n place : Int} {sz num : Nat} {last : List Nat} (hm : MarkOk num last) (h : ¬ OpenBad first n place (sz : Int)) : RSok (rsOf first n place num last) sz := by
  unfold OpenBad at h
  exact ⟨by show 96 ≤ n.toNat; omega, by show n.toNat ≤ 4096; omega, by show first.toNat + n.toNat ≤ sz; omega, by show place.toNat < n.toNat; omega, hm.num, hm.len, hm.byte, Nat.zero_le _⟩
theorem openL_fine {d : DK} {sz kk num : Nat} {last : List Nat} (hon : OnB sz kk d) (hm : MarkOk num last) (first n place : Int) : (∀ l ∈ openL d first n place num last sz, (∀ c ∈ l, CHok c) ∧ l.length ≤ 1000) ∧ (openL d first n place num last sz).length ≤ 10000 := by
  unfold openL
  rcases openE_cases first n place sz with ⟨h, _⟩ | ⟨h, hb⟩
  · rw [if_pos h]
    exact ⟨fun l hl => (by cases hl), Nat.zero_le _⟩
  · rw [h, if_neg (by decide)]
    have hf := openP_fine hon (n.toNat + 1) _ (rsOf_ok hm hb)
    unfold OpenBad at hb
    exact ⟨hf.1, by have := hf.2; omega⟩
/-- Our Open. -/
theorem open_any {W : World} {db sz kk num : Nat} {d : DK} {last : List Nat} (hdk : Dk 0 W db d) (hon : OnB sz kk d) (hsz : sz ≤ 4096) (hm : MarkOk num last) (first n place : Int) :
    Calls Tryd.prog 18 #[.pointer (some ⟨db, 0, none⟩), .int .i64 first, .int .i64 n, markV place num last] W fun e w' => ∃ p v ev, e = .returned (.tuple #[p, v, ev]) ∧ IsNum w' ev (openE first n place sz) ∧ (∃ vs, Recs w' W.heap.size v vs (openL d first n place num last sz)) ∧ Below W.heap.size W w' := by
  rcases openE_cases first n place sz with ⟨h, hb⟩ | ⟨h, hb⟩
  · refine (open_bad W (.pointer (some ⟨db, 0, none⟩)) first n place num sz last (by omega) (by omega) (fun w hw => ?_) hb).mono ?_
    · have := (hdk.below hw).size
      rw [hon.len] at this
      exact this
    · rintro e w' ⟨v, rfl, -, hn, hbl⟩
      unfold openL
      rw [h, if_pos rfl]
      exact ⟨_, _, _, rfl, hn, ⟨[], RecsT.nil _ _ _ _⟩, hbl⟩
  · have hop := open_ok (s := rsOf first n place num last) hdk hon (rsOf_ok hm hb) rfl
    unfold OpenBad at hb
    have e1 : (((rsOf first n place num last).first : Nat) : Int) = first := by show ((first.toNat : Nat) : Int) = _; omega
    have e2 : (((rsOf first n place num last).n : Nat) : Int) = n := by show ((n.toNat : Nat) : Int) = _; omega
    have e3 : (((rsOf first n place num last).place : Nat) : Int) = place := by show ((place.toNat : Nat) : Int) = _; omega
    rw [e1, e2, markL_eq, e3] at hop
    refine hop.mono ?_
    rintro e w' ⟨rb, v, rfl, hi⟩
    unfold openL
    rw [h, if_neg (by decide)]
    exact ⟨_, _, _, rfl, isNum_nil _, hi.recs, hi.bel⟩
/-- The document's Open. -/
theorem ropen_any {W : World} {kb sz kk num : Nat} {d : DK} {last : List Nat} (hrd : ∃ B fb cap av wv, IsRd W B kb fb cap av wv d) (hon : OnB sz kk d) (hsz : sz ≤ 4096) (hkk : kk ≤ 100000) (hm : MarkOk num last) (first n place : Int) :
    Calls Tryd.prog 19 #[.pointer (some ⟨kb, 0, none⟩), .int .i64 first, .int .i64 n, markV place num last] W fun e w' => ∃ p v, e = .returned (.tuple #[p, v, .int .i64 ((openE first n place sz : Nat) : Int)]) ∧ (∃ vs, RRecs w' W.heap.size v vs (openL d first n place num last sz)) ∧ Below W.heap.size W w' := by
  rcases openE_cases first n place sz with ⟨h, hb⟩ | ⟨h, hb⟩
  · refine (ropen_bad W first n place num last hrd (by rw [hon.len]; exact hsz) (by rw [hon.len]; exact hb)).mono ?_
    rintro e w' ⟨rfl, hbl⟩
    unfold openL
    rw [h, if_pos rfl]
    exact ⟨_, _, rfl, ⟨[], RecsT.nil _ _ _ _⟩, hbl⟩
  · have hop := ropen_ok (s := rsOf first n place num last) hrd hon (rsOf_ok hm hb) rfl hkk hsz
    unfold OpenBad at hb
    have e1 : (((rsOf first n place num last).first : Nat) : Int) = first := by show ((first.toNat : Nat) : Int) = _; omega
    have e2 : (((rsOf first n place num last).n : Nat) : Int) = n := by show ((n.toNat : Nat) : Int) = _; omega
    have e3 : (((rsOf first n place num last).place : Nat) : Int) = place := by show ((place.toNat : Nat) : Int) = _; omega
    rw [e1, e2, markL_eq, e3] at hop
    refine hop.mono ?_
    rintro e w' ⟨rr, v, rfl, hi⟩
    unfold openL
    rw [h, if_neg (by decide)]
    exact ⟨_, _, rfl, hi.recs, hi.bel⟩
end Go.Proofs.YtkabkehfckbhcaaDoor
