/-
  ring: the reference's Add.
-/
import Derived.Test.YtkabkehfckbhcaaDoorZRgSec
import Derived.Test.YtkabkehfckbhcaaDoorZRgBoth
namespace Go.Proofs.YtkabkehfckbhcaaDoor
set_option linter.unusedVariables false
set_option linter.unusedSimpArgs false
open Go.RowKit

section
variable {w : World} {rr kb : Nat} {s : RS} {size : Nat}
set_option maxRecDepth 100000 in
set_option maxHeartbeats 2000000 in
theorem radd_large (w : World) (rr : Nat) (ca : Option Addr) (k cc : Nat) (hk : k < 1 ∨ 60 < k) (hk2 : k ≤ 1000000) : Calls Tryd.prog 25 #[.pointer (some ⟨rr, 0, none⟩), .slice ca k cc] w fun e w' => e = .returned (.int .i64 11) ∧ w' = w := by
  by_cases h1 : k < 1
  · have i1 : (k : Int) < 1 := by omega
    go_enter Tryd.func25, Tryd.ntmps25
    go_wp2_with fail
    go_ret
    exact ⟨rfl, rfl⟩
  · have i1 : ¬ (k : Int) < 1 := by omega
    have i2 : (60 : Int) < (k : Int) := by omega
    go_enter Tryd.func25, Tryd.ntmps25
    go_wp2_with fail
    go_ret
    exact ⟨rfl, rfl⟩
set_option maxRecDepth 100000 in
set_option maxHeartbeats 2000000 in
theorem radd_full (h : IsRg 68 w rr kb s) (hs : RSok s size) (ca : Option Addr) (k cc : Nat) (h1 : 1 ≤ k) (h2 : k ≤ 60) (hf : s.n - s.used < takes k) : Calls Tryd.prog 25 #[.pointer (some ⟨rr, 0, none⟩), .slice ca k cc] w fun e w' => e = .returned (.int .i64 20) ∧ Below w.heap.size w w' := by
  have i1 : ¬ (k : Int) < 1 := by omega
  have i2 : ¬ (60 : Int) < (k : Int) := by omega
  have hT := fun w => takes_any k (by omega) w
  obtain ⟨T, hTe⟩ : ∃ T, T = takes k := ⟨_, rfl⟩
  rw [← hTe] at hT hf
  have hT2 : T ≤ 300 := by rw [hTe]; unfold takes; omega
  have hus := hs.used
  have hn2 := hs.n2
  have c2 := h.c2
  have c37 := h.c37 hs.len
  have hwr : IntKind.i64.wrap (((s.n : Nat) : Int) - ((s.used : Nat) : Int)) = ((s.n - s.used : Nat) : Int) := (IntWalk.i64_left _).trans ((IntWalk.wrap64_in _ ⟨by omega, by omega⟩).trans (by omega))
  have i3 : ((s.n - s.used : Nat) : Int) < (T : Int) := by omega
  clear h hs hTe
  go_enter Tryd.func25, Tryd.ntmps25
  go_upto_region 3 with fail
  refine wp_region_held_drew (S := fun w' => (w'.cell? ⟨rr, 2, none⟩ = some (.int .i64 ((s.n : Nat) : Int)) ∧ w'.cell? ⟨rr, 37, none⟩ = some (.int .i64 ((s.used : Nat) : Int))) ∧ w' = w.drew) (by kernel_rfl) ⟨⟨c2, c37⟩, rfl⟩ (fun hHeld => ?_)
  clear c2 c37
  refine wpAnyH_take (i := 0) (v := ?_) rfl (by kernel_rfl) (by kernel_rfl) (by kernel_rfl) (fun _ _ _ h => h) (Or.inl ⟨by rfl, ?_⟩) (by with_reducible assumption) ?_
  rotate_left
  · intro w hSw; (try dsimp only at hSw); (try go_split_ands); go_simp; (try with_reducible rfl)
  (try simp only [Act.put, List.getElem_toArray, List.getElem_cons_succ, List.getElem_cons_zero, List.setIfInBounds_toArray, List.set_cons_zero, List.set_cons_succ])
  refine wpAnyH_take (i := 1) (v := ?_) rfl (by kernel_rfl) (by kernel_rfl) (by kernel_rfl) (fun _ _ _ h => h) (Or.inl ⟨by rfl, ?_⟩) (by with_reducible assumption) ?_
  rotate_left
  · intro w hSw; (try dsimp only at hSw); (try go_split_ands); go_simp; (try with_reducible rfl)
  (try simp only [Act.put, List.getElem_toArray, List.getElem_cons_succ, List.getElem_cons_zero, List.setIfInBounds_toArray, List.set_cons_zero, List.set_cons_succ])
  refine wpAnyH_take (i := 3) (v := ?_) rfl (by kernel_rfl) (by kernel_rfl) (by kernel_rfl) (fun _ _ _ h => h) (Or.inl ⟨by rfl, ?_⟩) (by with_reducible assumption) ?_
  rotate_left
  · intro w hSw; (try dsimp only at hSw); (try go_split_ands); go_simp; (try with_reducible rfl)
  (try simp only [Act.put, List.getElem_toArray, List.getElem_cons_succ, List.getElem_cons_zero, List.setIfInBounds_toArray, List.set_cons_zero, List.set_cons_succ])
  refine wpAnyH_take (i := 4) (v := ?_) rfl (by kernel_rfl) (by kernel_rfl) (by kernel_rfl) (fun _ _ _ h => h) (Or.inl ⟨by rfl, ?_⟩) (by with_reducible assumption) ?_
  rotate_left
  · intro w hSw; (try dsimp only at hSw); (try go_split_ands); go_simp; (try with_reducible rfl)
  (try simp only [Act.put, List.getElem_toArray, List.getElem_cons_succ, List.getElem_cons_zero, List.setIfInBounds_toArray, List.set_cons_zero, List.set_cons_succ])
  refine wpAnyH_take (i := 5) (v := ?_) rfl (by kernel_rfl) (by kernel_rfl) (by kernel_rfl) (fun _ _ _ h => h) (Or.inl ⟨by rfl, ?_⟩) (by with_reducible assumption) ?_
  rotate_left
  · intro w hSw; (try dsimp only at hSw); (try go_split_ands); go_simp; (try with_reducible rfl)
  (try simp only [Act.put, List.getElem_toArray, List.getElem_cons_succ, List.getElem_cons_zero, List.setIfInBounds_toArray, List.set_cons_zero, List.set_cons_succ])
  refine wpAnyH_take (i := 6) (v := ?_) rfl (by kernel_rfl) (by kernel_rfl) (by kernel_rfl) (fun _ _ _ h => h) (Or.inl ⟨by rfl, ?_⟩) (by with_reducible assumption) ?_
  rotate_left
  · intro w hSw; (try dsimp only at hSw); (try go_split_ands); go_simp; (try with_reducible rfl)
  (try simp only [Act.put, List.getElem_toArray, List.getElem_cons_succ, List.getElem_cons_zero, List.setIfInBounds_toArray, List.set_cons_zero, List.set_cons_succ])
  refine wpAnyH_take (i := 7) (v := ?_) rfl (by kernel_rfl) (by kernel_rfl) (by kernel_rfl) (fun _ _ _ h => h) (Or.inl ⟨by rfl, ?_⟩) (by with_reducible assumption) ?_
  rotate_left
  · intro w hSw; (try dsimp only at hSw); (try go_split_ands); go_simp; (try with_reducible rfl)
  (try simp only [Act.put, List.getElem_toArray, List.getElem_cons_succ, List.getElem_cons_zero, List.setIfInBounds_toArray, List.set_cons_zero, List.set_cons_succ])
  refine wpAnyH_take (i := 8) (v := ?_) rfl (by kernel_rfl) (by kernel_rfl) (by kernel_rfl) (fun _ _ _ h => h) (Or.inl ⟨by rfl, ?_⟩) (by with_reducible assumption) ?_
  rotate_left
  · intro w hSw; (try dsimp only at hSw); (try go_split_ands); go_simp; (try with_reducible rfl)
  (try simp only [Act.put, List.getElem_toArray, List.getElem_cons_succ, List.getElem_cons_zero, List.setIfInBounds_toArray, List.set_cons_zero, List.set_cons_succ])
  refine wpAnyH_take (i := 9) (v := ?_) rfl (by kernel_rfl) (by kernel_rfl) (by kernel_rfl) (fun _ _ _ h => h) (Or.inl ⟨by rfl, ?_⟩) (by with_reducible assumption) ?_
  rotate_left
  · intro w hSw; (try dsimp only at hSw); (try go_split_ands); go_simp; (try with_reducible rfl)
  (try simp only [Act.put, List.getElem_toArray, List.getElem_cons_succ, List.getElem_cons_zero, List.setIfInBounds_toArray, List.set_cons_zero, List.set_cons_succ])
  refine wpAnyH_take (i := 10) (v := ?_) rfl (by kernel_rfl) (by kernel_rfl) (by kernel_rfl) (fun _ _ _ h => h) (Or.inl ⟨by rfl, ?_⟩) (by with_reducible assumption) ?_
  rotate_left
  · intro w hSw; (try dsimp only at hSw); (try go_split_ands); go_simp; (try with_reducible rfl)
  (try simp only [Act.put, List.getElem_toArray, List.getElem_cons_succ, List.getElem_cons_zero, List.setIfInBounds_toArray, List.set_cons_zero, List.set_cons_succ])
  refine wpAnyH_take (i := 11) (v := ?_) rfl (by kernel_rfl) (by kernel_rfl) (by kernel_rfl) (fun _ _ _ h => h) (Or.inl ⟨by rfl, ?_⟩) (by with_reducible assumption) ?_
  rotate_left
  · intro w hSw; (try dsimp only at hSw); (try go_split_ands); go_simp; (try with_reducible rfl)
  (try simp only [Act.put, List.getElem_toArray, List.getElem_cons_succ, List.getElem_cons_zero, List.setIfInBounds_toArray, List.set_cons_zero, List.set_cons_succ])
  refine wpAnyH_ready (rs := [2]) (by kernel_rfl) (by simp) ?_
  refine AllReadyH.cons rfl (fun K9 hK9 => ?_) AllReadyH.nil
  rw [if_pos (by rfl)]
  go_simp
  go_wp2_with (go_at_call 23; (with_reducible refine (hT _).mono ?_); rintro e w' ⟨rfl, hw'⟩; obtain rfl := hw'.symm)
  refine hK9.out _ _ ⟨hHeld.1, rfl⟩ (fun hHeld => ?_)
  clear hK9 K9
  (try simp only [Act.put, List.getElem_toArray, List.getElem_cons_succ, List.getElem_cons_zero, List.setIfInBounds_toArray, List.set_cons_zero, List.set_cons_succ])
  refine wpAnyH_take (i := 12) (v := ?_) rfl (by kernel_rfl) (by kernel_rfl) (by kernel_rfl) (fun _ _ _ h => h) (Or.inl ⟨by rfl, ?_⟩) (by with_reducible assumption) ?_
  rotate_left
  · intro w hSw; (try dsimp only at hSw); (try go_split_ands); go_simp; (try with_reducible rfl)
  (try simp only [Act.put, List.getElem_toArray, List.getElem_cons_succ, List.getElem_cons_zero, List.setIfInBounds_toArray, List.set_cons_zero, List.set_cons_succ])
  refine wpAnyH_done (by kernel_rfl) ?_ _
  clear hHeld
  go_wp2_with fail
  go_ret
  exact ⟨rfl, (Below.refl _ _).drew⟩
end
/-- What the document's Add is asked of. -/
structure RAddH (X : Nat → Prop) (w : World) (B db kb rr : Nat) (d m : DK) (s : RS) (n kk : Nat) (ca : Option Addr) (l : List CH) : Prop where
  ri : RI X B w db kb d m
  rg : IsRg 68 w rr kb s
  xr : X rr
  ok : RSok s n
  on : OnB n kk m
  kk : kk ≤ 100000
  chs : IsChs w ca l
  k1 : 1 ≤ l.length
  k2 : l.length ≤ 60
  fit : takes l.length ≤ s.n - s.used
  hB : B ≤ w.heap.size
  hr : B ≤ rr
set_option maxRecDepth 100000 in
set_option maxHeartbeats 8000000 in
theorem radd_ok {X : Nat → Prop} {w : World} {B db kb rr : Nat} {d m : DK} {s : RS} {n kk : Nat} {ca : Option Addr} {cc k : Nat} {l : List CH} (H : RAddH X w B db kb rr d m s n kk ca l) (hk : k = l.length) : Calls Tryd.prog 25 #[.pointer (some ⟨rr, 0, none⟩), .slice ca k cc] w fun e w' => e = .returned (.int .i64 0) ∧ IsRg 68 w' rr kb (s.behind k (recSum s.last s.num l)) ∧ RI X B w' db kb d (putAll s (recPgs s.last s.num l) 0 m) ∧ But (fun j => ¬ X j ∨ j = rr) w w' ∧ Below B w w' := by
  have k1 : 1 ≤ k := by rw [hk]; exact H.k1
  have k2 : k ≤ 60 := by rw [hk]; exact H.k2
  have HH := Lib.hid (And.intro H hk)
  have i1 : ¬ (k : Int) < 1 := by omega
  have i2 : ¬ (60 : Int) < (k : Int) := by omega
  have hT := fun w => takes_any k (by omega) w
  obtain ⟨T, hTe⟩ : ∃ T, T = takes k := ⟨_, rfl⟩
  rw [← hTe] at hT
  have hT2 : T ≤ 100 := by rw [hTe]; unfold takes; omega
  have hf : T ≤ s.n - s.used := by rw [hTe, hk]; exact H.fit
  have hus := H.ok.used
  have hn2 := H.ok.n2
  have c2 := H.rg.c2
  have c37 := H.rg.c37 H.ok.len
  have hwr : IntKind.i64.wrap (((s.n : Nat) : Int) - ((s.used : Nat) : Int)) = ((s.n - s.used : Nat) : Int) := (IntWalk.i64_left _).trans ((IntWalk.wrap64_in _ ⟨by omega, by omega⟩).trans (by omega))
  have i3 : ¬ ((s.n - s.used : Nat) : Int) < (T : Int) := by omega
  have HT := Lib.hid hTe
  clear H hk hTe
  go_enter Tryd.func25, Tryd.ntmps25
  go_upto_region 3 with fail
  refine wp_region_held_drew (S := fun w' => (w'.cell? ⟨rr, 2, none⟩ = some (.int .i64 ((s.n : Nat) : Int)) ∧ w'.cell? ⟨rr, 37, none⟩ = some (.int .i64 ((s.used : Nat) : Int))) ∧ w' = w.drew) (by kernel_rfl) ⟨⟨c2, c37⟩, rfl⟩ (fun hHeld => ?_)
  clear c2 c37
  refine wpAnyH_take (i := 0) (v := ?_) rfl (by kernel_rfl) (by kernel_rfl) (by kernel_rfl) (fun _ _ _ h => h) (Or.inl ⟨by rfl, ?_⟩) (by with_reducible assumption) ?_
  rotate_left
  · intro w hSw; (try dsimp only at hSw); (try go_split_ands); go_simp; (try with_reducible rfl)
  (try simp only [Act.put, List.getElem_toArray, List.getElem_cons_succ, List.getElem_cons_zero, List.setIfInBounds_toArray, List.set_cons_zero, List.set_cons_succ])
  refine wpAnyH_take (i := 1) (v := ?_) rfl (by kernel_rfl) (by kernel_rfl) (by kernel_rfl) (fun _ _ _ h => h) (Or.inl ⟨by rfl, ?_⟩) (by with_reducible assumption) ?_
  rotate_left
  · intro w hSw; (try dsimp only at hSw); (try go_split_ands); go_simp; (try with_reducible rfl)
  (try simp only [Act.put, List.getElem_toArray, List.getElem_cons_succ, List.getElem_cons_zero, List.setIfInBounds_toArray, List.set_cons_zero, List.set_cons_succ])
  refine wpAnyH_take (i := 3) (v := ?_) rfl (by kernel_rfl) (by kernel_rfl) (by kernel_rfl) (fun _ _ _ h => h) (Or.inl ⟨by rfl, ?_⟩) (by with_reducible assumption) ?_
  rotate_left
  · intro w hSw; (try dsimp only at hSw); (try go_split_ands); go_simp; (try with_reducible rfl)
  (try simp only [Act.put, List.getElem_toArray, List.getElem_cons_succ, List.getElem_cons_zero, List.setIfInBounds_toArray, List.set_cons_zero, List.set_cons_succ])
  refine wpAnyH_take (i := 4) (v := ?_) rfl (by kernel_rfl) (by kernel_rfl) (by kernel_rfl) (fun _ _ _ h => h) (Or.inl ⟨by rfl, ?_⟩) (by with_reducible assumption) ?_
  rotate_left
  · intro w hSw; (try dsimp only at hSw); (try go_split_ands); go_simp; (try with_reducible rfl)
  (try simp only [Act.put, List.getElem_toArray, List.getElem_cons_succ, List.getElem_cons_zero, List.setIfInBounds_toArray, List.set_cons_zero, List.set_cons_succ])
  refine wpAnyH_take (i := 5) (v := ?_) rfl (by kernel_rfl) (by kernel_rfl) (by kernel_rfl) (fun _ _ _ h => h) (Or.inl ⟨by rfl, ?_⟩) (by with_reducible assumption) ?_
  rotate_left
  · intro w hSw; (try dsimp only at hSw); (try go_split_ands); go_simp; (try with_reducible rfl)
  (try simp only [Act.put, List.getElem_toArray, List.getElem_cons_succ, List.getElem_cons_zero, List.setIfInBounds_toArray, List.set_cons_zero, List.set_cons_succ])
  refine wpAnyH_take (i := 6) (v := ?_) rfl (by kernel_rfl) (by kernel_rfl) (by kernel_rfl) (fun _ _ _ h => h) (Or.inl ⟨by rfl, ?_⟩) (by with_reducible assumption) ?_
  rotate_left
  · intro w hSw; (try dsimp only at hSw); (try go_split_ands); go_simp; (try with_reducible rfl)
  (try simp only [Act.put, List.getElem_toArray, List.getElem_cons_succ, List.getElem_cons_zero, List.setIfInBounds_toArray, List.set_cons_zero, List.set_cons_succ])
  refine wpAnyH_take (i := 7) (v := ?_) rfl (by kernel_rfl) (by kernel_rfl) (by kernel_rfl) (fun _ _ _ h => h) (Or.inl ⟨by rfl, ?_⟩) (by with_reducible assumption) ?_
  rotate_left
  · intro w hSw; (try dsimp only at hSw); (try go_split_ands); go_simp; (try with_reducible rfl)
  (try simp only [Act.put, List.getElem_toArray, List.getElem_cons_succ, List.getElem_cons_zero, List.setIfInBounds_toArray, List.set_cons_zero, List.set_cons_succ])
  refine wpAnyH_take (i := 8) (v := ?_) rfl (by kernel_rfl) (by kernel_rfl) (by kernel_rfl) (fun _ _ _ h => h) (Or.inl ⟨by rfl, ?_⟩) (by with_reducible assumption) ?_
  rotate_left
  · intro w hSw; (try dsimp only at hSw); (try go_split_ands); go_simp; (try with_reducible rfl)
  (try simp only [Act.put, List.getElem_toArray, List.getElem_cons_succ, List.getElem_cons_zero, List.setIfInBounds_toArray, List.set_cons_zero, List.set_cons_succ])
  refine wpAnyH_take (i := 9) (v := ?_) rfl (by kernel_rfl) (by kernel_rfl) (by kernel_rfl) (fun _ _ _ h => h) (Or.inl ⟨by rfl, ?_⟩) (by with_reducible assumption) ?_
  rotate_left
  · intro w hSw; (try dsimp only at hSw); (try go_split_ands); go_simp; (try with_reducible rfl)
  (try simp only [Act.put, List.getElem_toArray, List.getElem_cons_succ, List.getElem_cons_zero, List.setIfInBounds_toArray, List.set_cons_zero, List.set_cons_succ])
  refine wpAnyH_take (i := 10) (v := ?_) rfl (by kernel_rfl) (by kernel_rfl) (by kernel_rfl) (fun _ _ _ h => h) (Or.inl ⟨by rfl, ?_⟩) (by with_reducible assumption) ?_
  rotate_left
  · intro w hSw; (try dsimp only at hSw); (try go_split_ands); go_simp; (try with_reducible rfl)
  (try simp only [Act.put, List.getElem_toArray, List.getElem_cons_succ, List.getElem_cons_zero, List.setIfInBounds_toArray, List.set_cons_zero, List.set_cons_succ])
  refine wpAnyH_take (i := 11) (v := ?_) rfl (by kernel_rfl) (by kernel_rfl) (by kernel_rfl) (fun _ _ _ h => h) (Or.inl ⟨by rfl, ?_⟩) (by with_reducible assumption) ?_
  rotate_left
  · intro w hSw; (try dsimp only at hSw); (try go_split_ands); go_simp; (try with_reducible rfl)
  (try simp only [Act.put, List.getElem_toArray, List.getElem_cons_succ, List.getElem_cons_zero, List.setIfInBounds_toArray, List.set_cons_zero, List.set_cons_succ])
  refine wpAnyH_ready (rs := [2]) (by kernel_rfl) (by simp) ?_
  refine AllReadyH.cons rfl (fun K9 hK9 => ?_) AllReadyH.nil
  rw [if_pos (by rfl)]
  go_simp
  go_wp2_with (go_at_call 23; (with_reducible refine (hT _).mono ?_); rintro e w' ⟨rfl, hw'⟩; obtain rfl := hw'.symm)
  refine hK9.out _ _ ⟨hHeld.1, rfl⟩ (fun hHeld => ?_)
  clear hK9 K9
  (try simp only [Act.put, List.getElem_toArray, List.getElem_cons_succ, List.getElem_cons_zero, List.setIfInBounds_toArray, List.set_cons_zero, List.set_cons_succ])
  refine wpAnyH_take (i := 12) (v := ?_) rfl (by kernel_rfl) (by kernel_rfl) (by kernel_rfl) (fun _ _ _ h => h) (Or.inl ⟨by rfl, ?_⟩) (by with_reducible assumption) ?_
  rotate_left
  · intro w hSw; (try dsimp only at hSw); (try go_split_ands); go_simp; (try with_reducible rfl)
  (try simp only [Act.put, List.getElem_toArray, List.getElem_cons_succ, List.getElem_cons_zero, List.setIfInBounds_toArray, List.set_cons_zero, List.set_cons_succ])
  refine wpAnyH_done (by kernel_rfl) ?_ _
  clear hHeld hT hwr
  go_upto_region 5 with fail
  have hb1 : Below w.heap.size w w.drew := (Below.refl _ _).drew
  generalize w.drew = w1 at hb1 ⊢
  have hsec := sectors_walk (cc := cc) (place := ((s.place : Nat) : Int)) ⟨HH.out.1.ok.len, HH.out.1.ok.byte, HH.out.1.ok.num, HH.out.1.chs.below hb1, by have := HH.out.1.k2; omega⟩ HH.out.2
  rw [← markL_eq] at hsec
  obtain ⟨pages, hpg⟩ : ∃ pages, pages = recPgs s.last s.num l := ⟨_, rfl⟩
  have hDl : (recSum s.last s.num l).length = 32 := digest_length _
  have hpl := recPgs_length s.last s.num l
  have hpo := recPgs_ok (last := s.last) (num := s.num) HH.out.1.chs.ok
  rw [← hpg] at hsec hpl hpo
  generalize hD : recSum s.last s.num l = Dg at hsec hDl
  have H1 := Lib.hid (And.intro hb1 (And.intro (HH.out.1.rg.below hb1) (And.intro hpo hpl)))
  have HDL := Lib.hid (And.intro hDl (And.intro hD hpg))
  clear hb1 hDl hD hpg hpo hpl
  have hml : (markL s).length = 34 := markL_length HH.out.1.ok.len
  go_upto_region 6 with (first
    | (refine wpList_load_mid (by rfl) 38 (.tmp 33) (by rfl) rr 3 (by rfl) (markL s) _ H1.out.2.1.mark Tryd.underlying38 rfl (by rw [hml]; kernel_rfl) ?_)
    | (go_at_call 12; (with_reducible refine hsec.mono ?_); rintro e w2 ⟨v2, rfl, hr2, hb2⟩; obtain ⟨pa, pc, e2⟩ := hr2.slice; obtain ⟨pn, hpn⟩ : ∃ pn, pn = pages.length := ⟨_, rfl⟩; rw [← hpn] at e2; subst e2; have H2 := Lib.hid (And.intro hr2 (And.intro hb2 hpn)); clear hr2 hb2 hpn)
    | (refine wpList_alloc_info (by rfl) 23 (by rfl) (.agg (nv .u8 Z32)) (nv .u8 Z32) (by kernel_rfl) rfl ?_)
    | (refine wpList_store_row (by rfl) 23 (.tmp 6) (.tmp 38) (by rfl) _ (nv .u8 Dg) (by rfl) (by rfl) 23 (nv .u8 Z32) (heap_alloc_new _ _) (by rw [nv_size, HDL.out.1]; kernel_rfl) (by rw [nv_size, nv_size, HDL.out.1]; rfl) (nv_one _ _) ?_))
  have hv := mk_var w2 (nv .u8 Z32) (nv .u8 Dg) 23
  generalize (w2.alloc (.cells (nv .u8 Z32) 23)).setRow w2.heap.size (nv .u8 Dg) = w3 at hv ⊢
  have hb13 : Below w.heap.size w w3 := H1.out.1.trans ((H2.out.2.1.trans (hv.2.mono H2.out.2.1.size)).mono H1.out.1.size)
  have hsl : w.heap.size ≤ w2.heap.size := Nat.le_trans H1.out.1.size H2.out.2.1.size
  have H3 := Lib.hid (And.intro hv.1 (And.intro hb13 (And.intro (HH.out.1.ri.grow hb13) (And.intro (HH.out.1.rg.below hb13) (And.intro ((H2.out.1.below hv.2).mono H1.out.1.size) hsl)))))
  clear hv hb13 hsl hsec hml
  obtain ⟨sb, hsb⟩ : ∃ sb, sb = w2.heap.size := ⟨_, rfl⟩
  rw [← hsb] at H3 ⊢
  clear hsb
  have hpn1 : pn ≤ 100 := by rw [H2.out.2.2, H1.out.2.2.2, ← HH.out.2, ← HT.out]; exact hT2
  go_upto_block 0 with fail
  go_cut [7] (fun _ wx => Hid (RI (Grow X w w3) B wx db kb d (putAll s pages 0 m) ∧ But (fun k => ¬ Grow X w w3 k) w3 wx ∧ Below B w wx))
  case first =>
    -- {
    go_wp2_with fail
    go_loopw [7] (fun i wr => ∃ j : Nat, ∃ mj : DK, j ≤ pn ∧ i = .int .i64 j ∧ Hid (OnB n (kk + j) mj ∧ putAll s (pages.drop j) j mj = putAll s pages 0 m ∧ RI (Grow X w w3) B wr db kb d mj ∧ But (fun k => ¬ Grow X w w3 k) w3 wr ∧ Below B w wr)) (fun i _ => pn - (intOf i).toNat)
    case atStart => exact ⟨0, m, by omega, rfl, HH.out.1.on, rfl, H3.out.2.2.1, But.refl _ _, H3.out.2.1.mono HH.out.1.hB⟩
    case round =>
      obtain ⟨j, mj, hj, rfl, HR⟩ := hrel
      by_cases hjl : j < pn
      · obtain ⟨p, hp⟩ : ∃ p, pages[j]? = some p := ⟨_, List.getElem?_eq_getElem (by rw [← H2.out.2.2]; exact hjl)⟩
        have hpo := H1.out.2.2.1 p (List.mem_of_getElem? hp)
        have hrow := H3.out.2.2.2.2.1.but HR.out.2.2.2.1 (fun k hk e => e (.inr ⟨H3.out.2.2.2.2.1.base_le k hk, H3.out.2.2.2.2.1.lt k hk⟩))
        obtain ⟨g, c', e, hrg, _⟩ := hrow.range (by decide) hp
        have hgX : Grow X w w3 g := .inr ⟨H3.out.2.2.2.2.1.base_le g (by rw [e]; rfl), H3.out.2.2.2.2.1.lt g (by rw [e]; rfl)⟩
        injection e with e1 e2 e3
        clear e2
        subst e1 e3
        have hrr := IsRg.but H3.out.2.2.2.1 HR.out.2.2.2.1 (fun e => e (.inl HH.out.1.xr))
        have c0 := hrr.c0
        have c1 := hrr.c1
        have c2 := hrr.c2
        have c3 := hrr.c3
        have HP := Lib.hid (And.intro hrg (And.intro hpo (And.intro hp hgX)))
        clear hrow hrr hpo hp hgX
        have j1 : (j : Int) < (pn : Int) := by omega
        obtain ⟨I, hI⟩ : ∃ I, I = s.place + j := ⟨_, rfl⟩
        have hrm := rem_nat I s.n
        obtain ⟨Q, hQ⟩ : ∃ Q, Q = I % s.n := ⟨_, rfl⟩
        obtain ⟨Z, hZ⟩ : ∃ Z, Z = s.first + Q := ⟨_, rfl⟩
        have hZe : Z = s.first + (s.place + j) % s.n := by rw [hZ, hQ, hI]
        rw [← hQ] at hrm
        have hn0 : ¬ ((s.n : Int) = 0) := by have := HH.out.1.ok.n1; omega
        have hnN : ¬ s.n = 0 := by have := HH.out.1.ok.n1; omega
        have hn0b : ((s.n : Int) == 0) = false := by simp; have := HH.out.1.ok.n1; omega
        have hQn : Q < s.n := by rw [hQ]; exact Nat.mod_lt _ (by omega)
        have hfit := HH.out.1.ok.fit
        have hpl := HH.out.1.ok.place
        have hsz : n ≤ 4096 := by
          obtain ⟨fb, cap, av, wv, hdk⟩ := HH.out.1.ri.rd
          have h1 := hdk.n2
          rw [HH.out.1.on.len] at h1
          exact h1
        have hZ2 : (s.first : Int) + (Q : Int) = (Z : Int) := by omega
        have hw0 : IntKind.i64.wrap ((s.place : Int) + (j : Int)) = (I : Int) := ((IntWalk.i64_left _).trans (IntWalk.wrap64_in _ ⟨by omega, by omega⟩)).trans (by omega)
        have hw1 : IntKind.i64.wrap (Z : Int) = (Z : Int) := (IntWalk.i64_left _).trans (IntWalk.wrap64_in _ ⟨by omega, by omega⟩)
        have hmod : Z < n := by omega
        have HZ := Lib.hid (And.intro hZe hmod)
        clear hI hQ hZ hZe hfit hpl
        go_upto_region 9 with fail
        refine wp_region_held_drew (S := fun w' => w'.cell? ⟨rr, 0, none⟩ = some (.pointer (some ⟨kb, 0, none⟩)) ∧ w'.cell? ⟨rr, 1, none⟩ = some (.int .i64 ((s.first : Nat) : Int)) ∧ w'.cell? ⟨rr, 2, none⟩ = some (.int .i64 ((s.n : Nat) : Int)) ∧ w'.cell? ⟨rr, 3, none⟩ = some (.int .i64 ((s.place : Nat) : Int)) ∧ w'.rangeAt g (j * 64) (bv p)) (by kernel_rfl) ⟨c0, c1, c2, c3, HP.out.1⟩ (fun hHeld => ?_)
        clear c0 c1 c2 c3
        refine wpAnyH_take (i := 0) (v := ?_) rfl (by kernel_rfl) (by kernel_rfl) (by kernel_rfl) (fun _ _ _ h => h) (Or.inl ⟨by rfl, ?_⟩) (by with_reducible assumption) ?_
        rotate_left
        · intro w hSw; (try dsimp only at hSw); (try go_split_ands); go_simp; (try with_reducible rfl)
        (try simp only [Act.put, List.getElem_toArray, List.getElem_cons_succ, List.getElem_cons_zero, List.setIfInBounds_toArray, List.set_cons_zero, List.set_cons_succ])
        refine wpAnyH_take (i := 1) (v := ?_) rfl (by kernel_rfl) (by kernel_rfl) (by kernel_rfl) (fun _ _ _ h => h) (Or.inl ⟨by rfl, ?_⟩) (by with_reducible assumption) ?_
        rotate_left
        · intro w hSw; (try dsimp only at hSw); (try go_split_ands); go_simp; (try with_reducible rfl)
        (try simp only [Act.put, List.getElem_toArray, List.getElem_cons_succ, List.getElem_cons_zero, List.setIfInBounds_toArray, List.set_cons_zero, List.set_cons_succ])
        refine wpAnyH_take (i := 2) (v := ?_) rfl (by kernel_rfl) (by kernel_rfl) (by kernel_rfl) (fun _ _ _ h => h) (Or.inl ⟨by rfl, ?_⟩) (by with_reducible assumption) ?_
        rotate_left
        · intro w hSw; (try dsimp only at hSw); (try go_split_ands); go_simp; (try with_reducible rfl)
        (try simp only [Act.put, List.getElem_toArray, List.getElem_cons_succ, List.getElem_cons_zero, List.setIfInBounds_toArray, List.set_cons_zero, List.set_cons_succ])
        refine wpAnyH_take (i := 3) (v := ?_) rfl (by kernel_rfl) (by kernel_rfl) (by kernel_rfl) (fun _ _ _ h => h) (Or.inl ⟨by rfl, ?_⟩) (by with_reducible assumption) ?_
        rotate_left
        · intro w hSw; (try dsimp only at hSw); (try go_split_ands); go_simp; (try with_reducible rfl)
        (try simp only [Act.put, List.getElem_toArray, List.getElem_cons_succ, List.getElem_cons_zero, List.setIfInBounds_toArray, List.set_cons_zero, List.set_cons_succ])
        refine wpAnyH_take (i := 4) (v := ?_) rfl (by kernel_rfl) (by kernel_rfl) (by kernel_rfl) (fun _ _ _ h => h) (Or.inl ⟨by rfl, ?_⟩) (by with_reducible assumption) ?_
        rotate_left
        · intro w hSw; (try dsimp only at hSw); (try go_split_ands); go_simp; (try with_reducible rfl)
        (try simp only [Act.put, List.getElem_toArray, List.getElem_cons_succ, List.getElem_cons_zero, List.setIfInBounds_toArray, List.set_cons_zero, List.set_cons_succ])
        refine wpAnyH_take (i := 5) (v := ?_) rfl (by kernel_rfl) (by kernel_rfl) (by kernel_rfl) (fun _ _ _ h => h) (Or.inl ⟨by rfl, ?_⟩) (by with_reducible assumption) ?_
        rotate_left
        · intro w hSw; (try dsimp only at hSw); (try go_split_ands); go_simp; (try with_reducible rfl)
        (try simp only [Act.put, List.getElem_toArray, List.getElem_cons_succ, List.getElem_cons_zero, List.setIfInBounds_toArray, List.set_cons_zero, List.set_cons_succ])
        refine wpAnyH_take (i := 6) (v := ?_) rfl (by kernel_rfl) (by kernel_rfl) (by kernel_rfl) (fun _ _ _ h => h) (Or.inl ⟨by rfl, ?_⟩) (by with_reducible assumption) ?_
        rotate_left
        · intro w hSw; (try dsimp only at hSw); (try go_split_ands); go_simp; (try with_reducible rfl)
        (try simp only [Act.put, List.getElem_toArray, List.getElem_cons_succ, List.getElem_cons_zero, List.setIfInBounds_toArray, List.set_cons_zero, List.set_cons_succ])
        refine wpAnyH_take (i := 7) (v := ?_) rfl (by kernel_rfl) (by kernel_rfl) (by kernel_rfl) (fun _ _ _ h => h) (Or.inl ⟨by rfl, ?_⟩) (by with_reducible assumption) ?_
        rotate_left
        · intro w hSw; (try dsimp only at hSw); (try go_split_ands); go_simp; (try with_reducible rfl)
        (try simp only [Act.put, List.getElem_toArray, List.getElem_cons_succ, List.getElem_cons_zero, List.setIfInBounds_toArray, List.set_cons_zero, List.set_cons_succ])
        refine wpAnyH_take (i := 8) (v := ?_) rfl (by kernel_rfl) (by kernel_rfl) (by kernel_rfl) (fun _ _ _ h => h) (Or.inl ⟨by rfl, ?_⟩) (by with_reducible assumption) ?_
        rotate_left
        · intro w hSw; (try dsimp only at hSw); (try go_split_ands); go_simp; (try with_reducible rfl)
        (try simp only [Act.put, List.getElem_toArray, List.getElem_cons_succ, List.getElem_cons_zero, List.setIfInBounds_toArray, List.set_cons_zero, List.set_cons_succ])
        refine wpAnyH_take (i := 9) (v := ?_) rfl (by kernel_rfl) (by kernel_rfl) (by kernel_rfl) (fun _ _ _ h => h) (Or.inl ⟨by rfl, ?_⟩) (by with_reducible assumption) ?_
        rotate_left
        · intro w hSw; (try dsimp only at hSw); (try go_split_ands); go_simp; (try with_reducible rfl)
        (try simp only [Act.put, List.getElem_toArray, List.getElem_cons_succ, List.getElem_cons_zero, List.setIfInBounds_toArray, List.set_cons_zero, List.set_cons_succ])
        refine wpAnyH_take (i := 10) (v := ?_) rfl (by kernel_rfl) (by kernel_rfl) (by kernel_rfl) (fun _ _ _ h => h) (Or.inl ⟨by rfl, ?_⟩) (by with_reducible assumption) ?_
        rotate_left
        · intro w hSw; (try dsimp only at hSw); (try go_split_ands); go_simp; (try with_reducible rfl)
        (try simp only [Act.put, List.getElem_toArray, List.getElem_cons_succ, List.getElem_cons_zero, List.setIfInBounds_toArray, List.set_cons_zero, List.set_cons_succ])
        refine wpAnyH_take (i := 11) (v := ?_) rfl (by kernel_rfl) (by kernel_rfl) (by kernel_rfl) (fun _ _ _ h => h) (Or.inl ⟨by rfl, ?_⟩) (by with_reducible assumption) ?_
        rotate_left
        · intro w hSw; (try dsimp only at hSw); (try go_split_ands); go_simp; (try with_reducible rfl)
        (try simp only [Act.put, List.getElem_toArray, List.getElem_cons_succ, List.getElem_cons_zero, List.setIfInBounds_toArray, List.set_cons_zero, List.set_cons_succ])
        refine wpAnyH_take (i := 12) (v := ?_) rfl (by kernel_rfl) (by kernel_rfl) (by kernel_rfl) (fun _ _ _ h => h) (Or.inl ⟨by rfl, ?_⟩) (by with_reducible assumption) ?_
        rotate_left
        · intro w hSw; (try dsimp only at hSw); (try go_split_ands); go_simp; (try with_reducible rfl)
        (try simp only [Act.put, List.getElem_toArray, List.getElem_cons_succ, List.getElem_cons_zero, List.setIfInBounds_toArray, List.set_cons_zero, List.set_cons_succ])
        refine wpAnyH_take (i := 13) (v := ?_) rfl (by kernel_rfl) (by kernel_rfl) (by kernel_rfl) (fun _ _ _ h => h) (Or.inl ⟨by rfl, ?_⟩) (by with_reducible assumption) ?_
        rotate_left
        · intro w hSw; (try dsimp only at hSw); (try go_split_ands); go_simp; (try with_reducible rfl)
        (try simp only [Act.put, List.getElem_toArray, List.getElem_cons_succ, List.getElem_cons_zero, List.setIfInBounds_toArray, List.set_cons_zero, List.set_cons_succ])
        refine wpAnyH_take (i := 14) (v := ?_) rfl (by kernel_rfl) (by kernel_rfl) (by kernel_rfl) (fun _ _ _ h => h) (Or.inl ⟨by rfl, ?_⟩) (by with_reducible assumption) ?_
        rotate_left
        · intro w hSw; (try dsimp only at hSw); (try go_split_ands); go_simp; (try with_reducible rfl)
        (try simp only [Act.put, List.getElem_toArray, List.getElem_cons_succ, List.getElem_cons_zero, List.setIfInBounds_toArray, List.set_cons_zero, List.set_cons_succ])
        refine wpAnyH_take (i := 15) (v := ?_) rfl (by kernel_rfl) (by kernel_rfl) (by kernel_rfl) (fun _ _ _ h => h) (Or.inl ⟨by rfl, ?_⟩) (by with_reducible assumption) ?_
        rotate_left
        · intro w hSw; (try dsimp only at hSw); (try go_split_ands); go_simp; (try with_reducible rfl)
        (try simp only [Act.put, List.getElem_toArray, List.getElem_cons_succ, List.getElem_cons_zero, List.setIfInBounds_toArray, List.set_cons_zero, List.set_cons_succ])
        refine wpAnyH_take (i := 16) (v := ?_) rfl (by kernel_rfl) (by kernel_rfl) (by kernel_rfl) (fun _ _ _ h => h) (Or.inl ⟨by rfl, ?_⟩) (by with_reducible assumption) ?_
        rotate_left
        · intro w hSw; (try dsimp only at hSw); (try go_split_ands); go_simp; (try with_reducible rfl)
        (try simp only [Act.put, List.getElem_toArray, List.getElem_cons_succ, List.getElem_cons_zero, List.setIfInBounds_toArray, List.set_cons_zero, List.set_cons_succ])
        refine wpAnyH_take (i := 17) (v := ?_) rfl (by kernel_rfl) (by kernel_rfl) (by kernel_rfl) (fun _ _ _ h => h) (Or.inl ⟨by rfl, ?_⟩) (by with_reducible assumption) ?_
        rotate_left
        · intro w hSw; (try dsimp only at hSw); (try go_split_ands); go_simp; (try with_reducible rfl)
        (try simp only [Act.put, List.getElem_toArray, List.getElem_cons_succ, List.getElem_cons_zero, List.setIfInBounds_toArray, List.set_cons_zero, List.set_cons_succ])
        refine wpAnyH_take (i := 18) (v := ?_) rfl (by kernel_rfl) (by kernel_rfl) (by kernel_rfl) (fun _ _ _ h => h) (Or.inl ⟨by rfl, ?_⟩) (by with_reducible assumption) ?_
        rotate_left
        · intro w hSw; (try dsimp only at hSw); (try go_split_ands); go_simp; (try with_reducible rfl)
        (try simp only [Act.put, List.getElem_toArray, List.getElem_cons_succ, List.getElem_cons_zero, List.setIfInBounds_toArray, List.set_cons_zero, List.set_cons_succ])
        refine wpAnyH_take (i := 19) (v := ?_) rfl (by kernel_rfl) (by kernel_rfl) (by kernel_rfl) (fun _ _ _ h => h) (Or.inl ⟨by rfl, ?_⟩) (by with_reducible assumption) ?_
        rotate_left
        · intro w hSw; (try dsimp only at hSw); (try go_split_ands); go_simp; (try with_reducible rfl)
        (try simp only [Act.put, List.getElem_toArray, List.getElem_cons_succ, List.getElem_cons_zero, List.setIfInBounds_toArray, List.set_cons_zero, List.set_cons_succ])
        refine wpAnyH_take (i := 20) (v := ?_) rfl (by kernel_rfl) (by kernel_rfl) (by kernel_rfl) (fun _ _ _ h => h) (Or.inl ⟨by rfl, ?_⟩) (by with_reducible assumption) ?_
        rotate_left
        · intro w hSw; (try dsimp only at hSw); (try go_split_ands); go_simp; (try with_reducible rfl)
        (try simp only [Act.put, List.getElem_toArray, List.getElem_cons_succ, List.getElem_cons_zero, List.setIfInBounds_toArray, List.set_cons_zero, List.set_cons_succ])
        refine wpAnyH_take (i := 21) (v := ?_) rfl (by kernel_rfl) (by kernel_rfl) (by kernel_rfl) (fun _ _ _ h => h) (Or.inl ⟨by rfl, ?_⟩) (by with_reducible assumption) ?_
        rotate_left
        · intro w hSw; (try dsimp only at hSw); (try go_split_ands); go_simp; (try with_reducible rfl)
        (try simp only [Act.put, List.getElem_toArray, List.getElem_cons_succ, List.getElem_cons_zero, List.setIfInBounds_toArray, List.set_cons_zero, List.set_cons_succ])
        refine wpAnyH_take (i := 22) (v := ?_) rfl (by kernel_rfl) (by kernel_rfl) (by kernel_rfl) (fun _ _ _ h => h) (Or.inl ⟨by rfl, ?_⟩) (by with_reducible assumption) ?_
        rotate_left
        · intro w hSw; (try dsimp only at hSw); (try go_split_ands); go_simp; (try with_reducible rfl)
        (try simp only [Act.put, List.getElem_toArray, List.getElem_cons_succ, List.getElem_cons_zero, List.setIfInBounds_toArray, List.set_cons_zero, List.set_cons_succ])
        refine wpAnyH_take (i := 23) (v := ?_) rfl (by kernel_rfl) (by kernel_rfl) (by kernel_rfl) (fun _ _ _ h => h) (Or.inl ⟨by rfl, ?_⟩) (by with_reducible assumption) ?_
        rotate_left
        · intro w hSw; (try dsimp only at hSw); (try go_split_ands); go_simp; (try with_reducible rfl)
        (try simp only [Act.put, List.getElem_toArray, List.getElem_cons_succ, List.getElem_cons_zero, List.setIfInBounds_toArray, List.set_cons_zero, List.set_cons_succ])
        refine wpAnyH_take (i := 24) (v := .agg (bv p).toArray) rfl (by kernel_rfl) (by kernel_rfl) (by kernel_rfl) (fun _ _ _ h => h) (yieldsIf_load_mid (by rfl) 48 (.tmp 68) (by rfl) g (j * 64) (by rfl) (bv p) _ (fun w hS => hS.2.2.2.2) Tryd.underlying48 rfl (by rw [bv_length, HP.out.2.1.1]; kernel_rfl)) (by with_reducible assumption) ?_
        (try simp only [Act.put, List.getElem_toArray, List.getElem_cons_succ, List.getElem_cons_zero, List.setIfInBounds_toArray, List.set_cons_zero, List.set_cons_succ])
        have hwr := (HR.out.2.2.1.below ((Below.refl wr.heap.size wr).drew)).writeM ((Z : Nat) : Int) p HP.out.2.1.1 (by have := HR.out.1.pl; have := HH.out.1.kk; omega) (Nat.le_trans HH.out.1.hB HR.out.2.2.2.2.size)
        rw [(onB_write HR.out.1 _ HZ.out.2 p).2] at hwr
        refine wpAnyH_ready (rs := [25]) (by kernel_rfl) (by simp) ?_
        refine AllReadyH.cons rfl (fun K9 hK9 => ?_) AllReadyH.nil
        go_simp
        go_wp2_with (go_at_call 16; refine hwr.mono ?_; rintro e w6 ⟨rfl, h6, hb6, hc6⟩; have H6 := Lib.hid (And.intro h6 (And.intro hb6 hc6)); clear h6 hb6 hc6)
        clear hwr
        have hrx : (fun k => ¬ Grow X w w3 k) rr → False := fun e => e (.inl HH.out.1.xr)
        refine hK9.out _ _ ⟨(H6.out.2.2.cell (cell_lt hHeld.1) hrx).trans hHeld.1, (H6.out.2.2.cell (cell_lt hHeld.2.1) hrx).trans hHeld.2.1, (H6.out.2.2.cell (cell_lt hHeld.2.2.1) hrx).trans hHeld.2.2.1, (H6.out.2.2.cell (cell_lt hHeld.2.2.2.1) hrx).trans hHeld.2.2.2.1, fun i v hv => (H6.out.2.2.cell (cell_lt (hHeld.2.2.2.2 i v hv)) (fun e => e HP.out.2.2.2)).trans (hHeld.2.2.2.2 i v hv)⟩ (fun hHeld => ?_)
        clear hK9 K9 hrx
        (try simp only [Act.put, List.getElem_toArray, List.getElem_cons_succ, List.getElem_cons_zero, List.setIfInBounds_toArray, List.set_cons_zero, List.set_cons_succ])
        refine wpAnyH_take (i := 26) (v := ?_) rfl (by kernel_rfl) (by kernel_rfl) (by kernel_rfl) (fun _ _ _ h => h) (Or.inl ⟨by rfl, ?_⟩) (by with_reducible assumption) ?_
        rotate_left
        · intro w hSw; (try dsimp only at hSw); (try go_split_ands); go_simp; (try with_reducible rfl)
        (try simp only [Act.put, List.getElem_toArray, List.getElem_cons_succ, List.getElem_cons_zero, List.setIfInBounds_toArray, List.set_cons_zero, List.set_cons_succ])
        refine wpAnyH_done (by kernel_rfl) ?_ _
        clear hHeld
        have hbt : But (fun k => ¬ Grow X w w3 k) w3 w6 := HR.out.2.2.2.1.drew.trans H6.out.2.2
        have hfb : Below B w w6 := HR.out.2.2.2.2.drew.trans H6.out.2.1
        have hput : putAll s (pages.drop (j + 1)) (j + 1) (mj.write ((Z : Nat) : Int) p) = putAll s pages 0 m := by
          rw [HZ.out.1, ← HR.out.2.1, List.drop_eq_getElem_cons (show j < pages.length by rw [← H2.out.2.2]; exact hjl), (List.getElem?_eq_some_iff.1 HP.out.2.2.1).2]
          rfl
        have HF := Lib.hid (And.intro (onB_written HR.out.1 _ HZ.out.2 p HP.out.2.1.1 HP.out.2.1.2) (And.intro hput (And.intro H6.out.1 (And.intro hbt hfb))))
        clear hbt hfb hput
        go_wp2_with fail
        go_round
        case rel => exact ⟨j + 1, _, by omega, by go_num, HF.out⟩
        case measure => simp [intOf]; omega
      · obtain rfl : j = pn := by omega
        have hfin := HR.out
        rw [H2.out.2.2, List.drop_length] at hfin
        have HF := Lib.hid (And.intro hfin.2.1 hfin.2.2)
        clear hfin
        go_wp2_with fail
        go_meet
        rw [← HF.out.1]
        exact HF.out.2
    -- }
  case rest =>
    have HD := hcut
    obtain ⟨w7, hw7⟩ : ∃ w : World, w = wc := ⟨_, rfl⟩
    subst hw7
    have hsb7 : IsBlk w7 sb (nv .u8 Dg) 23 := HD.out.2.1.blk H3.out.1 (fun e => e (.inr ⟨H3.out.2.2.2.2.2, H3.out.1.lt⟩))
    have hrg7 := IsRg.but H3.out.2.2.2.1 HD.out.2.1 (fun e => e (.inl HH.out.1.xr))
    have hbh := rbehind_any hrg7 HH.out.1.ok k (by omega) Dg HDL.out.1
    have HS7 := Lib.hid hsb7
    clear hsb7 hrg7
    go_wp2_with (first
      | (refine wpList_load_row (by rfl) 23 (.tmp 6) (by rfl) sb (by rfl) 23 (nv .u8 Dg) (0, 0) _ HS7.out Tryd.underlying23 rfl (by rw [nv_size, HDL.out.1]; kernel_rfl) ?_)
      | (go_at_call 41; (with_reducible refine hbh.mono ?_); rintro e w8 ⟨⟨v8, rfl⟩, h8, hb8⟩; have H8 := Lib.hid (And.intro h8 hb8); clear h8 hb8))
    go_ret
    refine ⟨rfl, by rw [HDL.out.2.1]; exact H8.out.1, ?_, ?_, ?_⟩
    · rw [← HDL.out.2.2]
      exact (HD.out.1.but H8.out.2 (fun k hk => hk ▸ .inl HH.out.1.xr)).less (fun k hk => .inl hk)
    · exact ((But.of_below H3.out.2.1 (Nat.le_refl _)).trans (HD.out.2.1.mono (fun k hk => .inl (fun x => hk (.inl x))))).trans (H8.out.2.mono (fun k hk => .inr hk))
    · exact HD.out.2.2.trans (H8.out.2.below (Nat.le_trans HH.out.1.hB HD.out.2.2.size) (fun k hk => hk ▸ HH.out.1.hr))
end Go.Proofs.YtkabkehfckbhcaaDoor
