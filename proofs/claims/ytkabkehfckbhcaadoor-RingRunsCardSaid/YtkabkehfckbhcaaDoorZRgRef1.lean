/-
  ring: the reference's at and behind.
-/
import Derived.Test.YtkabkehfckbhcaaDoorZRgStands
import Derived.Deep.MidRow
import Derived.Test.YtkabkehfckbhcaaDoorMgA
namespace Go.Proofs.YtkabkehfckbhcaaDoor
set_option linter.unusedVariables false
set_option linter.unusedSimpArgs false
open Go.RowKit

/-- What the reference's next is asked of. -/
structure NxH (w : World) (rr kb : Nat) (s : RS) (n kk : Nat) (d : DK) : Prop where
  isrr : IsRg 68 w rr kb s
  ok : RSok s n
  rd : ∃ B fb cap av wv, IsRd w B kb fb cap av wv d
  on : OnB n kk d
  kk : kk ≤ 100000
  n2 : n ≤ 4096
theorem NxH.below {w w' : World} {rr kb : Nat} {s : RS} {n kk : Nat} {d : DK} (h : NxH w rr kb s n kk d) (hb : Below w.heap.size w w') : NxH w' rr kb s n kk d := by
  obtain ⟨B, fb, cap, av, wv, h1⟩ := h.rd
  exact ⟨h.isrr.below hb, h.ok, ⟨B, fb, cap, av, wv, h1.below hb⟩, h.on, h.kk, h.n2⟩
theorem NxH.in_ {w : World} {rr kb : Nat} {s : RS} {n kk : Nat} {d : DK} (h : NxH w rr kb s n kk d) (i : Nat) : s.first + (s.place + i) % s.n < n := by
  have := Nat.mod_lt (s.place + i) (show 0 < s.n by have := h.ok.n1; omega)
  have := h.ok.fit
  omega
theorem NxH.sec {w : World} {rr kb : Nat} {s : RS} {n kk : Nat} {d : DK} (h : NxH w rr kb s n kk d) (i : Nat) : d.readE ((s.first + (s.place + i) % s.n : Nat) : Int) = 0 ∧ (s.sector d i).length = 64 ∧ ∀ c ∈ s.sector d i, c < 256 := onB_read h.on (h.in_ i)
theorem NxH.read {w : World} {rr kb : Nat} {s : RS} {n kk : Nat} {d : DK} (h : NxH w rr kb s n kk d) (i : Nat) {X : Nat} (hX : X = s.first + (s.place + i) % s.n) : Calls Tryd.prog 29 #[.pointer (some ⟨kb, 0, none⟩), .int .i64 ((X : Nat) : Int)] w fun e w' => e = .returned (.tuple #[pgV (s.sector d i), .int .i64 0]) ∧ Below w.heap.size w w' := by
  subst hX
  obtain ⟨B, fb, cap, av, wv, h1⟩ := h.rd
  have := ref_read h1 ((s.first + (s.place + i) % s.n : Nat) : Int) (by have := h.on.pl; have := h.kk; omega)
  rw [(h.sec i).1] at this
  exact this
theorem rat_ret {w2 : World} {pb : Nat} {p : List Nat} (hp : p.length = 64) {a : Act} {v : Value} {R : Ending → World → Prop} (hk : IsBlk w2 pb (nv .u8 p) 48)
    (h4 : a.tmps.getD 4 undef = .pointer (some ⟨pb, 0, none⟩)) (h5 : a.tmps.getD 5 undef = v) (hd : a.defers = []) (hR : R (.returned (.tuple #[pgV p, v])) w2) : bodyPost Tryd.prog Tryd.f51 R .ret a w2 := by
  refine bodyPost_ret (v := .tuple #[pgV p, v]) ?_ hd hR
  rw [← h5]
  exact results_cell_tmp Tryd.results51 _ _ pb 48 (nv .u8 p) (0, 0) (.array 64 5) h4 hk (by kernel_rfl) rfl (info_pg _ hp)
set_option maxRecDepth 100000 in
set_option maxHeartbeats 4000000 in
theorem rat_any {w : World} {rr kb : Nat} {s : RS} {n kk : Nat} {d : DK} (H : NxH w rr kb s n kk d) (i : Nat) : Calls Tryd.prog 51 #[.pointer (some ⟨rr, 0, none⟩), .int .i64 ((s.place + i : Nat) : Int)] w fun e w' => e = .returned (.tuple #[pgV (s.sector d i), .int .i64 0]) ∧ Below w.heap.size w w' := by
  have HH := Lib.hid H
  clear H
  obtain ⟨I, hI⟩ : ∃ I, I = s.place + i := ⟨_, rfl⟩
  have hrm := rem_nat I s.n
  obtain ⟨Q, hQ⟩ : ∃ Q, Q = I % s.n := ⟨_, rfl⟩
  obtain ⟨X, hX⟩ : ∃ X, X = s.first + Q := ⟨_, rfl⟩
  have hXe : X = s.first + (s.place + i) % s.n := by rw [hX, hQ, hI]
  have hread := HH.out.sec i
  rw [← hI]
  rw [← hQ] at hrm
  have hX2 : (s.first : Int) + (Q : Int) = (X : Int) := by omega
  have hXn : X < n := by rw [hXe]; exact HH.out.in_ i
  have hn4 := HH.out.n2
  have hn0 : ¬ ((s.n : Int) = 0) := by have := HH.out.ok.n1; omega
  have hnN : ¬ s.n = 0 := by have := HH.out.ok.n1; omega
  have hn0b : ((s.n : Int) == 0) = false := by simp; have := HH.out.ok.n1; omega
  have hw1 : IntKind.i64.wrap (X : Int) = (X : Int) := (IntWalk.i64_left _).trans (IntWalk.wrap64_in _ ⟨by omega, by omega⟩)
  obtain ⟨p, hp⟩ : ∃ p, p = s.sector d i := ⟨_, rfl⟩
  rw [← hp] at hread ⊢
  have HX := Lib.hid (And.intro hXe (And.intro hp hread.2))
  clear hI hQ hX hXe hp hread
  go_enter Tryd.func51, Tryd.ntmps51
  go_upto_region 1 with (refine wpList_alloc_info (by rfl) 48 (by rfl) (.agg (nv .u8 zeroPg)) (nv .u8 zeroPg) (by kernel_rfl) rfl ?_)
  change Code.wp _ _ _ _ (w.alloc (.cells (nv .u8 zeroPg) 48))
  have hn : IsBlk (w.alloc (.cells (nv .u8 zeroPg) 48)) w.heap.size (nv .u8 zeroPg) 48 := IsBlk.new _ _ _
  have hb : Below w.heap.size w (w.alloc (.cells (nv .u8 zeroPg) 48)) := (Below.refl _ _).alloc (Nat.le_refl _) _
  generalize w.alloc (.cells (nv .u8 zeroPg) 48) = w1 at hn hb ⊢
  have H1 := Lib.hid (And.intro hn (And.intro hb (HH.out.below hb)))
  have hrr1 := HH.out.isrr.below hb
  have c0 := hrr1.c0
  have c1 := hrr1.c1
  have c2 := hrr1.c2
  clear hn hb hrr1
  generalize hpb : w.heap.size = pb at *
  have HPB := Lib.hid hpb
  clear hpb
  refine wp_region_held_drew (S := fun w' => w'.cell? ⟨rr, 0, none⟩ = some (.pointer (some ⟨kb, 0, none⟩)) ∧ w'.cell? ⟨rr, 1, none⟩ = some (.int .i64 ((s.first : Nat) : Int)) ∧ w'.cell? ⟨rr, 2, none⟩ = some (.int .i64 ((s.n : Nat) : Int))) (by kernel_rfl) ⟨c0, c1, c2⟩ (fun hHeld => ?_)
  clear c0 c1 c2
  refine wpAnyH_take (i := 0) (v := ?_) rfl (by kernel_rfl) (by kernel_rfl) (by kernel_rfl) (fun _ _ _ h => h) (Or.inl ⟨by rfl, ?_⟩) (by with_reducible assumption) ?_
  rotate_left
  · intro w hSw; (try dsimp only at hSw); (try go_split_ands); go_simp; (try with_reducible rfl)
  (try simp only [Act.put, List.getElem_toArray, List.getElem_cons_succ, List.getElem_cons_zero, List.setIfInBounds_toArray, List.set_cons_zero, List.set_cons_succ])
  refine wpAnyH_take (i := 1) (v := ?_) rfl (by kernel_rfl) (by kernel_rfl) (by kernel_rfl) (fun _ _ _ h => h) (Or.inl ⟨by rfl, ?_⟩) (by with_reducible assumption) ?_
  rotate_left
  · intro w hSw; (try dsimp only at hSw); (try go_split_ands); go_simp; (try with_reducible rfl)
  (try simp only [Act.put, List.getElem_toArray, List.getElem_cons_succ, List.getElem_cons_zero, List.setIfInBounds_toArray, List.set_cons_zero, List.set_cons_succ])
  refine wpAnyH_take (i := 2) (v := ?_) rfl (by kernel_rfl) (by kernel_rfl) (by kernel_rfl) (fun _ _ _ h => h) (Or.inl ⟨by rfl, ?_⟩) (by with_reducible assumption) ?_
  rotate_left
  · intro w hSw; (try dsimp only at hSw); (try go_split_ands); go_simp; (try with_reducible rfl)
  (try simp only [Act.put, List.getElem_toArray, List.getElem_cons_succ, List.getElem_cons_zero, List.setIfInBounds_toArray, List.set_cons_zero, List.set_cons_succ])
  refine wpAnyH_take (i := 3) (v := ?_) rfl (by kernel_rfl) (by kernel_rfl) (by kernel_rfl) (fun _ _ _ h => h) (Or.inl ⟨by rfl, ?_⟩) (by with_reducible assumption) ?_
  rotate_left
  · intro w hSw; (try dsimp only at hSw); (try go_split_ands); go_simp; (try with_reducible rfl)
  (try simp only [Act.put, List.getElem_toArray, List.getElem_cons_succ, List.getElem_cons_zero, List.setIfInBounds_toArray, List.set_cons_zero, List.set_cons_succ])
  refine wpAnyH_take (i := 4) (v := ?_) rfl (by kernel_rfl) (by kernel_rfl) (by kernel_rfl) (fun _ _ _ h => h) (Or.inl ⟨by rfl, ?_⟩) (by with_reducible assumption) ?_
  rotate_left
  · intro w hSw; (try dsimp only at hSw); (try go_split_ands); go_simp; (try with_reducible rfl)
  (try simp only [Act.put, List.getElem_toArray, List.getElem_cons_succ, List.getElem_cons_zero, List.setIfInBounds_toArray, List.set_cons_zero, List.set_cons_succ])
  refine wpAnyH_take (i := 5) (v := ?_) rfl (by kernel_rfl) (by kernel_rfl) (by kernel_rfl) (fun _ _ _ h => h) (Or.inl ⟨by rfl, ?_⟩) (by with_reducible assumption) ?_
  rotate_left
  · intro w hSw; (try dsimp only at hSw); (try go_split_ands); go_simp; (try with_reducible rfl)
  (try simp only [Act.put, List.getElem_toArray, List.getElem_cons_succ, List.getElem_cons_zero, List.setIfInBounds_toArray, List.set_cons_zero, List.set_cons_succ])
  refine wpAnyH_take (i := 6) (v := ?_) rfl (by kernel_rfl) (by kernel_rfl) (by kernel_rfl) (fun _ _ _ h => h) (Or.inl ⟨by rfl, ?_⟩) (by with_reducible assumption) ?_
  rotate_left
  · intro w hSw; (try dsimp only at hSw); (try go_split_ands); go_simp; (try with_reducible rfl)
  (try simp only [Act.put, List.getElem_toArray, List.getElem_cons_succ, List.getElem_cons_zero, List.setIfInBounds_toArray, List.set_cons_zero, List.set_cons_succ])
  refine wpAnyH_take (i := 7) (v := ?_) rfl (by kernel_rfl) (by kernel_rfl) (by kernel_rfl) (fun _ _ _ h => h) (Or.inl ⟨by rfl, ?_⟩) (by with_reducible assumption) ?_
  rotate_left
  · intro w hSw; (try dsimp only at hSw); (try go_split_ands); go_simp; (try with_reducible rfl)
  (try simp only [Act.put, List.getElem_toArray, List.getElem_cons_succ, List.getElem_cons_zero, List.setIfInBounds_toArray, List.set_cons_zero, List.set_cons_succ])
  refine wpAnyH_take (i := 8) (v := ?_) rfl (by kernel_rfl) (by kernel_rfl) (by kernel_rfl) (fun _ _ _ h => h) (Or.inl ⟨by rfl, ?_⟩) (by with_reducible assumption) ?_
  rotate_left
  · intro w hSw; (try dsimp only at hSw); (try go_split_ands); go_simp; (try with_reducible rfl)
  (try simp only [Act.put, List.getElem_toArray, List.getElem_cons_succ, List.getElem_cons_zero, List.setIfInBounds_toArray, List.set_cons_zero, List.set_cons_succ])
  refine wpAnyH_take (i := 9) (v := ?_) rfl (by kernel_rfl) (by kernel_rfl) (by kernel_rfl) (fun _ _ _ h => h) (Or.inl ⟨by rfl, ?_⟩) (by with_reducible assumption) ?_
  rotate_left
  · intro w hSw; (try dsimp only at hSw); (try go_split_ands); go_simp; (try with_reducible rfl)
  (try simp only [Act.put, List.getElem_toArray, List.getElem_cons_succ, List.getElem_cons_zero, List.setIfInBounds_toArray, List.set_cons_zero, List.set_cons_succ])
  refine wpAnyH_take (i := 10) (v := ?_) rfl (by kernel_rfl) (by kernel_rfl) (by kernel_rfl) (fun _ _ _ h => h) (Or.inl ⟨by rfl, ?_⟩) (by with_reducible assumption) ?_
  rotate_left
  · intro w hSw; (try dsimp only at hSw); (try go_split_ands); go_simp; (try with_reducible rfl)
  (try simp only [Act.put, List.getElem_toArray, List.getElem_cons_succ, List.getElem_cons_zero, List.setIfInBounds_toArray, List.set_cons_zero, List.set_cons_succ])
  refine wpAnyH_take (i := 11) (v := ?_) rfl (by kernel_rfl) (by kernel_rfl) (by kernel_rfl) (fun _ _ _ h => h) (Or.inl ⟨by rfl, ?_⟩) (by with_reducible assumption) ?_
  rotate_left
  · intro w hSw; (try dsimp only at hSw); (try go_split_ands); go_simp; (try with_reducible rfl)
  (try simp only [Act.put, List.getElem_toArray, List.getElem_cons_succ, List.getElem_cons_zero, List.setIfInBounds_toArray, List.set_cons_zero, List.set_cons_succ])
  refine wpAnyH_take (i := 12) (v := ?_) rfl (by kernel_rfl) (by kernel_rfl) (by kernel_rfl) (fun _ _ _ h => h) (Or.inl ⟨by rfl, ?_⟩) (by with_reducible assumption) ?_
  rotate_left
  · intro w hSw; (try dsimp only at hSw); (try go_split_ands); go_simp; (try with_reducible rfl)
  (try simp only [Act.put, List.getElem_toArray, List.getElem_cons_succ, List.getElem_cons_zero, List.setIfInBounds_toArray, List.set_cons_zero, List.set_cons_succ])
  refine wpAnyH_take (i := 13) (v := ?_) rfl (by kernel_rfl) (by kernel_rfl) (by kernel_rfl) (fun _ _ _ h => h) (Or.inl ⟨by rfl, ?_⟩) (by with_reducible assumption) ?_
  rotate_left
  · intro w hSw; (try dsimp only at hSw); (try go_split_ands); go_simp; (try with_reducible rfl)
  (try simp only [Act.put, List.getElem_toArray, List.getElem_cons_succ, List.getElem_cons_zero, List.setIfInBounds_toArray, List.set_cons_zero, List.set_cons_succ])
  refine wpAnyH_take (i := 14) (v := ?_) rfl (by kernel_rfl) (by kernel_rfl) (by kernel_rfl) (fun _ _ _ h => h) (Or.inl ⟨by rfl, ?_⟩) (by with_reducible assumption) ?_
  rotate_left
  · intro w hSw; (try dsimp only at hSw); (try go_split_ands); go_simp; (try with_reducible rfl)
  (try simp only [Act.put, List.getElem_toArray, List.getElem_cons_succ, List.getElem_cons_zero, List.setIfInBounds_toArray, List.set_cons_zero, List.set_cons_succ])
  have hrd := (H1.out.2.2.below ((Below.refl w1.heap.size w1).drew)).read i HX.out.1
  rw [← HX.out.2.1] at hrd
  refine wpAnyH_ready (rs := [15]) (by kernel_rfl) (by simp) ?_
  refine AllReadyH.cons rfl (fun K9 hK9 => ?_) AllReadyH.nil
  go_simp
  go_wp2_with (go_at_call 29; (with_reducible refine hrd.mono ?_); rintro e w2 ⟨rfl, hb2⟩; have HB2 := Lib.hid (show Below w1.heap.size w1 w2 from ((Below.refl w1.heap.size w1).drew).trans hb2); clear hb2)
  clear hrd
  refine hK9.out _ _ ⟨(HB2.out.cell (cell_lt hHeld.1)).trans hHeld.1, (HB2.out.cell (cell_lt hHeld.2.1)).trans hHeld.2.1, (HB2.out.cell (cell_lt hHeld.2.2)).trans hHeld.2.2⟩ (fun hHeld => ?_)
  clear hK9 K9
  (try simp only [Act.put, List.getElem_toArray, List.getElem_cons_succ, List.getElem_cons_zero, List.setIfInBounds_toArray, List.set_cons_zero, List.set_cons_succ])
  refine wpAnyH_take (i := 16) (v := ?_) rfl (by kernel_rfl) (by kernel_rfl) (by kernel_rfl) (fun _ _ _ h => h) (Or.inl ⟨by rfl, ?_⟩) (by with_reducible assumption) ?_
  rotate_left
  · intro w hSw; (try dsimp only at hSw); (try go_split_ands); go_simp; (try with_reducible rfl)
  (try simp only [Act.put, List.getElem_toArray, List.getElem_cons_succ, List.getElem_cons_zero, List.setIfInBounds_toArray, List.set_cons_zero, List.set_cons_succ])
  refine wpAnyH_take (i := 17) (v := ?_) rfl (by kernel_rfl) (by kernel_rfl) (by kernel_rfl) (fun _ _ _ h => h) (Or.inl ⟨by rfl, ?_⟩) (by with_reducible assumption) ?_
  rotate_left
  · intro w hSw; (try dsimp only at hSw); (try go_split_ands); go_simp; (try with_reducible rfl)
  (try simp only [Act.put, List.getElem_toArray, List.getElem_cons_succ, List.getElem_cons_zero, List.setIfInBounds_toArray, List.set_cons_zero, List.set_cons_succ])
  refine wpAnyH_ready (rs := [18]) (by kernel_rfl) (by simp) ?_
  refine AllReadyH.cons rfl (fun K9 hK9 => ?_) AllReadyH.nil
  rw [if_pos (by rfl)]
  simp only [List.getElem_toArray, List.getElem_cons_succ, List.getElem_cons_zero]
  have hlay := pg_laid (H1.out.1.below HB2.out H1.out.1.lt) HX.out.2.2.1
  refine wp_store_mid 48 (.tmp 4) (.tmp 22) (by rfl) pb 0 (nv .u8 p) (by rfl) (by rfl) (by rw [nv_size, HX.out.2.2.1]; exact hlay.2.2) (info_pg _ HX.out.2.2.1) (nv_one _ _) ?_
  have hrb : rr ≠ pb := by have := IsBlk.lt HH.out.isrr; have := HPB.out; omega
  refine hK9.out _ _ ⟨(hlay.2.1.cell (cell_lt hHeld.1) hrb).trans hHeld.1, (hlay.2.1.cell (cell_lt hHeld.2.1) hrb).trans hHeld.2.1, (hlay.2.1.cell (cell_lt hHeld.2.2) hrb).trans hHeld.2.2⟩ (fun hHeld => ?_)
  clear hK9 K9
  (try simp only [Act.put, List.getElem_toArray, List.getElem_cons_succ, List.getElem_cons_zero, List.setIfInBounds_toArray, List.set_cons_zero, List.set_cons_succ])
  refine wpAnyH_take (i := 19) (v := ?_) rfl (by kernel_rfl) (by kernel_rfl) (by kernel_rfl) (fun _ _ _ h => h) (Or.inl ⟨by rfl, ?_⟩) (by with_reducible assumption) ?_
  rotate_left
  · intro w hSw; (try dsimp only at hSw); (try go_split_ands); go_simp; (try with_reducible rfl)
  (try simp only [Act.put, List.getElem_toArray, List.getElem_cons_succ, List.getElem_cons_zero, List.setIfInBounds_toArray, List.set_cons_zero, List.set_cons_succ])
  refine wpAnyH_done (by kernel_rfl) ?_ _
  have hbL : Below pb w (w2.setCells pb 0 (bv p)) := by
    have h1 : Below pb w w2 := H1.out.2.1.trans (HB2.out.mono (Nat.le_of_lt H1.out.1.lt))
    exact h1.trans (hlay.2.1.below (Nat.le_trans (Nat.le_of_lt H1.out.1.lt) HB2.out.size) (fun k hk => by rw [hk]; exact Nat.le_refl _))
  have HL := Lib.hid (And.intro hlay.1 hbL)
  clear hlay hbL hHeld
  go_wp2_with fail
  exact rat_ret HX.out.2.2.1 HL.out.1 rfl rfl rfl ⟨rfl, by rw [HPB.out]; exact HL.out.2⟩
set_option maxRecDepth 100000 in
set_option maxHeartbeats 4000000 in
theorem rbehind_any {w : World} {rr kb : Nat} {s : RS} {size : Nat} (h : IsRg 68 w rr kb s) (hs : RSok s size) (k : Nat) (hk : k ≤ 1000) (m : List Nat) (hm : m.length = 32) :
    Calls Tryd.prog 41 #[.pointer (some ⟨rr, 0, none⟩), .int .i64 (k : Int), .agg (nv .u8 m)] w fun e w' => (∃ v, e = .returned v) ∧ IsRg 68 w' rr kb (s.behind k m) ∧ But (fun j => j = rr) w w' := by
  have hrlt : rr < w.heap.size := IsBlk.lt h
  have hT := fun w => takes_any k (by omega) w
  obtain ⟨T, hTe⟩ : ∃ T, T = takes k := ⟨_, rfl⟩
  rw [← hTe] at hT
  have hT2 : T ≤ 2000 := by rw [hTe]; unfold takes; omega
  have HT := Lib.hid hTe
  have HS := Lib.hid (And.intro hs hm)
  have hwu : IntKind.i64.wrap ((s.used : Int) + (T : Int)) = (s.used : Int) + (T : Int) := (IntWalk.i64_left _).trans (IntWalk.wrap64_in _ ⟨by omega, by have := hs.used; have := hs.n2; omega⟩)
  have hu4 : (s.used : Int) ≤ 4096 := by have := hs.used; have := hs.n2; omega
  have hp4 : (s.place : Int) ≤ 4096 := by have := hs.place; have := hs.n2; omega
  clear hTe hs
  go_enter Tryd.func41, Tryd.ntmps41
  go_upto_region 1 with fail
  change Code.wp _ _ _ _ (w.alloc (.cells (nv .u8 m) 23))
  have hn : IsBlk (w.alloc (.cells (nv .u8 m) 23)) w.heap.size (nv .u8 m) 23 := IsBlk.new _ _ _
  have hb : Below w.heap.size w (w.alloc (.cells (nv .u8 m) 23)) := (Below.refl _ _).alloc (Nat.le_refl _) _
  generalize w.alloc (.cells (nv .u8 m) 23) = w1 at hn hb ⊢
  have h1 := h.below hb
  have c37 := h1.c37 HS.out.1.len
  have hu : IsRg 68 (w1.drew.setCell ⟨rr, 37, none⟩ (.int .i64 ((s.used + T : Nat) : Int))) rr kb { s with used := s.used + T } := IsRg.setUsed (h1.below ((Below.refl _ _).drew)) HS.out.1.len (s.used + T)
  have z37 : w1.drew.frozen? ⟨rr, 37, none⟩ = false := IsBlk.fz (h1.below ((Below.refl w1.heap.size w1).drew)) 37
  have hbt : But (fun j => j = rr) w1 (w1.drew.setCell ⟨rr, 37, none⟩ (.int .i64 ((s.used + T : Nat) : Int))) := (But.refl (fun j => j = rr) w1).drew.setCell (p := ⟨rr, 37, none⟩) rfl _
  have hus : ((s.used + T : Nat) : Int) = (s.used : Int) + (T : Int) := by omega
  rw [hus] at hu hbt
  have hmb : w.heap.size ≠ rr := Nat.ne_of_gt hrlt
  have H1 := Lib.hid (And.intro hu (And.intro hbt (And.intro (hbt.blk hn hmb) (But.of_below (S := fun j => j = rr) hb (Nat.le_refl _)))))
  clear h h1 hn hu hbt hus hb hmb
  generalize hmbk : w.heap.size = mb at H1 ⊢
  clear hmbk
  refine wp_region_till 7 (S := fun w' => w'.cell? ⟨rr, 37, none⟩ = some (.int .i64 ((s.used : Nat) : Int)) ∧ w' = w1.drew) (by kernel_rfl) ⟨c37, rfl⟩ (fun hHeld => ?_)
  clear c37
  refine wpTill_take (i := 0) (v := ?_) rfl (by kernel_rfl) (by kernel_rfl) (by kernel_rfl) (by kernel_rfl) (fun _ _ _ h => h) (Or.inl ⟨by rfl, ?_⟩) (by with_reducible assumption) ?_
  rotate_left
  · intro w hSw; (try dsimp only at hSw); (try go_split_ands); go_simp; (try with_reducible rfl)
  (try simp only [Act.put, List.getElem_toArray, List.getElem_cons_succ, List.getElem_cons_zero, List.setIfInBounds_toArray, List.set_cons_zero, List.set_cons_succ])
  refine wpTill_take (i := 1) (v := ?_) rfl (by kernel_rfl) (by kernel_rfl) (by kernel_rfl) (by kernel_rfl) (fun _ _ _ h => h) (Or.inl ⟨by rfl, ?_⟩) (by with_reducible assumption) ?_
  rotate_left
  · intro w hSw; (try dsimp only at hSw); (try go_split_ands); go_simp; (try with_reducible rfl)
  (try simp only [Act.put, List.getElem_toArray, List.getElem_cons_succ, List.getElem_cons_zero, List.setIfInBounds_toArray, List.set_cons_zero, List.set_cons_succ])
  refine wpTill_take (i := 2) (v := ?_) rfl (by kernel_rfl) (by kernel_rfl) (by kernel_rfl) (by kernel_rfl) (fun _ _ _ h => h) (Or.inl ⟨by rfl, ?_⟩) (by with_reducible assumption) ?_
  rotate_left
  · intro w hSw; (try dsimp only at hSw); (try go_split_ands); go_simp; (try with_reducible rfl)
  (try simp only [Act.put, List.getElem_toArray, List.getElem_cons_succ, List.getElem_cons_zero, List.setIfInBounds_toArray, List.set_cons_zero, List.set_cons_succ])
  refine wpTill_take (i := 3) (v := ?_) rfl (by kernel_rfl) (by kernel_rfl) (by kernel_rfl) (by kernel_rfl) (fun _ _ _ h => h) (Or.inl ⟨by rfl, ?_⟩) (by with_reducible assumption) ?_
  rotate_left
  · intro w hSw; (try dsimp only at hSw); (try go_split_ands); go_simp; (try with_reducible rfl)
  (try simp only [Act.put, List.getElem_toArray, List.getElem_cons_succ, List.getElem_cons_zero, List.setIfInBounds_toArray, List.set_cons_zero, List.set_cons_succ])
  refine wpTill_take (i := 4) (v := ?_) rfl (by kernel_rfl) (by kernel_rfl) (by kernel_rfl) (by kernel_rfl) (fun _ _ _ h => h) (Or.inl ⟨by rfl, ?_⟩) (by with_reducible assumption) ?_
  rotate_left
  · intro w hSw; (try dsimp only at hSw); (try go_split_ands); go_simp; (try with_reducible rfl)
  (try simp only [Act.put, List.getElem_toArray, List.getElem_cons_succ, List.getElem_cons_zero, List.setIfInBounds_toArray, List.set_cons_zero, List.set_cons_succ])
  refine wpTill_ready (rs := [5]) (by kernel_rfl) (by simp) ?_
  refine TillAll.cons rfl (fun K9 hK9 => ?_) TillAll.nil
  go_simp
  go_wp2_with (go_at_call 23; (with_reducible refine (hT _).mono ?_); rintro e w2 ⟨rfl, hw2⟩; obtain rfl := hw2.symm)
  refine hK9.out _ _ ⟨hHeld.1, rfl⟩ (fun hHeld => ?_)
  clear hK9 K9
  (try simp only [Act.put, List.getElem_toArray, List.getElem_cons_succ, List.getElem_cons_zero, List.setIfInBounds_toArray, List.set_cons_zero, List.set_cons_succ])
  refine wpTill_take (i := 6) (v := ?_) rfl (by kernel_rfl) (by kernel_rfl) (by kernel_rfl) (by kernel_rfl) (fun _ _ _ h => h) (Or.inl ⟨by rfl, ?_⟩) (by with_reducible assumption) ?_
  rotate_left
  · intro w hSw; (try dsimp only at hSw); (try go_split_ands); go_simp; (try with_reducible rfl)
  (try simp only [Act.put, List.getElem_toArray, List.getElem_cons_succ, List.getElem_cons_zero, List.setIfInBounds_toArray, List.set_cons_zero, List.set_cons_succ])
  refine wpTill_last (by kernel_rfl) ?_
  refine wpAny_take (i := 7) (v := ?_) rfl (by kernel_rfl) (by kernel_rfl) (by kernel_rfl) (fun _ _ _ h => h) (Or.inl ⟨by rfl, ?_⟩) ?_
  rotate_left
  · intro w; go_simp; (try with_reducible rfl)
  (try simp only [Act.put, List.getElem_toArray, List.getElem_cons_succ, List.getElem_cons_zero, List.setIfInBounds_toArray, List.set_cons_zero, List.set_cons_succ])
  refine wpAny_take (i := 8) (v := ?_) rfl (by kernel_rfl) (by kernel_rfl) (by kernel_rfl) (fun _ _ _ h => h) (Or.inl ⟨by rfl, ?_⟩) ?_
  rotate_left
  · intro w; go_simp; (try with_reducible rfl)
  (try simp only [Act.put, List.getElem_toArray, List.getElem_cons_succ, List.getElem_cons_zero, List.setIfInBounds_toArray, List.set_cons_zero, List.set_cons_succ])
  refine wpAny_ready (rs := [9]) (by kernel_rfl) (by simp) ?_
  refine AllReady.cons rfl (fun K9 hK9 => ?_) AllReady.nil
  have c37 := hHeld.1
  clear hHeld
  go_simp
  refine hK9 _ _ ?_
  clear hK9 K9 c37 z37
  (try simp only [Act.put, List.getElem_toArray, List.getElem_cons_succ, List.getElem_cons_zero, List.setIfInBounds_toArray, List.set_cons_zero, List.set_cons_succ])
  refine wpAny_done (by kernel_rfl) ?_ _
  change Exit.then _ _ _ _ (w1.drew.setCell ⟨rr, 37, none⟩ (.int .i64 ((s.used : Int) + (T : Int))))
  generalize w1.drew.setCell ⟨rr, 37, none⟩ (.int .i64 ((s.used : Int) + (T : Int))) = w2 at H1 ⊢
  have hrm : ((s.place : Int) + (T : Int)).tmod (s.n : Int) = (((s.place + takes k) % s.n : Nat) : Int) := by
    rw [← HT.out, show (s.place : Int) + (T : Int) = ((s.place + T : Nat) : Int) by omega]
    exact rem_nat _ _
  have hw1 : IntKind.i64.wrap ((s.place : Int) + (T : Int)) = (s.place : Int) + (T : Int) := (IntWalk.i64_left _).trans (IntWalk.wrap64_in _ ⟨by omega, by omega⟩)
  have hu1 : IntKind.u64.wrap ((s.num : Int) + 1) = (((s.num + 1) % 18446744073709551616 : Nat) : Int) := by rw [IntKind.wrap_u64]; omega
  have hn0 : ¬ ((s.n : Int) = 0) := by have := HS.out.1.n1; omega
  have hnN : ¬ s.n = 0 := by have := HS.out.1.n1; omega
  have hn0b : ((s.n : Int) == 0) = false := by simp; have := HS.out.1.n1; omega
  obtain ⟨P, hPe⟩ : ∃ P, P = (s.place + takes k) % s.n := ⟨_, rfl⟩
  obtain ⟨M, hMe⟩ : ∃ M, M = (s.num + 1) % 18446744073709551616 := ⟨_, rfl⟩
  rw [← hPe] at hrm
  rw [← hMe] at hu1
  have hml : (markL (s.behind k m)) = .int .i64 ((P : Nat) : Int) :: .int .u64 ((M : Nat) : Int) :: bv m := by rw [hPe, hMe]; rfl
  have HML := Lib.hid hml
  have hrg2 := H1.out.1
  have c3 := hrg2.c3
  have c2 := hrg2.c2
  have c4 := hrg2.c4
  have hmk : IsRg 68 (w2.drew.setCells rr 3 (markL (s.behind k m))) rr kb { s with place := (s.behind k m).place, num := (s.behind k m).num, last := (s.behind k m).last, used := s.used + T } := IsRg.setMark (hrg2.below ((Below.refl _ _).drew)) HS.out.1.len (m := s.behind k m) HS.out.2
  have hth : w2.drew.there rr 3 34 := isBlk_there (hrg2.below ((Below.refl w2.heap.size w2).drew)) 3 34 (by rw [ringL_length (s := { s with used := s.used + T }) HS.out.1.len]; decide)
  have hbm : But (fun j => j = rr) w2 (w2.drew.setCells rr 3 (markL (s.behind k m))) := (But.refl (fun j => j = rr) w2).drew.setCells (g := rr) rfl _ _
  have HMK := Lib.hid (And.intro hmk (And.intro hth hbm))
  have hmb2 := H1.out.2.2.1.drew
  clear hmk hth hbm hPe hMe hml hrg2
  go_upto_region 2 with fail
  refine wp_region_till 22 (S := fun w' => w'.cell? ⟨rr, 3, none⟩ = some (.int .i64 ((s.place : Nat) : Int)) ∧ w'.cell? ⟨rr, 2, none⟩ = some (.int .i64 ((s.n : Nat) : Int)) ∧ w'.cell? ⟨rr, 4, none⟩ = some (.int .u64 ((s.num : Nat) : Int)) ∧ IsBlk w' mb (nv .u8 m) 23 ∧ w' = w2.drew) (by kernel_rfl) ⟨c3, c2, c4, hmb2, rfl⟩ (fun hHeld => ?_)
  clear c3 c2 c4 hmb2
  refine wpTill_take (i := 0) (v := ?_) rfl (by kernel_rfl) (by kernel_rfl) (by kernel_rfl) (by kernel_rfl) (fun _ _ _ h => h) (Or.inl ⟨by rfl, ?_⟩) (by with_reducible assumption) ?_
  rotate_left
  · intro w hSw; (try dsimp only at hSw); (try go_split_ands); go_simp; (try with_reducible rfl)
  (try simp only [Act.put, List.getElem_toArray, List.getElem_cons_succ, List.getElem_cons_zero, List.setIfInBounds_toArray, List.set_cons_zero, List.set_cons_succ])
  refine wpTill_take (i := 1) (v := ?_) rfl (by kernel_rfl) (by kernel_rfl) (by kernel_rfl) (by kernel_rfl) (fun _ _ _ h => h) (Or.inl ⟨by rfl, ?_⟩) (by with_reducible assumption) ?_
  rotate_left
  · intro w hSw; (try dsimp only at hSw); (try go_split_ands); go_simp; (try with_reducible rfl)
  (try simp only [Act.put, List.getElem_toArray, List.getElem_cons_succ, List.getElem_cons_zero, List.setIfInBounds_toArray, List.set_cons_zero, List.set_cons_succ])
  refine wpTill_take (i := 2) (v := ?_) rfl (by kernel_rfl) (by kernel_rfl) (by kernel_rfl) (by kernel_rfl) (fun _ _ _ h => h) (Or.inl ⟨by rfl, ?_⟩) (by with_reducible assumption) ?_
  rotate_left
  · intro w hSw; (try dsimp only at hSw); (try go_split_ands); go_simp; (try with_reducible rfl)
  (try simp only [Act.put, List.getElem_toArray, List.getElem_cons_succ, List.getElem_cons_zero, List.setIfInBounds_toArray, List.set_cons_zero, List.set_cons_succ])
  refine wpTill_take (i := 3) (v := ?_) rfl (by kernel_rfl) (by kernel_rfl) (by kernel_rfl) (by kernel_rfl) (fun _ _ _ h => h) (Or.inl ⟨by rfl, ?_⟩) (by with_reducible assumption) ?_
  rotate_left
  · intro w hSw; (try dsimp only at hSw); (try go_split_ands); go_simp; (try with_reducible rfl)
  (try simp only [Act.put, List.getElem_toArray, List.getElem_cons_succ, List.getElem_cons_zero, List.setIfInBounds_toArray, List.set_cons_zero, List.set_cons_succ])
  refine wpTill_take (i := 4) (v := ?_) rfl (by kernel_rfl) (by kernel_rfl) (by kernel_rfl) (by kernel_rfl) (fun _ _ _ h => h) (Or.inl ⟨by rfl, ?_⟩) (by with_reducible assumption) ?_
  rotate_left
  · intro w hSw; (try dsimp only at hSw); (try go_split_ands); go_simp; (try with_reducible rfl)
  (try simp only [Act.put, List.getElem_toArray, List.getElem_cons_succ, List.getElem_cons_zero, List.setIfInBounds_toArray, List.set_cons_zero, List.set_cons_succ])
  refine wpTill_take (i := 5) (v := ?_) rfl (by kernel_rfl) (by kernel_rfl) (by kernel_rfl) (by kernel_rfl) (fun _ _ _ h => h) (Or.inl ⟨by rfl, ?_⟩) (by with_reducible assumption) ?_
  rotate_left
  · intro w hSw; (try dsimp only at hSw); (try go_split_ands); go_simp; (try with_reducible rfl)
  (try simp only [Act.put, List.getElem_toArray, List.getElem_cons_succ, List.getElem_cons_zero, List.setIfInBounds_toArray, List.set_cons_zero, List.set_cons_succ])
  refine wpTill_take (i := 6) (v := ?_) rfl (by kernel_rfl) (by kernel_rfl) (by kernel_rfl) (by kernel_rfl) (fun _ _ _ h => h) (Or.inl ⟨by rfl, ?_⟩) (by with_reducible assumption) ?_
  rotate_left
  · intro w hSw; (try dsimp only at hSw); (try go_split_ands); go_simp; (try with_reducible rfl)
  (try simp only [Act.put, List.getElem_toArray, List.getElem_cons_succ, List.getElem_cons_zero, List.setIfInBounds_toArray, List.set_cons_zero, List.set_cons_succ])
  refine wpTill_take (i := 20) (v := .agg (bv m).toArray) rfl (by kernel_rfl) (by kernel_rfl) (by kernel_rfl) (by kernel_rfl) (fun _ _ _ h => h) (yieldsIf_load_mid (by rfl) 23 (.tmp 5) (by rfl) mb 0 (by rfl) (bv m) _ (fun w hS => range_blk hS.2.2.2.1) Tryd.underlying23 rfl (by rw [bv_length, HS.out.2]; kernel_rfl)) (by with_reducible assumption) ?_
  (try simp only [Act.put, List.getElem_toArray, List.getElem_cons_succ, List.getElem_cons_zero, List.setIfInBounds_toArray, List.set_cons_zero, List.set_cons_succ])
  refine wpTill_take (i := 9) (v := ?_) rfl (by kernel_rfl) (by kernel_rfl) (by kernel_rfl) (by kernel_rfl) (fun _ _ _ h => h) (Or.inl ⟨by rfl, ?_⟩) (by with_reducible assumption) ?_
  rotate_left
  · intro w hSw; (try dsimp only at hSw); (try go_split_ands); go_simp; (try with_reducible rfl)
  (try simp only [Act.put, List.getElem_toArray, List.getElem_cons_succ, List.getElem_cons_zero, List.setIfInBounds_toArray, List.set_cons_zero, List.set_cons_succ])
  refine wpTill_take (i := 10) (v := ?_) rfl (by kernel_rfl) (by kernel_rfl) (by kernel_rfl) (by kernel_rfl) (fun _ _ _ h => h) (Or.inl ⟨by rfl, ?_⟩) (by with_reducible assumption) ?_
  rotate_left
  · intro w hSw; (try dsimp only at hSw); (try go_split_ands); go_simp; (try with_reducible rfl)
  (try simp only [Act.put, List.getElem_toArray, List.getElem_cons_succ, List.getElem_cons_zero, List.setIfInBounds_toArray, List.set_cons_zero, List.set_cons_succ])
  refine wpTill_take (i := 11) (v := ?_) rfl (by kernel_rfl) (by kernel_rfl) (by kernel_rfl) (by kernel_rfl) (fun _ _ _ h => h) (Or.inl ⟨by rfl, ?_⟩) (by with_reducible assumption) ?_
  rotate_left
  · intro w hSw; (try dsimp only at hSw); (try go_split_ands); go_simp; (try with_reducible rfl)
  (try simp only [Act.put, List.getElem_toArray, List.getElem_cons_succ, List.getElem_cons_zero, List.setIfInBounds_toArray, List.set_cons_zero, List.set_cons_succ])
  refine wpTill_take (i := 12) (v := ?_) rfl (by kernel_rfl) (by kernel_rfl) (by kernel_rfl) (by kernel_rfl) (fun _ _ _ h => h) (Or.inl ⟨by rfl, ?_⟩) (by with_reducible assumption) ?_
  rotate_left
  · intro w hSw; (try dsimp only at hSw); (try go_split_ands); go_simp; (try with_reducible rfl)
  (try simp only [Act.put, List.getElem_toArray, List.getElem_cons_succ, List.getElem_cons_zero, List.setIfInBounds_toArray, List.set_cons_zero, List.set_cons_succ])
  refine wpTill_take (i := 14) (v := ?_) rfl (by kernel_rfl) (by kernel_rfl) (by kernel_rfl) (by kernel_rfl) (fun _ _ _ h => h) (Or.inl ⟨by rfl, ?_⟩) (by with_reducible assumption) ?_
  rotate_left
  · intro w hSw; (try dsimp only at hSw); (try go_split_ands); go_simp; (try with_reducible rfl)
  (try simp only [Act.put, List.getElem_toArray, List.getElem_cons_succ, List.getElem_cons_zero, List.setIfInBounds_toArray, List.set_cons_zero, List.set_cons_succ])
  refine wpTill_take (i := 15) (v := ?_) rfl (by kernel_rfl) (by kernel_rfl) (by kernel_rfl) (by kernel_rfl) (fun _ _ _ h => h) (Or.inl ⟨by rfl, ?_⟩) (by with_reducible assumption) ?_
  rotate_left
  · intro w hSw; (try dsimp only at hSw); (try go_split_ands); go_simp; (try with_reducible rfl)
  (try simp only [Act.put, List.getElem_toArray, List.getElem_cons_succ, List.getElem_cons_zero, List.setIfInBounds_toArray, List.set_cons_zero, List.set_cons_succ])
  refine wpTill_take (i := 16) (v := ?_) rfl (by kernel_rfl) (by kernel_rfl) (by kernel_rfl) (by kernel_rfl) (fun _ _ _ h => h) (Or.inl ⟨by rfl, ?_⟩) (by with_reducible assumption) ?_
  rotate_left
  · intro w hSw; (try dsimp only at hSw); (try go_split_ands); go_simp; (try with_reducible rfl)
  (try simp only [Act.put, List.getElem_toArray, List.getElem_cons_succ, List.getElem_cons_zero, List.setIfInBounds_toArray, List.set_cons_zero, List.set_cons_succ])
  refine wpTill_take (i := 17) (v := ?_) rfl (by kernel_rfl) (by kernel_rfl) (by kernel_rfl) (by kernel_rfl) (fun _ _ _ h => h) (Or.inl ⟨by rfl, ?_⟩) (by with_reducible assumption) ?_
  rotate_left
  · intro w hSw; (try dsimp only at hSw); (try go_split_ands); go_simp; (try with_reducible rfl)
  (try simp only [Act.put, List.getElem_toArray, List.getElem_cons_succ, List.getElem_cons_zero, List.setIfInBounds_toArray, List.set_cons_zero, List.set_cons_succ])
  refine wpTill_take (i := 18) (v := ?_) rfl (by kernel_rfl) (by kernel_rfl) (by kernel_rfl) (by kernel_rfl) (fun _ _ _ h => h) (Or.inl ⟨by rfl, ?_⟩) (by with_reducible assumption) ?_
  rotate_left
  · intro w hSw; (try dsimp only at hSw); (try go_split_ands); go_simp; (try with_reducible rfl)
  (try simp only [Act.put, List.getElem_toArray, List.getElem_cons_succ, List.getElem_cons_zero, List.setIfInBounds_toArray, List.set_cons_zero, List.set_cons_succ])
  refine wpTill_take (i := 19) (v := ?_) rfl (by kernel_rfl) (by kernel_rfl) (by kernel_rfl) (by kernel_rfl) (fun _ _ _ h => h) (Or.inl ⟨by rfl, ?_⟩) (by with_reducible assumption) ?_
  rotate_left
  · intro w hSw; (try dsimp only at hSw); (try go_split_ands); go_simp; (try with_reducible rfl)
  (try simp only [Act.put, List.getElem_toArray, List.getElem_cons_succ, List.getElem_cons_zero, List.setIfInBounds_toArray, List.set_cons_zero, List.set_cons_succ])
  refine wpTill_ready (rs := [7]) (by kernel_rfl) (by simp) ?_
  refine TillAll.cons rfl (fun K9 hK9 => ?_) TillAll.nil
  go_simp
  go_wp2_with (go_at_call 23; (with_reducible refine (hT _).mono ?_); rintro e w3 ⟨rfl, hw3⟩; obtain rfl := hw3.symm)
  refine hK9.out _ _ ⟨hHeld.1, hHeld.2.1, hHeld.2.2.1, hHeld.2.2.2.1, rfl⟩ (fun hHeld => ?_)
  clear hK9 K9
  (try simp only [Act.put, List.getElem_toArray, List.getElem_cons_succ, List.getElem_cons_zero, List.setIfInBounds_toArray, List.set_cons_zero, List.set_cons_succ])
  refine wpTill_take (i := 8) (v := ?_) rfl (by kernel_rfl) (by kernel_rfl) (by kernel_rfl) (by kernel_rfl) (fun _ _ _ h => h) (Or.inl ⟨by rfl, ?_⟩) (by with_reducible assumption) ?_
  rotate_left
  · intro w hSw; (try dsimp only at hSw); (try go_split_ands); go_simp; (try with_reducible rfl)
  (try simp only [Act.put, List.getElem_toArray, List.getElem_cons_succ, List.getElem_cons_zero, List.setIfInBounds_toArray, List.set_cons_zero, List.set_cons_succ])
  refine wpTill_take (i := 13) (v := ?_) rfl (by kernel_rfl) (by kernel_rfl) (by kernel_rfl) (by kernel_rfl) (fun _ _ _ h => h) (Or.inl ⟨by rfl, ?_⟩) (by with_reducible assumption) ?_
  rotate_left
  · intro w hSw; (try dsimp only at hSw); (try go_split_ands); go_simp; (try with_reducible rfl)
  (try simp only [Act.put, List.getElem_toArray, List.getElem_cons_succ, List.getElem_cons_zero, List.setIfInBounds_toArray, List.set_cons_zero, List.set_cons_succ])
  refine wpTill_take (i := 21) (v := .agg (markL (s.behind k m)).toArray) rfl (by kernel_rfl) (by kernel_rfl) (by kernel_rfl) (by kernel_rfl) (fun _ _ _ h => h) (yieldsIf_build (by rfl) 38 #[(0, .tmp 28), (1, .tmp 34), (2, .tmp 35)] (by rfl) _ (by rw [HML.out]; exact built_rmark ((P : Nat) : Int) ((M : Nat) : Int) m HS.out.2)) (by with_reducible assumption) ?_
  (try simp only [Act.put, List.getElem_toArray, List.getElem_cons_succ, List.getElem_cons_zero, List.setIfInBounds_toArray, List.set_cons_zero, List.set_cons_succ])
  refine wpTill_last (by kernel_rfl) ?_
  refine wpAny_take (i := 22) (v := ?_) rfl (by kernel_rfl) (by kernel_rfl) (by kernel_rfl) (fun _ _ _ h => h) (Or.inl ⟨by rfl, ?_⟩) ?_
  rotate_left
  · intro w; go_simp; (try with_reducible rfl)
  (try simp only [Act.put, List.getElem_toArray, List.getElem_cons_succ, List.getElem_cons_zero, List.setIfInBounds_toArray, List.set_cons_zero, List.set_cons_succ])
  refine wpAny_take (i := 23) (v := ?_) rfl (by kernel_rfl) (by kernel_rfl) (by kernel_rfl) (fun _ _ _ h => h) (Or.inl ⟨by rfl, ?_⟩) ?_
  rotate_left
  · intro w; go_simp; (try with_reducible rfl)
  (try simp only [Act.put, List.getElem_toArray, List.getElem_cons_succ, List.getElem_cons_zero, List.setIfInBounds_toArray, List.set_cons_zero, List.set_cons_succ])
  refine wpAny_ready (rs := [24]) (by kernel_rfl) (by simp) ?_
  refine AllReady.cons rfl (fun K9 hK9 => ?_) AllReady.nil
  rw [if_pos (by rfl)]
  simp only [List.getElem_toArray, List.getElem_cons_succ, List.getElem_cons_zero]
  have hmlen : (markL (s.behind k m)).length = 34 := markL_length (s := s.behind k m) HS.out.2
  refine wp_store_mid 38 (.tmp 38) (.tmp 36) (by rfl) rr 3 (markL (s.behind k m)).toArray (by rfl) (by rfl) (by rw [List.size_toArray, hmlen]; exact HMK.out.2.1) (by rw [List.size_toArray, hmlen]; kernel_rfl) (markL_one _) ?_
  refine hK9 _ _ ?_
  clear hK9 K9 hHeld hmlen
  (try simp only [Act.put, List.getElem_toArray, List.getElem_cons_succ, List.getElem_cons_zero, List.setIfInBounds_toArray, List.set_cons_zero, List.set_cons_succ])
  refine wpAny_done (by kernel_rfl) ?_ _
  change bodyPost _ _ _ _ _ (w2.drew.setCells rr 3 (markL (s.behind k m)))
  generalize w2.drew.setCells rr 3 (markL (s.behind k m)) = w4 at HMK ⊢
  go_end0
  refine ⟨⟨_, rfl⟩, ?_, (H1.out.2.2.2.trans H1.out.2.1).trans HMK.out.2.2⟩
  refine Eq.mp (congrArg (IsRg 68 _ rr kb) ?_) HMK.out.1
  rw [HT.out]
  rfl
end Go.Proofs.YtkabkehfckbhcaaDoor
