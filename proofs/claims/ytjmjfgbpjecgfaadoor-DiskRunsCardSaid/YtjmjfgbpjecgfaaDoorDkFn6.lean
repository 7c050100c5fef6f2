/-
  disk: New.
-/
import Derived.Test.YtjmjfgbpjecgfaaDoorDkFn5
namespace Go.Proofs.YtjmjfgbpjecgfaaDoor
set_option linter.unusedVariables false
set_option linter.unusedSimpArgs false
open Go.RowKit

theorem pg_typ : ∃ it z, Tryd.prog.info? 33 = some it ∧ it.zero = some z ∧ it.size = 64 ∧ it.bytes = 64 ∧ z.cells = (pgF zeroPg).toArray := by
  have hA : (Tryd.prog.info? 33).bind (fun it => it.zero.map fun z => (it.size, it.bytes, z.cells)) = some (64, 64, (pgF zeroPg).toArray) := by kernel_rfl
  obtain ⟨it, h1, hA⟩ := Option.bind_eq_some_iff.1 hA
  obtain ⟨z, h2, h5⟩ := Option.map_eq_some_iff.1 hA
  exact ⟨it, z, h1, h2, congrArg Prod.fst h5, congrArg (fun x => x.2.1) h5, congrArg (fun x => x.2.2) h5⟩

/-- A disk that a call made: its blocks lie from B on. -/
structure MadeDk (B : Nat) (w : World) (db : Nat) (cap : Nat) (d : DK) : Prop where
  ex : ∃ fb mb cv, IsDk w B db fb mb cap cv d

set_option maxRecDepth 100000 in
set_option maxHeartbeats 4000000 in
theorem new_ok (w : World) (n : Nat) (h1 : 1 ≤ n) (h2 : n ≤ 4096) : Calls Tryd.prog 10 #[.int .i64 (n : Int)] w fun e w' => ∃ db fb mb cap, e = .returned (.tuple #[.pointer (some ⟨db, 0, none⟩), .nilIface]) ∧ IsDk w' w.heap.size db fb mb cap (.slice none 0 0) (DK.new n) ∧ Below w.heap.size w w' := by
  obtain ⟨it, z, hi1, hi2, hi3, hi4, hi5⟩ := pg_typ
  have HI := Lib.hid (And.intro hi1 (And.intro hi2 (And.intro hi3 (And.intro hi4 hi5))))
  have hby : it.bytes * n ≤ 281474976710656 := by rw [hi4]; omega
  have hmx : n ≤ maxLen := by unfold maxLen; omega
  have HB := Lib.hid (And.intro hby hmx)
  clear hi1 hi2 hi3 hi4 hi5 hby hmx
  have hn1 : ¬ ((n : Int) < 1) := by omega
  have hn2 : ¬ ((n : Int) > 4096) := by omega
  go_enter Tryd.func10, Tryd.ntmps10
  go_wp2_with (first
    | (refine wpList_makeMap (by rfl) 62 (by rfl) ?_)
    | (refine wpList_make_full w (by rfl) (.tmp 12) (.tmp 12) 43 (by rfl) w.heap.size 33 it z 64 Tryd.underlying43 HI.out.1 HI.out.2.1 HI.out.2.2.1 .i64 .i64 _ _ n (by rfl) (by rfl) rfl rfl HB.out.1 HB.out.2 (Nat.le_refl _) ?_; intro w1 q1 q2; have HQ := Lib.hid (And.intro q1 q2); clear q1 q2))
  go_ret2
  have hrow : RowF w1 w.heap.size 33 64 pgF (.slice (some ⟨w.heap.size, 0, none⟩) n n) (List.replicate n zeroPg) := RowF.made (by rfl) (by decide) HI.out.2.2.2.2 HQ.out.1
  have hb1 : Below w.heap.size w w1 := ⟨HQ.out.2.os, HQ.out.2.tape, HQ.out.2.output, HQ.out.2.size, fun k hk => HQ.out.2.block k hk (by simp)⟩
  have hb2 : Below w1.heap.size w1 (w1.alloc (.map #[] 0)) := (Below.refl _ _).alloc (Nat.le_refl _) _
  refine ⟨_, rfl, ⟨w.heap.size, w1.heap.size, n, ⟨?_, ?_, RowF.nil _ _ _ _ _, ?_, (fun x hx => by cases hx), ?_, ?_, (by show (-1 : Int) ≤ -1; omega), (by show (-1 : Int) ≤ 9223372036854775807; omega), ?_, hb1.size⟩⟩, ?_⟩
  · show IsBlk _ _ #[.slice (some ⟨w.heap.size, 0, none⟩) (List.replicate n zeroPg).length n, .slice none 0 0, .map (some w1.heap.size), .int .i64 (-1), .bool false] _
    rw [List.length_replicate]
    have := IsBlk.new (w1.alloc (.map #[] 0)) #[.slice (some ⟨w.heap.size, 0, none⟩) n n, .slice none 0 0, .map (some w1.heap.size), .int .i64 (-1), .bool false] 65
    rwa [show (w1.alloc (.map #[] 0)).heap.size = w1.heap.size + 1 by simp] at this
  · show RowF _ _ _ _ _ (.slice (some ⟨w.heap.size, 0, none⟩) (List.replicate n zeroPg).length n) (List.replicate n zeroPg)
    rw [List.length_replicate]
    exact (hrow.below hb2).below ((Below.refl _ _).alloc (Nat.le_refl _) _)
  · show IntMap _ _ _ (lastM [])
    rw [lastM_nil]
    exact (IntMap.new w1 .i64).of_below ((Below.refl _ _).alloc (Nat.le_refl _) _)
  · show 1 ≤ (List.replicate n zeroPg).length
    rw [List.length_replicate]; exact h1
  · show (List.replicate n zeroPg).length ≤ 4096
    rw [List.length_replicate]; exact h2
  · exact Nat.le_trans hb1.size (Nat.le_succ _)
  · exact (hb1.trans (hb2.mono hb1.size)).trans ((Below.refl _ _).alloc (Nat.le_trans hb1.size hb2.size) _)

theorem new_bad (w : World) (n : Int) (h : n < 1 ∨ 4096 < n) : Calls Tryd.prog 10 #[.int .i64 n] w fun e w' => ∃ v, e = .returned (.tuple #[.pointer none, v]) ∧ IsRes w' v 1 ∧ Below w.heap.size w w' := by
  by_cases h1 : n < 1
  · go_enter Tryd.func10, Tryd.ntmps10
    go_wp2_with (go_at_call 23; (with_reducible refine (in_arg _).mono ?_); rintro e w2 ⟨v, rfl, ⟨b, rfl, _⟩, hr, hb2⟩; have HR := Lib.hid (And.intro hr hb2); clear hr hb2)
    go_ret2
    exact ⟨_, rfl, HR.out.1, HR.out.2⟩
  · have h2 : n > 4096 := by omega
    clear h
    go_enter Tryd.func10, Tryd.ntmps10
    go_wp2_with (go_at_call 23; (with_reducible refine (in_arg _).mono ?_); rintro e w2 ⟨v, rfl, ⟨b, rfl, _⟩, hr, hb2⟩; have HR := Lib.hid (And.intro hr hb2); clear hr hb2)
    go_ret2
    exact ⟨_, rfl, HR.out.1, HR.out.2⟩
end Go.Proofs.YtjmjfgbpjecgfaaDoor
