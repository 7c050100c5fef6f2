/-
  flow: Ask, of the reference.
-/
import Derived.Test.YtjmpjdahkliheaaFloAsk
import Derived.IntWalk
namespace Go.Proofs.Ytjmpjdahkliheaa
set_option linter.unusedVariables false
set_option linter.unusedSimpArgs false
open Go.RowKit

section
variable {w : World} {base fb : Nat} {v : Value} {burst need : Int} {s : FS}

set_option maxHeartbeats 4000000 in
theorem askR_walk (D : List Nat) (fin sn' turn burst need : Int) (bad : Bool) (cs : Array Value) (a : Option Addr) (cap : Nat) (Q : Ending → World → Prop)
    (hk : IsBlk w fb cs 54) (c4 : cs[4]? = some (.int .i64 burst)) (c8 : cs[8]? = some (.int .i64 need)) (c9 : cs[9]? = some (.slice a D.length cap)) (c10 : cs[10]? = some (.int .i64 fin)) (c11 : cs[11]? = some (.int .u32 sn')) (c12 : cs[12]? = some (.int .u32 turn)) (c13 : cs[13]? = some (.bool bad))
    (hl : (D.length : Int) ≤ need) (hn0 : 0 ≤ need) (hn1 : need < 9223372036854775808) (ht0 : 0 ≤ turn) (ht1 : turn < 4294967296)
    (HN : Hid (okA ⟨D, fin, sn', turn, bad⟩ burst need = false → ∀ W, Below w.heap.size w W → Q (.returned (.tuple #[.int .u32 0, .agg #[.int .i64 0, .int .i64 0, .bool false], .bool false])) W))
    (HY : Hid (okA ⟨D, fin, sn', turn, bad⟩ burst need = true → ∀ W, But (fun k => k = fb) w W →
      IsBlk W fb (((cs.setIfInBounds 10 (.int .i64 (D.length + min burst (need - D.length)))).setIfInBounds 11 (.int .u32 0)).setIfInBounds 12 (.int .u32 ((turn + 1) % 4294967296))) 54 →
      Q (.returned (.tuple #[.int .u32 turn, .agg #[.int .i64 D.length, .int .i64 (min burst (need - D.length)), .bool false], .bool true])) W)) :
    Calls Try.prog 15 #[.pointer (some ⟨fb, 0, none⟩)] w Q := by
  have HK := Lib.hid hk
  have HC := Lib.hid (And.intro c10 (And.intro c11 c12))
  have e4 := hk.cell 4 c4
  have e8 := hk.cell 8 c8
  have e9 := hk.cell 9 c9
  have e10 := hk.cell 10 c10
  have e11 := hk.cell 11 c11
  have e12 := hk.cell 12 c12
  have e13 := hk.cell 13 c13
  have hfz := hk.fz
  have hlt := hk.lt
  have hb1 : Below w.heap.size w (w.alloc (.cells #[.int .i64 0, .int .i64 0, .bool false] 29)) := (Below.refl _ _).alloc (Nat.le_refl _) _
  have HB1 := Lib.hid hb1
  clear c4 c8 c9 c10 c11 c12 c13 hk hb1
  cases bad with
  | true =>
    go_enter Try.func15, Try.ntmps15
    go_wp2
    go_quiet (fail)
    go_wp2
    refine bodyPost_ret (v := .tuple #[.int .u32 0, .agg #[.int .i64 0, .int .i64 0, .bool false], .bool false]) (by simp [results, Try.results15, go_sem]) rfl (HN.out (by simp [okA]; try omega) _ ?_)
    exact (((((Below.refl _ _).alloc (Nat.le_refl _) _).drewN' _).setCell (Nat.le_refl _) _).setCell (Nat.le_refl _) _).setCell (Nat.le_refl _) _
  | false =>
    by_cases hfin : 0 ≤ fin
    · have hop : decide (0 ≤ fin) = true := by simp [hfin]
      go_enter Try.func15, Try.ntmps15
      go_wp2
      go_quiet (fail)
      go_wp2
      refine bodyPost_ret (v := .tuple #[.int .u32 0, .agg #[.int .i64 0, .int .i64 0, .bool false], .bool false]) (by simp [results, Try.results15, go_sem]) rfl (HN.out (by simp [okA]; try omega) _ ?_)
      exact (((((Below.refl _ _).alloc (Nat.le_refl _) _).drewN' _).setCell (Nat.le_refl _) _).setCell (Nat.le_refl _) _).setCell (Nat.le_refl _) _
    · have hop : decide (0 ≤ fin) = false := by simp [hfin]
      by_cases hln : (D.length : Int) = need
      · have hln' : decide (need ≤ (D.length : Int)) = true := by simp; omega
        have hln2 : ¬ ((D.length : Int) < need) := by omega
        have HLN := Lib.hid hln
        clear hln
        go_enter Try.func15, Try.ntmps15
        go_wp2
        go_quiet (fail)
        go_wp2
        refine bodyPost_ret (v := .tuple #[.int .u32 0, .agg #[.int .i64 0, .int .i64 0, .bool false], .bool false]) (by simp [results, Try.results15, go_sem]) rfl (HN.out (by simp [okA]; try omega) _ ?_)
        exact (((((Below.refl _ _).alloc (Nat.le_refl _) _).drewN' _).setCell (Nat.le_refl _) _).setCell (Nat.le_refl _) _).setCell (Nat.le_refl _) _
      · have hln' : decide (need ≤ (D.length : Int)) = false := by simp; omega
        by_cases hbu : burst < 1
        · have hbu' : decide (burst < 1) = true := by simp [hbu]
          go_enter Try.func15, Try.ntmps15
          go_wp2
          go_quiet (fail)
          go_wp2
          refine bodyPost_ret (v := .tuple #[.int .u32 0, .agg #[.int .i64 0, .int .i64 0, .bool false], .bool false]) (by simp [results, Try.results15, go_sem]) rfl (HN.out (by simp [okA]; try omega) _ ?_)
          exact (((((Below.refl _ _).alloc (Nat.le_refl _) _).drewN' _).setCell (Nat.le_refl _) _).setCell (Nat.le_refl _) _).setCell (Nat.le_refl _) _
        · have hbu' : decide (burst < 1) = false := by simp [hbu]
          have hs1 : IntKind.i64.wrap (need - D.length) = need - D.length := IntWalk.i64_in _ (by omega)
          by_cases hmin : need - D.length < burst
          · have hmn : min burst (need - D.length) = need - D.length := by omega
            rw [hmn] at HY
            clear hmn
            go_enter Try.func15, Try.ntmps15
            go_wp2
            go_quiet (fail)
            go_wp2
            go_region
            go_wp2
            go_region
            go_wp2
            refine bodyPost_ret (v := .tuple #[.int .u32 (((turn + 1) % 4294967296 - 1) % 4294967296), .agg #[.int .i64 D.length, .int .i64 (need - D.length), .bool false], .bool true]) (by simp [results, Try.results15, go_sem]) rfl ?_
            have ht : ((turn + 1) % 4294967296 - 1) % 4294967296 = turn := by omega
            rw [ht]
            refine HY.out (by simp [okA]; omega) _ ?_ ?_
            · exact (((((((((((But.refl (fun k => k = fb) w).alloc _).drewN _).setCell (p := ⟨fb, 10, none⟩) rfl _).setCell (p := ⟨fb, 11, none⟩) rfl _).setCell (p := ⟨fb, 12, none⟩) rfl _).setNew (Nat.le_refl _) _).setNew (Nat.le_refl _) _).setNew (Nat.le_refl _) _).alloc _)).drew
            · exact (((((((((HK.out.alloc _).drewN _).set 10 _).set 11 _).set 12 _).setOther _ _ (Nat.ne_of_lt hlt)).setOther _ _ (Nat.ne_of_lt hlt)).setOther _ _ (Nat.ne_of_lt hlt)).alloc _).drew
          · have hmn : min burst (need - D.length) = burst := by omega
            rw [hmn] at HY
            clear hmn
            go_enter Try.func15, Try.ntmps15
            go_wp2
            go_quiet (fail)
            go_wp2
            go_region
            go_wp2
            go_region
            go_wp2
            refine bodyPost_ret (v := .tuple #[.int .u32 (((turn + 1) % 4294967296 - 1) % 4294967296), .agg #[.int .i64 D.length, .int .i64 burst, .bool false], .bool true]) (by simp [results, Try.results15, go_sem]) rfl ?_
            have ht : ((turn + 1) % 4294967296 - 1) % 4294967296 = turn := by omega
            rw [ht]
            refine HY.out (by simp [okA]; omega) _ ?_ ?_
            · exact (((((((((((But.refl (fun k => k = fb) w).alloc _).drewN _).setCell (p := ⟨fb, 10, none⟩) rfl _).setCell (p := ⟨fb, 11, none⟩) rfl _).setCell (p := ⟨fb, 12, none⟩) rfl _).setNew (Nat.le_refl _) _).setNew (Nat.le_refl _) _).setNew (Nat.le_refl _) _).alloc _)).drew
            · exact (((((((((HK.out.alloc _).drewN _).set 10 _).set 11 _).set 12 _).setOther _ _ (Nat.ne_of_lt hlt)).setOther _ _ (Nat.ne_of_lt hlt)).setOther _ _ (Nat.ne_of_lt hlt)).alloc _).drew
end
end Go.Proofs.Ytjmpjdahkliheaa
