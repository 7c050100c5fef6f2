/-
  serial: the law SerialRuns.
-/
import Derived.Test.YtokogbkldgeeeaaSerOnce
import Derived.Test.YtokogbkldgeeeaaRead3
import Derived.Deep.DeepCutAuto
namespace Go.Proofs.Ytokogbkldgeeeaa
set_option linter.unusedVariables false
set_option linter.unusedSimpArgs false
open Go.RowKit

theorem fit_any (n : Int) (w : World) : Calls Try.prog 12 #[.int .i64 n] w fun e w' => e = .returned (.int .i64 (fitR n)) ∧ w' = w := by
  go_enter Try.func12, Try.ntmps12
  go_wp2
  all_goals go_ret
  all_goals exact ⟨congrArg (fun z => Ending.returned (.int .i64 z)) (by unfold fitR; omega), rfl⟩

section
variable {w : World} {cb : Nat} {S : Int → Bool}
theorem look_came (h : IntMap w cb .u32 (setF S)) (x : Int) : (Instr.lookup 30 (.map (some cb)) (.int .u32 x) false).run Try.prog w = .ok (.bool (S x)) w := by
  have := run_lookup_intMap (P := Try.prog) (t := 30) (kt := 22) (e := 4) Try.underlying30 Try.underlying22 h (z := .bool false) (by kernel_rfl) x
  rw [setF_get] at this
  exact this
theorem add_came (h : IntMap w cb .u32 (setF S)) (x : Int) : ∃ w', (Instr.mapUpdate 30 (.map (some cb)) (.int .u32 x) (.bool true)).run Try.prog w = .ok () w' ∧ IntMap w' cb .u32 (setF (addS S x)) ∧ MapTurned w w' cb := by
  obtain ⟨w', h1, h2, h3⟩ := run_update_intMap (P := Try.prog) (t := 30) (kt := 22) (e := 4) Try.underlying30 Try.underlying22 h x (.bool true)
  rw [setF_add] at h2
  exact ⟨w', h1, h2, h3⟩
theorem del_came (h : IntMap w cb .u32 (setF S)) (x : Int) (ty : TypeId) : ∃ w', (Builtin.delete_ #[30, 22] ty #[.map (some cb), .int .u32 x]).run Try.prog w = .ok (.tuple #[]) w' ∧ IntMap w' cb .u32 (setF (delS S x)) ∧ MapTurned w w' cb := by
  obtain ⟨w', h1, h2, h3⟩ := run_delete_intMap (P := Try.prog) (t := 30) (kt := 22) (e := 4) Try.underlying30 Try.underlying22 h x ty
  rw [setF_del] at h2
  exact ⟨w', h1, h2, h3⟩
end
theorem cell_but2 {w w' : World} {wb mb : Nat} (hb : But2 w w' wb mb) {p : Addr} {v : Value} (h : w.cell? p = some v) (h1 : p.block ≠ wb) (h2 : p.block ≠ mb) (hl : p.block < w.heap.size) : w'.cell? p = some v := by
  rw [← h]
  exact World.cell?_of_block (hb.2.2.2.2 _ hl h1 h2)

/-- A call's three cells. -/
def IsCall (w : World) (b off : Nat) (kd x rr : Int) : Prop := w.cell? ⟨b, off, none⟩ = some (.int .i64 kd) ∧ w.cell? ⟨b, off + 1, none⟩ = some (.int .u32 x) ∧ w.cell? ⟨b, off + 2, none⟩ = some (.int .i64 rr)

set_option maxHeartbeats 3000000 in
set_option maxRecDepth 100000 in
theorem runs_walk (next room : Int) (a : Option Addr) (len cap : Nat) (w : World) (hn : 0 ≤ next ∧ next < 4294967296)
    (hz : len = 0 ∨ ∃ b off, a = some ⟨b, off, none⟩ ∧ b < w.heap.size ∧ ∀ i, i < len → ∃ kd x rr, IsCall w b (off + i * 3) kd x rr ∧ 0 ≤ x ∧ x < 4294967296) (hm : len ≤ 2 ^ 62) :
    Calls Try.prog 5 #[.int .u32 next, .int .i64 room, .slice a len cap] w fun e w' => e = .returned (.bool true) ∧ Below w.heap.size w w' := by
  obtain ⟨hn0, hn1⟩ := hn
  have hmm := @run_makeMap Try.prog
  go_enter Try.func5, Try.ntmps5
  go_wp2_with fail
  refine (stands_any _).mono ?_
  rintro e w1 ⟨rfl, hb1⟩
  go_wp2_with fail
  refine (new_any next room _ hn0 hn1).mono ?_
  rintro e w2 ⟨rfl, hw, hb2, hsz⟩
  have hB : Below w.heap.size w (w2.alloc (.map #[] 0)) := (hb1.trans (hb2.mono hb1.size)).alloc (by have := hb1.size; omega) _
  have hwb1 : w.heap.size ≤ w1.heap.size + 1 := by have := hb1.size; omega
  have hwb0 : w.heap.size ≤ w1.heap.size := hb1.size
  have hwb2 : w.heap.size ≤ w2.heap.size := by have := hb1.size; omega
  have hne1 : w2.heap.size ≠ w1.heap.size + 1 := by omega
  have hne2 : w2.heap.size ≠ w1.heap.size := by omega
  have hw3 : IsWin (w2.alloc (.map #[] 0)) (w1.heap.size + 1) w1.heap.size next (fitR room) (fun _ => false) :=
    hw.of_blocks (Below.heap_alloc _ _ _ (by omega)) (Below.heap_alloc _ _ _ (by omega))
  have hm3 : IntMap (w2.alloc (.map #[] 0)) w2.heap.size .u32 (setF fun _ => false) := IntMap.new w2 .u32
  clear hw hb1 hb2 hsz
  generalize w1.heap.size + 1 = wb at *
  generalize w1.heap.size = mb at *
  go_wp2_with fail
  generalize w2.alloc (.map #[] 0) = w3 at *
  generalize w2.heap.size = cb at *
  refine (fit_any _ _).mono ?_
  rintro e w4 ⟨rfl, rfl⟩
  go_wp2
  go_loopw [0, 1, 10, 11, 12, 13, 14, 26] (fun nv rv _ _ _ _ _ i wr => ∃ (k : Nat) (nx rm : Int) (S : Int → Bool), k ≤ len ∧ k ≤ 500 ∧ i = .int .i64 k ∧ nv = .int .u32 nx ∧ rv = .int .i64 rm ∧ IsWin wr wb mb nx rm S ∧ IntMap wr cb .u32 (setF S) ∧ Below w.heap.size w wr) (fun _ _ _ _ _ _ _ i _ => len - (intOf i).toNat)
  case atStart => exact ⟨0, _, _, _, by omega, by omega, rfl, rfl, rfl, hw3, hm3, hB⟩
  case round =>
    clear hw3 hm3 hB
    obtain ⟨k, nx, rm, S, hk1, hk2, rfl, rfl, rfl, hwr, hmr, hBr⟩ := hrel
    by_cases hlt : k < len
    · obtain ⟨b, off, rfl, hbl, hcs⟩ := hz.resolve_left (by omega)
      obtain ⟨kd, x, rr, ⟨q1, q2, q3⟩, hx0, hx1⟩ := hcs k hlt
      have q1' := (hBr.cell (p := ⟨b, off + k * 3, none⟩) hbl).trans q1
      have q2' := (hBr.cell (p := ⟨b, off + k * 3 + 1, none⟩) hbl).trans q2
      have q3' := (hBr.cell (p := ⟨b, off + k * 3 + 2, none⟩) hbl).trans q3
      clear q1 q2 q3 hcs hz
      by_cases h500 : k = 500
      · subst h500
        have hal : Below w.heap.size w (wr.alloc (.cells #[.int .i64 kd, .int .u32 x, .int .i64 rr] 33)) := hBr.alloc hBr.size _
        go_wp2
        go_ret
        exact ⟨rfl, hal⟩
      · have h5 : ((k : Int) == 500) = false := by simp; omega
        have hal : Below w.heap.size w (wr.alloc (.cells #[.int .i64 kd, .int .u32 x, .int .i64 rr] 33)) := hBr.alloc hBr.size _
        have hwA : IsWin (wr.alloc (.cells #[.int .i64 kd, .int .u32 x, .int .i64 rr] 33)) wb mb nx rm S := hwr.of_blocks (Below.heap_alloc _ _ _ hwr.lt) (Below.heap_alloc _ _ _ hwr.map.lt)
        have hmA : IntMap (wr.alloc (.cells #[.int .i64 kd, .int .u32 x, .int .i64 rr] 33)) cb .u32 (setF S) := hmr.of_block (Below.heap_alloc _ _ _ hmr.lt)
        have n0 : (wr.alloc (.cells #[.int .i64 kd, .int .u32 x, .int .i64 rr] 33)).cell? ⟨wr.heap.size, 0, none⟩ = some (.int .i64 kd) := by simp
        have n1 : (wr.alloc (.cells #[.int .i64 kd, .int .u32 x, .int .i64 rr] 33)).cell? ⟨wr.heap.size, 1, none⟩ = some (.int .u32 x) := by simp
        have n2 : (wr.alloc (.cells #[.int .i64 kd, .int .u32 x, .int .i64 rr] 33)).cell? ⟨wr.heap.size, 2, none⟩ = some (.int .i64 rr) := by simp
        have hp0 : wr.heap.size < (wr.alloc (.cells #[.int .i64 kd, .int .u32 x, .int .i64 rr] 33)).heap.size := by simp
        have hp1 : wr.heap.size ≠ wb := by have := hwr.lt; omega
        have hp2 : wr.heap.size ≠ mb := by have := hwr.map.lt; omega
        have hp3 : wr.heap.size ≠ cb := by have := hmr.lt; omega
        go_upto_region 11 with fail
        clear q1' q2' q3'
        have hnx0 := hwr.nx0
        have hnx1 := hwr.nx1
        have hrm0 := hwr.rm0
        have hrm1 := hwr.rm1
        clear hwr hmr hBr
        generalize wr.alloc (.cells #[.int .i64 kd, .int .u32 x, .int .i64 rr] 33) = W at *
        generalize wr.heap.size = pb at *
        by_cases hk0 : kd = 0
        · have hk0' : (kd == 0) = true := by simp [hk0]
          have hcome := comeB_eq hnx0 hnx1 hrm0 hrm1 S x
          obtain ⟨d, hd1, hd2, hd3⟩ : ∃ d, (x + 4294967296 - nx) % 4294967296 = d ∧ (x - nx) % 4294967296 = d ∧ (x + 4294967296 - nx).tmod 4294967296 = d := ⟨(x - nx) % 4294967296, by omega, rfl, by rw [Int.tmod_eq_emod_of_nonneg (by omega)]; omega⟩
          rw [hd2] at hcome
          have hd0 : 0 ≤ d := by omega
          have hlk := look_came hmA x
          clear hk0
          by_cases hdr : d < rm
          · have hdr' : decide (d < rm) = true := by simp [hdr]
            cases hs : S x with
            | false =>
              rw [hs] at hlk hcome
              have hc : comeB nx rm S x = true := by rw [hcome]; simp [hdr]
              have HC := Lib.hid hc
              clear hc hcome hs hdr
              obtain ⟨V, hV1, hV2⟩ : ∃ V, (nx + rm - 1) % 4294967296 = V ∧ ((nx + rm) % 4294967296 - 1) % 4294967296 = V := ⟨(nx + rm - 1) % 4294967296, rfl, by omega⟩
              go_wp2_with fail
              refine (come_is hwA x true hx0 hx1 HC.out).mono ?_
              rintro e w5 ⟨rfl, hw5', hb5⟩
              have hw5 : IsWin w5 wb mb nx rm (addS S x) := hw5'
              have hm5 := hmA.but2 hb5 hne1 hne2
              have hB5 := hb5.step hal hwb1 hwb0
              have n0' := cell_but2 hb5 n0 hp1 hp2 hp0
              have n1' := cell_but2 hb5 n1 hp1 hp2 hp0
              obtain ⟨w6, hst, hmT, htr⟩ := add_came hm5 x
              have hwT := hw5.turned htr (Ne.symm hne1) (Ne.symm hne2)
              have hBT := htr.below hB5 hwb2
              clear hw5' hw5 hm5 hB5 hb5 htr hlk hwA hmA hal n0 n1 n2
              have hV : (nx + rm - 1) % 4294967296 = V := hV1
              have c0 := hwT.c0
              have c1 := hwT.c1
              go_wp2_with fail
              refine (last_is hwT V hV).mono ?_
              rintro e w8 ⟨rfl, hw8, hb8⟩
              have hm8 := hmT.but2 hb8 hne1 hne2
              have hB8 := hb8.step hBT hwb1 hwb0
              go_wp2
              go_roundw
              case rel => exact ⟨k + 1, _, _, _, by omega, by omega, by go_num, rfl, rfl, hw8, hm8, hB8⟩
              case measure => simp [intOf]; omega
            | true =>
              rw [hs] at hlk hcome
              have hc : comeB nx rm S x = false := by rw [hcome]; simp
              have HC := Lib.hid hc
              clear hc hcome hs hdr
              obtain ⟨V, hV1, hV2⟩ : ∃ V, (nx + rm - 1) % 4294967296 = V ∧ ((nx + rm) % 4294967296 - 1) % 4294967296 = V := ⟨(nx + rm - 1) % 4294967296, rfl, by omega⟩
              go_wp2_with fail
              refine (come_is hwA x false hx0 hx1 HC.out).mono ?_
              rintro e w5 ⟨rfl, hw5', hb5⟩
              have hwT : IsWin w5 wb mb nx rm S := hw5'
              have hmT := hmA.but2 hb5 hne1 hne2
              have hBT := hb5.step hal hwb1 hwb0
              clear hw5' hb5 hlk hwA hmA hal n0 n1 n2
              have hV : (nx + rm - 1) % 4294967296 = V := hV1
              have c0 := hwT.c0
              have c1 := hwT.c1
              go_wp2_with fail
              refine (last_is hwT V hV).mono ?_
              rintro e w8 ⟨rfl, hw8, hb8⟩
              have hm8 := hmT.but2 hb8 hne1 hne2
              have hB8 := hb8.step hBT hwb1 hwb0
              go_wp2
              go_roundw
              case rel => exact ⟨k + 1, _, _, _, by omega, by omega, by go_num, rfl, rfl, hw8, hm8, hB8⟩
              case measure => simp [intOf]; omega
          · have hdr' : decide (d < rm) = false := decide_eq_false hdr
            have hdr2 : rm ≤ d := by omega
            have hc : comeB nx rm S x = false := by rw [hcome, hdr']; rfl
            have HC := Lib.hid hc
            clear hc hcome hdr
            obtain ⟨V, hV1, hV2⟩ : ∃ V, (nx + rm - 1) % 4294967296 = V ∧ ((nx + rm) % 4294967296 - 1) % 4294967296 = V := ⟨(nx + rm - 1) % 4294967296, rfl, by omega⟩
            go_wp2_with fail
            refine (come_is hwA x false hx0 hx1 HC.out).mono ?_
            rintro e w5 ⟨rfl, hw5', hb5⟩
            have hwT : IsWin w5 wb mb nx rm S := hw5'
            have hmT := hmA.but2 hb5 hne1 hne2
            have hBT := hb5.step hal hwb1 hwb0
            clear hw5' hb5 hlk hwA hmA hal n0 n1 n2
            have hV : (nx + rm - 1) % 4294967296 = V := hV1
            have c0 := hwT.c0
            have c1 := hwT.c1
            go_wp2_with fail
            refine (last_is hwT V hV).mono ?_
            rintro e w8 ⟨rfl, hw8, hb8⟩
            have hm8 := hmT.but2 hb8 hne1 hne2
            have hB8 := hb8.step hBT hwb1 hwb0
            go_wp2
            go_roundw
            case rel => exact ⟨k + 1, _, _, _, by omega, by omega, by go_num, rfl, rfl, hw8, hm8, hB8⟩
            case measure => simp [intOf]; omega
        · have hk0' : (kd == 0) = false := by simp [hk0]
          by_cases hk1' : kd = 1
          · have hk1'' : (kd == 1) = true := by simp [hk1']
            have hlk := look_came hmA nx
            clear hk0 hk1'
            cases hs : S nx with
            | true =>
              rw [hs] at hlk
              have HS := Lib.hid hs
              obtain ⟨nx', hnx'⟩ : ∃ nx', (nx + 1) % 4294967296 = nx' := ⟨_, rfl⟩
              have hx'0 : 0 ≤ nx' := by omega
              have hx'1 : nx' < 4294967296 := by omega
              clear hs
              obtain ⟨V, hV1, hV2⟩ : ∃ V, (nx' + rm - 1) % 4294967296 = V ∧ ((nx' + rm) % 4294967296 - 1) % 4294967296 = V := ⟨(nx' + rm - 1) % 4294967296, rfl, by omega⟩
              go_wp2_with fail
              refine (turn_is hwA true HS.out).mono ?_
              rintro e w5 ⟨rfl, hw5', hb5⟩
              have hw5 : IsWin w5 wb mb ((nx + 1) % 4294967296) rm (delS S nx) := hw5'
              rw [hnx'] at hw5
              have hm5 := hmA.but2 hb5 hne1 hne2
              have hB5 := hb5.step hal hwb1 hwb0
              obtain ⟨w6, hst, hmT, htr⟩ := del_came hm5 nx 0
              have hwT := hw5.turned htr (Ne.symm hne1) (Ne.symm hne2)
              have hBT := htr.below hB5 hwb2
              clear hw5' hw5 hm5 hB5 hb5 htr hlk hwA hmA hal n0 n1 n2
              have hV : (nx' + rm - 1) % 4294967296 = V := hV1
              have c0 := hwT.c0
              have c1 := hwT.c1
              go_wp2_with fail
              refine (last_is hwT V hV).mono ?_
              rintro e w8 ⟨rfl, hw8, hb8⟩
              have hm8 := hmT.but2 hb8 hne1 hne2
              have hB8 := hb8.step hBT hwb1 hwb0
              go_wp2
              go_roundw
              case rel => exact ⟨k + 1, _, _, _, by omega, by omega, by go_num, rfl, rfl, hw8, hm8, hB8⟩
              case measure => simp [intOf]; omega
            | false =>
              rw [hs] at hlk
              have HS := Lib.hid hs
              clear hs
              obtain ⟨V, hV1, hV2⟩ : ∃ V, (nx + rm - 1) % 4294967296 = V ∧ ((nx + rm) % 4294967296 - 1) % 4294967296 = V := ⟨(nx + rm - 1) % 4294967296, rfl, by omega⟩
              go_wp2_with fail
              refine (turn_is hwA false HS.out).mono ?_
              rintro e w5 ⟨rfl, hw5', hb5⟩
              have hwT : IsWin w5 wb mb nx rm S := hw5'
              have hmT := hmA.but2 hb5 hne1 hne2
              have hBT := hb5.step hal hwb1 hwb0
              clear hw5' hb5 hlk hwA hmA hal n0 n1 n2
              have hV : (nx + rm - 1) % 4294967296 = V := hV1
              have c0 := hwT.c0
              have c1 := hwT.c1
              go_wp2_with fail
              refine (last_is hwT V hV).mono ?_
              rintro e w8 ⟨rfl, hw8, hb8⟩
              have hm8 := hmT.but2 hb8 hne1 hne2
              have hB8 := hb8.step hBT hwb1 hwb0
              go_wp2
              go_roundw
              case rel => exact ⟨k + 1, _, _, _, by omega, by omega, by go_num, rfl, rfl, hw8, hm8, hB8⟩
              case measure => simp [intOf]; omega
          · have hk1'' : (kd == 1) = false := by simp [hk1']
            clear hk0 hk1'
            obtain ⟨rm', hrm'⟩ : ∃ rm', fitR rr = rm' := ⟨_, rfl⟩
            have hr'0 : 0 ≤ rm' := by rw [← hrm']; unfold fitR; omega
            have hr'1 : rm' ≤ 65536 := by rw [← hrm']; unfold fitR; omega
            obtain ⟨V, hV1, hV2⟩ : ∃ V, (nx + rm' - 1) % 4294967296 = V ∧ ((nx + rm') % 4294967296 - 1) % 4294967296 = V := ⟨(nx + rm' - 1) % 4294967296, rfl, by omega⟩
            go_wp2_with fail
            refine (resize_any hwA rr).mono ?_
            rintro e w5 ⟨rfl, hwT, hb5⟩
            rw [hrm'] at hwT
            have hmT := hmA.but2 hb5 hne1 hne2
            have hBT := hb5.step hal hwb1 hwb0
            have n2' := cell_but2 hb5 n2 hp1 hp2 hp0
            clear hb5 hwA hmA hal n0 n1 n2
            go_wp2_with fail
            refine (fit_any _ _).mono ?_
            rintro e w6 ⟨rfl, rfl⟩
            rw [hrm']
            have hV : (nx + rm' - 1) % 4294967296 = V := hV1
            have c0 := hwT.c0
            have c1 := hwT.c1
            go_wp2_with fail
            refine (last_is hwT V hV).mono ?_
            rintro e w8 ⟨rfl, hw8, hb8⟩
            have hm8 := hmT.but2 hb8 hne1 hne2
            have hB8 := hb8.step hBT hwb1 hwb0
            go_wp2
            go_roundw
            case rel => exact ⟨k + 1, _, _, _, by omega, by omega, by go_num, rfl, rfl, hw8, hm8, hB8⟩
            case measure => simp [intOf]; omega
    · obtain rfl : k = len := by omega
      go_wp2
      go_ret
      exact ⟨rfl, hBr⟩

open Go.ChangeShapes Go.WideShapes Go.ChangeAt
theorem serialRuns_law (v0 v1 v2 : Value) (D0 D1 D2 : D) (W : World) (r0 : RdV Try.prog W 22 v0 D0) (r1 : RdV Try.prog W 3 v1 D1) (r2 : RdV Try.prog W 27 v2 D2) :
    Calls Try.prog 5 #[v0, v1, v2] W fun e w' => e = .returned (.bool true) ∧ Below W.heap.size W w' := by
  obtain ⟨n, rfl, _, hn⟩ := r0.int Try.underlying22
  obtain ⟨m, rfl, _, hm⟩ := r1.int Try.underlying3
  have hce : Try.prog.cellsOf 33 = 3 := by kernel_rfl
  have hb1 : Try.prog.bytesOf 33 = 24 := by kernel_rfl
  have hi : Try.prog.cellsOf 3 = 1 := by kernel_rfl
  have hu : Try.prog.cellsOf 22 = 1 := by kernel_rfl
  obtain ⟨a, len, cap, rows, rfl, h1, h2, h3, h4, hlen, hrd, hat⟩ := r2.rows Try.underlying27 (by rw [hce]; decide)
  rw [hce] at hlen hat
  rw [hb1] at h3
  simp only [reachBytes] at h3
  refine runs_walk n m a len cap W (u32_bd hn) ?_ (by omega)
  rcases hat with h0 | ⟨b, off, rfl, hbl, hc⟩
  · exact .inl h0
  · refine .inr ⟨b, off, rfl, hbl (by decide), fun i hi' => ?_⟩
    obtain ⟨d, hd⟩ := hrd i hi'
    obtain ⟨kd, k1, _⟩ := hd.field_int Try.underlying33 0 _ rfl Try.underlying3 hi
    obtain ⟨x, k2, hx⟩ := hd.field_int Try.underlying33 1 _ rfl Try.underlying22 hu
    obtain ⟨rr, k3, _⟩ := hd.field_int Try.underlying33 2 _ rfl Try.underlying3 hi
    exact ⟨kd, x, rr, ⟨(hc i hi' 0 (by omega)).trans k1, (hc i hi' 1 (by omega)).trans k2, (hc i hi' 2 (by omega)).trans k3⟩, u32_bd hx⟩
end Go.Proofs.Ytokogbkldgeeeaa
