/-
  sha: ShaLengths.
-/
import Derived.Test.YtiakkjdkbpbejaaShaLaws
import Derived.Laws.MakeOwn
namespace Go.Proofs.Ytiakkjdkbpbejaa
set_option linter.unusedVariables false
set_option linter.unusedSimpArgs false
open Go.RowKit

theorem within1000 (i : Int) : ∃ p : Nat, (IntKind.i64.wrap (i.tmod 1000 + 1000)).tmod 1000 = (p : Int) ∧ p < 1000 := by
  have h1 : -1000 < i.tmod 1000 := Int.lt_tmod_of_pos i (by decide)
  have h2 : i.tmod 1000 < 1000 := Int.tmod_lt_of_pos i (by decide)
  generalize i.tmod 1000 = r at *
  rw [IntWalk.i64_in _ (by omega), Int.tmod_eq_emod_of_nonneg (by omega)]
  exact ⟨((r + 1000) % 1000).toNat, by omega, by omega⟩
theorem make_bytes (p : Nat) (hp : p < 1000) (w : World) : (Instr.makeSlice 22 (.int .i64 (p : Int)) (.int .i64 (p : Int))).run Try.prog w = .ok (.slice (some ⟨w.heap.size, 0, none⟩) p p) (w.alloc (.cells (nv .u8 (List.replicate p 0)) 5)) := by
  obtain ⟨i0, hi, hz0, hz1, hz2⟩ := info_parts Try.info8
  have h := run_make (P := Try.prog) w 22 5 i0 (.int .u8 0) Try.underlying22 hi hz0 .i64 .i64 p p (by omega) (by omega) (by rw [hz2]; omega) (by omega)
  rw [h, hz1]
  have e : madeCells (Value.int .u8 0).cells (p * 1) = nv .u8 (List.replicate p 0) := by
    apply Array.ext
    · simp [size_madeCells, nv_size]
    · intro j h1 h2
      simp [madeCells, nv, Value.cells, List.getElem_replicate, Nat.mod_one]
  simp only [Int.toNat_natCast, e]

/-- A row of p, k of them c. -/
def crow (c p k : Nat) : List Nat := (List.range p).map fun i => if i < k then c else 0
theorem crow_length (c p k : Nat) : (crow c p k).length = p := by simp [crow]
theorem crow_zero (c p : Nat) : crow c p 0 = List.replicate p 0 := by
  apply List.ext_getElem?; intro i
  by_cases h : i < p <;> simp [crow, List.getElem?_replicate, h]
theorem crow_set (c p k : Nat) (hk : k < p) : (crow c p k).set k c = crow c p (k + 1) := by
  apply List.ext_getElem?; intro i
  rw [List.getElem?_set]
  by_cases hi : i < p
  · by_cases he : k = i
    · subst he; simp [crow, hi]
    · rw [if_neg he]
      simp [crow, hi]
      have : (i < k + 1) ↔ (i < k) := by omega
      simp [this]
  · rw [List.getElem?_eq_none (by rw [crow_length]; omega), if_neg (by omega), List.getElem?_eq_none (by rw [crow_length]; omega)]
theorem isBytes_row {w : World} {b : Nat} {l : List Nat} {t : TypeId} (hk : IsBlk w b (nv .u8 l) t) (hl : ∀ c ∈ l, c < 256) : IsBytes w (some ⟨b, 0, none⟩) l :=
  ⟨hl, .inr ⟨b, 0, rfl, fun i hi => by rw [Nat.zero_add]; exact hk.cell i (nv_get .u8 l i hi)⟩⟩

set_option maxHeartbeats 2000000 in
theorem lengths_walk (v0 v1 : Value) (D0 D1 : D) (W : World) (r0 : RdV Try.prog W 5 v0 D0) (r1 : RdV Try.prog W 3 v1 D1) :
    Calls Try.prog 5 #[v0, v1] W fun e w' => e = .returned (.bool true) ∧ Below W.heap.size W w' := by
  obtain ⟨c0, rfl, -, hc⟩ := r0.int (k := .u8) (by kernel_rfl)
  obtain ⟨i, rfl, -, hi⟩ := r1.int (k := .i64) (by kernel_rfl)
  obtain ⟨c, rfl, hc2⟩ := nat_of_u8 hc
  obtain ⟨p, hp, hp1⟩ := within1000 i
  have hp2 : (wrap64 (i.tmod 1000 + 1000)).tmod 1000 = (p : Int) := by rw [← IntWalk.i64_left]; exact hp
  have hmk := make_bytes p hp1
  clear hc hi r0 r1
  go_enter Try.func5, Try.ntmps5
  go_wp2_with fail
  refine (stands_any _).mono ?_
  rintro e w1 ⟨rfl, hb1⟩
  have HB1 := Lib.hid hb1
  clear hb1
  go_wp2_with fail
  have k0 := IsBlk.new w1 (nv .u8 (List.replicate p 0)) 5
  rw [← crow_zero c p] at k0
  have HK := Lib.hid (And.intro k0 (HB1.out.alloc HB1.out.size (.cells (nv .u8 (crow c p 0)) 5)))
  have hww : W.heap.size ≤ w1.heap.size := HB1.out.size
  rw [← crow_zero c p]
  clear k0 hmk hp hp2
  generalize w1.alloc (.cells (nv .u8 (crow c p 0)) 5) = w2 at *
  generalize w1.heap.size = mb at *
  go_loopw [17] (fun s wr => ∃ k : Nat, k ≤ p ∧ s = .int .i64 k ∧ IsBlk wr mb (nv .u8 (crow c p k)) 5 ∧ Below W.heap.size W wr) (fun s _ => p - (intOf s).toNat)
  case atStart => exact ⟨0, by omega, rfl, HK.out.1, HK.out.2⟩
  case round =>
    clear HK
    obtain ⟨k, hk, rfl, hblk, hbel⟩ := hrel
    by_cases hlt : k < p
    · have c1 := hblk.cell k (nv_get .u8 _ k (by rw [crow_length]; exact hlt))
      have hfz := hblk.fz k
      have hs := hblk.set k (.int .u8 (c : Int))
      rw [nv_set, crow_set c p k hlt] at hs
      have HE := Lib.hid (And.intro hs hbel)
      clear hs hbel hblk
      go_wp2
      go_roundw
      case rel => exact ⟨k + 1, by omega, by go_num, HE.out.1, HE.out.2.setCell (p := ⟨mb, k, none⟩) hww _⟩
      case measure => simp [intOf]; omega
    · have hkp : k = p := by omega
      rw [hkp] at hblk
      have hq := eq_same (digest (crow c p p)) (digest_length _)
      have hb := isBytes_row hblk (by intro x hx; simp [crow] at hx; obtain ⟨_, _, rfl⟩ := hx; split <;> omega)
      have HE := Lib.hid (And.intro hb hbel)
      have HL : Hid (p = (crow c p p).length) := (crow_length c p p).symm
      clear hb hbel hblk hkp
      generalize crow c p p = m at *
      go_wp2_with fail
      refine (sum_any _ (some ⟨mb, 0, none⟩) p p m HL HE.out.1 (by intro h; cases h) (by omega)).mono ?_
      rintro e w3 ⟨rfl, hb3⟩
      have HB3 := Lib.hid (And.intro (HE.out.2.trans (hb3.mono HE.out.2.size)) (HE.out.1.of_below hb3))
      clear hb3
      go_wp2_with fail
      refine (sumR_any _ (some ⟨mb, 0, none⟩) p p m HL HB3.out.2 (by intro h; cases h) (by omega)).mono ?_
      rintro e w4 ⟨rfl, hb4⟩
      have HB4 := Lib.hid (HB3.out.1.trans (hb4.mono HB3.out.1.size))
      clear hb4
      go_wp2
      go_ret
      exact ⟨rfl, HB4.out⟩
end Go.Proofs.Ytiakkjdkbpbejaa
