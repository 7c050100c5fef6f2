/-
  sha: ShaSums, ShaThree.
-/
import Derived.Test.YtiakkjdkbpbejaaShaStands
import Derived.Test.YtiakkjdkbpbejaaRead2
import Derived.Test.YtiakkjdkbpbejaaCut
namespace Go.Proofs.Ytiakkjdkbpbejaa
set_option linter.unusedVariables false
set_option linter.unusedSimpArgs false
open Go.RowKit

theorem RdV.bytes {w : World} {v : Value} {d : D} (h : RdV Try.prog w 22 v d) : ∃ a len cap m, v = .slice a len cap ∧ Hid (len = m.length) ∧ len ≤ cap ∧ cap ≤ 140737488351232 ∧ (a = none → cap = 0) ∧ IsBytes w a m ∧ (∀ x, a = some x → m ≠ [] → x.block < w.heap.size) := by
  obtain ⟨a, len, cap, zs, rfl, -, h1, h2, h3, h4, h5, h6⟩ := h.ints (k := .u8) (e := 5) (by kernel_rfl) (by kernel_rfl) (by kernel_rfl)
  obtain ⟨l, hl, hb, hx⟩ := h6.bytes
  have hbo : Try.prog.bytesOf 5 = 1 := by kernel_rfl
  rw [hbo] at h4
  unfold reachBytes at h4
  exact ⟨a, len, cap, l, rfl, Lib.hid (by omega), h2, by omega, h5, hb, hx⟩

set_option maxHeartbeats 2000000 in
theorem sums_walk (v0 : Value) (D0 : D) (W : World) (r0 : RdV Try.prog W 22 v0 D0) :
    Calls Try.prog 3 #[v0] W fun e w' => e = .returned (.bool true) ∧ Below W.heap.size W w' := by
  obtain ⟨a, len, cap, m, rfl, HL, hlc, hcap, hc0, hm, hx⟩ := r0.bytes
  have HM := Lib.hid hm
  have hlen : len ≤ 140737488355000 := by omega
  have hq := eq_same (digest m) (digest_length _)
  clear hm r0 hx
  go_enter Try.func3, Try.ntmps3
  go_wp2_with fail
  refine (stands_any _).mono ?_
  rintro e w1 ⟨rfl, hb1⟩
  have HB1 := Lib.hid hb1
  clear hb1
  have hn0 : len = 0 → a = none ∨ True := fun _ => .inr trivial
  go_wp2_with fail
  refine (sum_any _ a len cap m HL (HM.out.of_below HB1.out) hc0 hlen).mono ?_
  rintro e w2 ⟨rfl, hb2⟩
  have HB2 := Lib.hid (HB1.out.trans (hb2.mono HB1.out.size))
  clear hb2
  go_wp2_with fail
  refine (sumR_any _ a len cap m HL (HM.out.of_below HB2.out) hc0 hlen).mono ?_
  rintro e w3 ⟨rfl, hb3⟩
  have HB3 := Lib.hid (HB2.out.trans (hb3.mono HB2.out.size))
  clear hb3
  go_wp2
  go_ret
  exact ⟨rfl, HB3.out⟩
theorem into (i : Int) (n : Nat) (hn : n ≤ 4000) : ∃ p : Nat, (IntKind.i64.wrap (i.tmod ((n : Int) + 1) + ((n : Int) + 1))).tmod ((n : Int) + 1) = (p : Int) ∧ p ≤ n := by
  have h1 : -((n : Int) + 1) < i.tmod ((n : Int) + 1) := by
    have := Int.lt_tmod_of_pos i (show (0 : Int) < (n : Int) + 1 by omega)
    omega
  have h2 : i.tmod ((n : Int) + 1) < (n : Int) + 1 := Int.tmod_lt_of_pos i (by omega)
  generalize i.tmod ((n : Int) + 1) = r at *
  rw [IntWalk.i64_in _ (by omega), Int.tmod_eq_emod_of_nonneg (by omega)]
  have h3 := Int.emod_nonneg (r + ((n : Int) + 1)) (show (n : Int) + 1 ≠ 0 by omega)
  have h4 := Int.emod_lt_of_pos (r + ((n : Int) + 1)) (show (0 : Int) < (n : Int) + 1 by omega)
  exact ⟨((r + ((n : Int) + 1)) % ((n : Int) + 1)).toNat, by omega, by omega⟩
theorem bytes_bound {w : World} {a : Option Addr} {m : List Nat} (hx : ∀ x, a = some x → m ≠ [] → x.block < w.heap.size) {cap l h : Nat} {x : Addr} (hcut : cutA a cap l = some x) (hne : (m.drop l).take (h - l) ≠ []) : x.block < w.heap.size := by
  obtain ⟨y, hy, hb⟩ := cutA_block hcut
  rw [← hb]
  exact hx y hy (by rintro rfl; simp at hne)

set_option maxHeartbeats 1000000 in
theorem three_walk (v0 v1 v2 : Value) (D0 D1 D2 : D) (W : World) (r0 : RdV Try.prog W 22 v0 D0) (r1 : RdV Try.prog W 3 v1 D1) (r2 : RdV Try.prog W 3 v2 D2) :
    Calls Try.prog 7 #[v0, v1, v2] W fun e w' => e = .returned (.bool true) ∧ Below W.heap.size W w' := by
  obtain ⟨a, len, cap, m, rfl, HL, hlc, hcap, hc0, hm, hx⟩ := r0.bytes
  obtain ⟨i, rfl, -, hi⟩ := r1.int (k := .i64) (by kernel_rfl)
  obtain ⟨j, rfl, -, hj⟩ := r2.int (k := .i64) (by kernel_rfl)
  have HM := Lib.hid hm
  have HX := Lib.hid hx
  have hlen : len ≤ 140737488355000 := by omega
  have hq := eq_same (digest m) (digest_length _)
  clear hm r0 hx r1 r2 hi hj
  go_enter Try.func7, Try.ntmps7
  go_wp2_with fail
  refine (stands_any _).mono ?_
  rintro e w1 ⟨rfl, hb1⟩
  have HB1 := Lib.hid hb1
  clear hb1
  by_cases hbig : len ≤ 4000
  · obtain ⟨p, hp, hpl⟩ := into i len hbig
    obtain ⟨q, hq', hql⟩ := into j len hbig
    have t1 : ((len : Int) + 1 == 0) = false := by simp; omega
    have hp2 : (wrap64 (i.tmod ((len : Int) + 1) + ((len : Int) + 1))).tmod ((len : Int) + 1) = (p : Int) := by rw [← IntWalk.i64_left]; exact hp
    have hq2 : (wrap64 (j.tmod ((len : Int) + 1) + ((len : Int) + 1))).tmod ((len : Int) + 1) = (q : Int) := by rw [← IntWalk.i64_left]; exact hq'
    go_wp2_with fail
    go_quiet (fail)
    clear hp hq' hp2 hq2
    by_cases hpq : p ≤ q
    case' pos =>
      obtain ⟨lo, hlo⟩ : ∃ x, x = p := ⟨_, rfl⟩
      obtain ⟨hi, hhi⟩ : ∃ x, x = q := ⟨_, rfl⟩
      rw [← hlo] at hpl hpq ⊢
      rw [← hhi] at hql hpq ⊢
      have hll : lo ≤ len := hpl
      have hhl : hi ≤ len := hql
      have hlh : lo ≤ hi := hpq
      clear hlo hhi hpl hql
    case' neg =>
      obtain ⟨lo, hlo⟩ : ∃ x, x = q := ⟨_, rfl⟩
      obtain ⟨hi, hhi⟩ : ∃ x, x = p := ⟨_, rfl⟩
      rw [← hhi] at hpl hpq ⊢
      rw [← hlo] at hql hpq ⊢
      have hll : lo ≤ len := hql
      have hhl : hi ≤ len := hpl
      have hlh : lo ≤ hi := by omega
      clear hlo hhi hpl hql
    all_goals
      have hml := HL.out
      have HC1 := Lib.hid (cut_length m 0 lo (by omega) (by omega))
      have HC2 := Lib.hid (cut_length m lo hi hlh (by omega))
      have HC3 := Lib.hid (cut_length m hi len (by omega) (by omega))
      have HJ : Hid ((([] ++ (m.drop 0).take (lo - 0)) ++ (m.drop lo).take (hi - lo)) ++ (m.drop hi).take (len - hi) = m) := by
        have e3 : (m.drop hi).take (len - hi) = m.drop hi := List.take_of_length_le (by rw [List.length_drop]; omega)
        have e2 : m.drop lo = (m.drop lo).take (hi - lo) ++ m.drop hi := by
          have := (List.take_append_drop (hi - lo) (m.drop lo)).symm
          rwa [List.drop_drop, show lo + (hi - lo) = hi by omega] at this
        show _ = m
        rw [e3, List.nil_append, List.drop_zero, Nat.sub_zero, List.append_assoc, ← e2, List.take_append_drop]
      clear hml
      go_wp2_with fail
      refine (newS _).mono ?_
      rintro e w2 ⟨rfl, hb2, hs2, hn2⟩
      simp only [World.heap_drewN] at hs2 hn2 hb2
      have HB2 : Hid (Below W.heap.size W w2) := (drawn_below HB1.out _).trans (hb2.mono HB1.out.size)
      have hw1 : W.heap.size ≤ w1.heap.size := HB1.out.size
      have HN2 := Lib.hid hn2
      clear hb2 hn2
      go_wp2_with (refine wpList_cut (by rfl) (.tmp 38) none (some (.tmp 39)) (by rfl) (t := 22) (e := 5) (by kernel_rfl) (by kernel_rfl) (a := a) (len := len) (cap := cap) (by rfl) 0 lo (bounds_h lo (by omega)) ?_)
      refine (writeS HN2.out HC1.out.symm (isBytes_cut (HM.out.of_below HB2.out) cap 0 lo (by omega) (by have := HL.out; omega) (by have := HL.out; omega)) (fun h => cutA_none hc0 h) (by omega) (by omega) (fun x hcx hne => by have := bytes_bound HX.out hcx hne; omega)).mono ?_
      rintro e w3 ⟨rfl, v3, hn3, hb3, hv3⟩
      have HB3 : Hid (Below W.heap.size W w3) := HB2.out.trans (hb3.below (B := W.heap.size) HB2.out.size (by intro k hk; have := hashS_is hk; omega))
      have hs3 := hb3.size
      have HN3 := Lib.hid (And.intro hn3 hv3)
      clear hn3 hb3 hv3
      go_wp2_with (refine wpList_cut (by rfl) (.tmp 43) (some (.tmp 44)) (some (.tmp 45)) (by rfl) (t := 22) (e := 5) (by kernel_rfl) (by kernel_rfl) (a := a) (len := len) (cap := cap) (by rfl) lo hi (bounds_lh lo hi hlh (by omega)) ?_)
      refine (writeS HN3.out.1 HC2.out.symm (isBytes_cut (HM.out.of_below HB3.out) cap lo hi hlh (by have := HL.out; omega) (by have := HL.out; omega)) (fun h => cutA_none hc0 h) (by omega) (by omega) (fun x hcx hne => by have := bytes_bound HX.out hcx hne; omega)).mono ?_
      rintro e w4 ⟨rfl, v4, hn4, hb4, hv4⟩
      have HB4 : Hid (Below W.heap.size W w4) := HB3.out.trans (hb4.below (B := W.heap.size) HB3.out.size (by
        intro k hk
        rcases hk with hk | hk
        · omega
        · rcases HN3.out.2 k hk with h | h
          · simp [Value.ownBlock] at h
          · omega))
      have hs4 := hb4.size
      have HN4 := Lib.hid (And.intro hn4 hv4)
      clear hn4 hb4 hv4
      go_wp2_with (refine wpList_cut (by rfl) (.tmp 49) (some (.tmp 50)) none (by rfl) (t := 22) (e := 5) (by kernel_rfl) (by kernel_rfl) (a := a) (len := len) (cap := cap) (by rfl) hi len (bounds_l hi (by omega)) ?_)
      refine (writeS HN4.out.1 HC3.out.symm (isBytes_cut (HM.out.of_below HB4.out) cap hi len hhl (by have := HL.out; omega) (by have := HL.out; omega)) (fun h => cutA_none hc0 h) (by omega) (by omega) (fun x hcx hne => by have := bytes_bound HX.out hcx hne; omega)).mono ?_
      rintro e w5 ⟨rfl, v5, hn5, hb5, -⟩
      rw [HJ.out] at hn5
      have HB5 : Hid (Below W.heap.size W w5) := HB4.out.trans (hb5.below (B := W.heap.size) HB4.out.size (by
        intro k hk
        rcases hk with hk | hk
        · omega
        · rcases HN4.out.2 k hk with h | h
          · rcases HN3.out.2 k h with h | h
            · simp [Value.ownBlock] at h
            · omega
          · omega))
      have hs5 := hb5.size
      have HN5 := Lib.hid hn5
      clear hn5 hb5
      go_wp2_with fail
      refine (sumS HN5.out (by omega)).mono ?_
      rintro e w6 ⟨rfl, hb6⟩
      have HB6 := Lib.hid (HB5.out.trans (hb6.mono HB5.out.size))
      clear hb6
      go_wp2_with fail
      refine (sum_any _ a len cap m HL (HM.out.of_below HB6.out) hc0 hlen).mono ?_
      rintro e w7 ⟨rfl, hb7⟩
      have HB7 := Lib.hid (HB6.out.trans (hb7.mono HB6.out.size))
      clear hb7
      go_wp2
      go_ret
      exact ⟨rfl, HB7.out⟩
  · go_wp2
    go_ret
    exact ⟨rfl, HB1.out⟩
end Go.Proofs.Ytiakkjdkbpbejaa
