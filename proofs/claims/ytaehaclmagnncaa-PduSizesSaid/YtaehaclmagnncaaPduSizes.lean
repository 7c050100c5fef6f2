/-
  pdu: PduSizes, walked.
-/
import Derived.Test.YtaehaclmagnncaaPduSt
import Derived.Test.YtaehaclmagnncaaPduArg
namespace Go.Proofs.Ytaehaclmagnncaa
set_option linter.unusedVariables false
set_option linter.unusedSimpArgs false
open Go.RowKit
attribute [local go_sem ↓] Go.wp_at_zero Go.wp_at_succ

set_option maxRecDepth 100000 in
set_option maxHeartbeats 4000000 in
theorem sizes_any {w : World} {v : Value} {p : PD} {aa da : Option Addr} {ac dc : Nat} (hp : PdIn w v p aa ac da dc) (h d : Bool) :
    Calls Try.prog 7 #[.agg (pdC p aa ac da dc), .bool h, .bool d] w fun e w' => e = .returned (.bool true) ∧ Below w.heap.size w w' := by
  have hal : p.ahs.length ≤ 9223372036854775807 := by have := hp.al; have := hp.ac; omega
  have hdl : p.data.length ≤ 9223372036854775807 := by have := hp.dl; have := hp.dc; omega
  obtain ⟨W1, hW1⟩ : ∃ W, w.alloc (.cells (pdC p aa ac da dc) 28) = W := ⟨_, rfl⟩
  have hb1 : Below w.heap.size w W1 := by rw [← hW1]; exact (Below.refl _ _).alloc (Nat.le_refl _) _
  have k1 : IsBlk W1 w.heap.size (pdC p aa ac da dc) 28 := by rw [← hW1]; exact IsBlk.new _ _ _
  have H0 := Lib.hid (And.intro hp (And.intro hb1 k1))
  clear hp hb1 k1
  obtain ⟨sb, hsb⟩ : ∃ b, shortB p.ahs.length p.data.length = b := ⟨_, rfl⟩
  obtain ⟨mb, hmb⟩ : ∃ b, p.may = b := ⟨_, rfl⟩
  have HS := Lib.hid (And.intro hsb hmb)
  clear hsb hmb
  go_enter Try.func7, Try.ntmps7
  go_wp2_with fail

  clear hW1
  refine (stands_any _).mono ?_
  rintro e W2 ⟨rfl, hb2⟩
  have H2 : Hid (IsBlk W2 w.heap.size (pdC p aa ac da dc) 28 ∧ Below w.heap.size w W2) := Lib.hid ⟨H0.out.2.2.below hb2 H0.out.2.2.lt, H0.out.2.1.trans (hb2.mono H0.out.2.1.size)⟩
  clear hb2
  go_wp2_with (refine wpList_load_row (by rfl) 28 (.tmp 3) (by rfl) w.heap.size (by rfl) 28 (pdC p aa ac da dc) (0, 0) _ (by exact H2.out.1) Try.underlying28 rfl (by kernel_rfl) ?_)
  refine (short_pd p aa da ac dc W2 hal hdl sb HS.out.1).mono ?_
  rintro e W3 ⟨rfl, hb3⟩
  have H3 : Hid (IsBlk W3 w.heap.size (pdC p aa ac da dc) 28 ∧ Below w.heap.size w W3) := Lib.hid ⟨H2.out.1.below hb3 H2.out.1.lt, H2.out.2.trans (hb3.mono H2.out.2.size)⟩
  clear hb3 H2
  cases sb with
  | false =>
    go_wp2_with fail
    go_ret
    exact ⟨rfl, H3.out.2⟩
  | true =>
    go_wp2_with (refine wpList_load_row_g (by rfl) 28 (.tmp 3) (by rfl) w.heap.size (by rfl) 28 (pdC p aa ac da dc) (0, 0) _ (by exact H3.out.1) Try.underlying28 rfl (by kernel_rfl) ?_)
    refine (may_pd p aa da ac dc W3 hal hdl mb HS.out.2).mono ?_
    rintro e W4 ⟨rfl, hb4⟩
    have H4 : Hid (IsBlk W4 w.heap.size (pdC p aa ac da dc) 28 ∧ Below w.heap.size w W4) := Lib.hid ⟨H3.out.1.below hb4 H3.out.1.lt, H3.out.2.trans (hb4.mono H3.out.2.size)⟩
    clear hb4 H3
    cases mb with
    | false =>
      go_wp2_with fail
      go_ret
      exact ⟨rfl, H4.out.2⟩
    | true =>
      obtain ⟨q1, q2, q3, q4, q5⟩ := may_iff.1 HS.out.2
      have hsz := encP_length p H0.out.1.ok.wl HS.out.2 h d
      unfold sizeP at hsz
      have c5 := H4.out.1.cell 5 (v := .slice aa p.ahs.length ac) rfl
      have c15 := H4.out.1.cell 15 (v := .slice da p.data.length dc) rfl
      have HE := Lib.hid (fun hh d => (H0.out.1.below (w' := W4) H4.out.2).enc hh d)
      obtain ⟨L, hL⟩ : ∃ L, L = encP p h d := ⟨_, rfl⟩
      have HL : Hid (Calls Try.prog 11 #[.agg (pdC p aa ac da dc), .bool h, .bool d] W4 (Encd W4 L)) := Lib.hid (by rw [hL]; exact HE.out h d)
      rw [← hL] at hsz
      clear hL HE q1 q2
      obtain ⟨an, han⟩ : ∃ an, p.ahs.length = an := ⟨_, rfl⟩
      obtain ⟨dn, hdn⟩ : ∃ dn, p.data.length = dn := ⟨_, rfl⟩
      rw [han] at q3 q4 c5 hsz
      rw [hdn] at q5 c15 hsz
      clear han hdn hal hdl
      obtain ⟨n0, f0⟩ : ∃ n0 : Nat, 48 + (an : Int) = (n0 : Int) := ⟨48 + an, by omega⟩
      obtain ⟨n1, f1⟩ : ∃ n1 : Nat, (n0 : Int) + 4 = (n1 : Int) := ⟨n0 + 4, by omega⟩
      obtain ⟨m0, f2⟩ : ∃ n1 : Nat, (n0 : Int) + ((dn : Int) + 3) / 4 * 4 = (n1 : Int) := ⟨n0 + (dn + 3) / 4 * 4, by omega⟩
      obtain ⟨m1, f3⟩ : ∃ q : Nat, (n1 : Int) + ((dn : Int) + 3) / 4 * 4 = (q : Int) := ⟨n1 + (dn + 3) / 4 * 4, by omega⟩
      obtain ⟨k0, f4⟩ : ∃ n1 : Nat, (m0 : Int) + 4 = (n1 : Int) := ⟨m0 + 4, by omega⟩
      obtain ⟨k1, f5⟩ : ∃ n1 : Nat, (m1 : Int) + 4 = (n1 : Int) := ⟨m1 + 4, by omega⟩
      have r0 : ((n0 : Int) % 4 == 0) = true := by simp; omega
      have r1 : ((n1 : Int) % 4 == 0) = true := by simp; omega
      have r2 : ((m0 : Int) % 4 == 0) = true := by simp; omega
      have r3 : ((m1 : Int) % 4 == 0) = true := by simp; omega
      have r4 : ((k0 : Int) % 4 == 0) = true := by simp; omega
      have r5 : ((k1 : Int) % 4 == 0) = true := by simp; omega
      have b0 : n0 ≤ 80 := by omega
      have b1 : n1 ≤ 84 := by omega
      have b2 : m0 ≤ 400 := by omega
      have b3 : m1 ≤ 400 := by omega
      have b4 : k0 ≤ 404 := by omega
      have b5 : k1 ≤ 404 := by omega
      have HZ : Hid (∀ N : Nat, N = (if h then n1 else n0) + (if 0 < dn then (dn + 3) / 4 * 4 + (if d then 4 else 0) else 0) → L.length = N) := Lib.hid (fun N hN => by
        rw [hsz, hN]
        cases h <;> cases d <;> by_cases hd0 : 0 < dn <;> simp [hd0] <;> omega)
      have HF := Lib.hid (And.intro f0 (And.intro f1 (And.intro f2 (And.intro f3 (And.intro f4 f5)))))
      clear hsz q4
      have hdz : dn = 0 ∨ 0 < dn := by omega
      rcases hdz with hdz | hdz
      · have g1 : decide ((0 : Int) < (dn : Int)) = false := by simp; omega
        have g2 : decide (0 < dn) = false := by simp; omega
        have HD := Lib.hid hdz
        clear hdz
        cases h with
        | false =>
          go_wp2_with (refine wpList_load_row (by rfl) 28 (.tmp 3) (by rfl) w.heap.size (by rfl) 28 (pdC p aa ac da dc) (0, 0) _ (by exact H4.out.1) Try.underlying28 rfl (by kernel_rfl) ?_)
          refine HL.out.mono ?_
          rintro e W5 ⟨v, rfl, ho, hb5⟩
          obtain ⟨va, vc, rfl, -⟩ := ho.form
          rw [HZ.out n0 (by have := HF.out; simp [HD.out] <;> omega)]
          have H5 := Lib.hid (H4.out.2.trans (hb5.mono H4.out.2.size))
          clear ho hb5 c5 c15 f0 f1 f2 f3 f4 f5
          go_wp2_with fail
          go_ret
          exact ⟨rfl, H5.out⟩
        | true =>
          go_wp2_with (refine wpList_load_row (by rfl) 28 (.tmp 3) (by rfl) w.heap.size (by rfl) 28 (pdC p aa ac da dc) (0, 0) _ (by exact H4.out.1) Try.underlying28 rfl (by kernel_rfl) ?_)
          refine HL.out.mono ?_
          rintro e W5 ⟨v, rfl, ho, hb5⟩
          obtain ⟨va, vc, rfl, -⟩ := ho.form
          rw [HZ.out n1 (by have := HF.out; simp [HD.out] <;> omega)]
          have H5 := Lib.hid (H4.out.2.trans (hb5.mono H4.out.2.size))
          clear ho hb5 c5 c15 f0 f1 f2 f3 f4 f5
          go_wp2_with fail
          go_ret
          exact ⟨rfl, H5.out⟩
      · have g1 : decide ((0 : Int) < (dn : Int)) = true := by simp; omega
        have g2 : decide (0 < dn) = true := by simp; omega
        have HD := Lib.hid hdz
        clear hdz
        cases h with
        | false =>
          cases d with
          | false =>
            go_wp2_with (refine wpList_load_row (by rfl) 28 (.tmp 3) (by rfl) w.heap.size (by rfl) 28 (pdC p aa ac da dc) (0, 0) _ (by exact H4.out.1) Try.underlying28 rfl (by kernel_rfl) ?_)
            refine HL.out.mono ?_
            rintro e W5 ⟨v, rfl, ho, hb5⟩
            obtain ⟨va, vc, rfl, -⟩ := ho.form
            rw [HZ.out m0 (by have := HF.out; simp [HD.out] <;> omega)]
            have H5 := Lib.hid (H4.out.2.trans (hb5.mono H4.out.2.size))
            clear ho hb5 c5 c15 f0 f1 f2 f3 f4 f5
            go_wp2_with fail
            go_ret
            exact ⟨rfl, H5.out⟩
          | true =>
            go_wp2_with (refine wpList_load_row (by rfl) 28 (.tmp 3) (by rfl) w.heap.size (by rfl) 28 (pdC p aa ac da dc) (0, 0) _ (by exact H4.out.1) Try.underlying28 rfl (by kernel_rfl) ?_)
            refine HL.out.mono ?_
            rintro e W5 ⟨v, rfl, ho, hb5⟩
            obtain ⟨va, vc, rfl, -⟩ := ho.form
            rw [HZ.out k0 (by have := HF.out; simp [HD.out] <;> omega)]
            have H5 := Lib.hid (H4.out.2.trans (hb5.mono H4.out.2.size))
            clear ho hb5 c5 c15 f0 f1 f2 f3 f4 f5
            go_wp2_with fail
            go_ret
            exact ⟨rfl, H5.out⟩
        | true =>
          cases d with
          | false =>
            go_wp2_with (refine wpList_load_row (by rfl) 28 (.tmp 3) (by rfl) w.heap.size (by rfl) 28 (pdC p aa ac da dc) (0, 0) _ (by exact H4.out.1) Try.underlying28 rfl (by kernel_rfl) ?_)
            refine HL.out.mono ?_
            rintro e W5 ⟨v, rfl, ho, hb5⟩
            obtain ⟨va, vc, rfl, -⟩ := ho.form
            rw [HZ.out m1 (by have := HF.out; simp [HD.out] <;> omega)]
            have H5 := Lib.hid (H4.out.2.trans (hb5.mono H4.out.2.size))
            clear ho hb5 c5 c15 f0 f1 f2 f3 f4 f5
            go_wp2_with fail
            go_ret
            exact ⟨rfl, H5.out⟩
          | true =>
            go_wp2_with (refine wpList_load_row (by rfl) 28 (.tmp 3) (by rfl) w.heap.size (by rfl) 28 (pdC p aa ac da dc) (0, 0) _ (by exact H4.out.1) Try.underlying28 rfl (by kernel_rfl) ?_)
            refine HL.out.mono ?_
            rintro e W5 ⟨v, rfl, ho, hb5⟩
            obtain ⟨va, vc, rfl, -⟩ := ho.form
            rw [HZ.out k1 (by have := HF.out; simp [HD.out] <;> omega)]
            have H5 := Lib.hid (H4.out.2.trans (hb5.mono H4.out.2.size))
            clear ho hb5 c5 c15 f0 f1 f2 f3 f4 f5
            go_wp2_with fail
            go_ret
            exact ⟨rfl, H5.out⟩
theorem sizes_walk (v0 v1 v2 : Value) (D0 D1 D2 : D) (W : World) (r0 : RdV Try.prog W 28 v0 D0) (r1 : RdV Try.prog W 4 v1 D1) (r2 : RdV Try.prog W 4 v2 D2) :
    Calls Try.prog 7 #[v0, v1, v2] W fun e w' => e = .returned (.bool true) ∧ Below W.heap.size W w' := by
  obtain ⟨p, aa, ac, da, dc, hp⟩ := rdv_pdu r0
  obtain ⟨h, rfl, -⟩ := r1.bool Try.underlying4
  obtain ⟨d, rfl, -⟩ := r2.bool Try.underlying4
  have := sizes_any hp h d
  rw [hp.val]
  exact this
end Go.Proofs.Ytaehaclmagnncaa
