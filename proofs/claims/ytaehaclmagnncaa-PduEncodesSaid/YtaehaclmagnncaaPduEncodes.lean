-- slots 32
/-
  pdu: PduEncodes, walked.
-/
import Derived.Test.YtaehaclmagnncaaPduBack
import Derived.Test.YtaehaclmagnncaaPduEncR
import Derived.Deep.RegionHeld3
namespace Go.Proofs.Ytaehaclmagnncaa
set_option linter.unusedVariables false
set_option linter.unusedSimpArgs false
open Go.RowKit
attribute [local go_sem ↓] Go.wp_at_zero Go.wp_at_succ

set_option maxRecDepth 100000 in
set_option maxHeartbeats 1000000 in
theorem encR_no (op : Int) (x1 x2 x3 x4 x6 x7 x8 x9 x10 x11 x12 x13 x14 : Value) (aa da : Option Addr) (n ac m dc : Nat) (w : World) (hn : n ≤ 9223372036854775807) (hm : m ≤ 9223372036854775807) (hb : mayB op n m = false) (h d : Bool) :
    Calls Try.prog 12 #[.agg #[.int .i64 op, x1, x2, x3, x4, .slice aa n ac, x6, x7, x8, x9, x10, x11, x12, x13, x14, .slice da m dc], .bool h, .bool d] w fun e w' => e = .returned (.slice none 0 0) ∧ Below w.heap.size w w' := by
  have HMay := Lib.hid (fun W => mayR_any op x1 x2 x3 x4 x6 x7 x8 x9 x10 x11 x12 x13 x14 aa da n ac m dc W hn hm)
  rw [hb] at HMay
  clear hb
  go_enter Try.func12, Try.ntmps12
  go_wp2_with (refine wpList_load_row (by rfl) 28 (.tmp 3) (by rfl) w.heap.size (by rfl) 28 #[.int .i64 op, x1, x2, x3, x4, .slice aa n ac, x6, x7, x8, x9, x10, x11, x12, x13, x14, .slice da m dc] (0, 0) _ (by exact IsBlk.new w _ _) Try.underlying28 rfl (by kernel_rfl) ?_)
  refine (HMay.out _).mono ?_
  rintro e w1 ⟨rfl, hb1⟩
  go_wp2_with fail
  go_ret
  exact ⟨rfl, ((Below.refl _ _).alloc (Nat.le_refl _) _).trans (hb1.mono (by simp))⟩
theorem PdIn.encR {w : World} {v : Value} {p : PD} {aa da : Option Addr} {ac dc : Nat} (hi : PdIn w v p aa ac da dc) (h d : Bool) :
    Calls Try.prog 12 #[.agg (pdC p aa ac da dc), .bool h, .bool d] w (Encd w (encP p h d)) := by
  have hal : p.ahs.length ≤ 9223372036854775807 := by have := hi.al; have := hi.ac; omega
  have hdl : p.data.length ≤ 9223372036854775807 := by have := hi.dl; have := hi.dc; omega
  have hp := hi.ok
  cases hm : p.may with
  | false =>
    refine (encR_no p.op _ _ _ _ _ _ _ _ _ _ _ _ _ aa da p.ahs.length ac p.data.length dc w hal hdl hm h d).mono ?_
    rintro e w' ⟨rfl, hb⟩
    exact ⟨_, rfl, by rw [encP, if_neg (by rw [hm]; simp)]; exact Own.nil _ _, hb⟩
  | true =>
    have h1 := hi.ab
    have h2 := hi.db
    have h3 := hi.an
    have h4 := hi.dn
    clear hi
    obtain ⟨op, imm, fl, s0, s1, ahs, lun, tag, words, data⟩ := p
    obtain ⟨w0, w1, w2, w3, w4, w5, w6, hw⟩ := seven hp.wl
    simp only at hw
    subst hw
    obtain ⟨o, rfl⟩ : ∃ o : Nat, op = (o : Int) := ⟨op.toNat, by have := (may_iff.1 hm).1; simp only at this; omega⟩
    exact encR_yes o imm fl s0 s1 ahs lun tag w0 w1 w2 w3 w4 w5 w6 data hp hm aa da ac dc w h1 h2 h3 h4 hal hdl h d

set_option maxRecDepth 100000 in
set_option maxHeartbeats 8000000 in
theorem encodes_any {w : World} {v : Value} {p : PD} {aa da : Option Addr} {ac dc : Nat} (hp : PdIn w v p aa ac da dc) (h d : Bool) :
    Calls Try.prog 3 #[.agg (pdC p aa ac da dc), .bool h, .bool d] w fun e w' => e = .returned (.bool true) ∧ Below w.heap.size w w' := by
  have hal : p.ahs.length ≤ 9223372036854775807 := by have := hp.al; have := hp.ac; omega
  have hdl : p.data.length ≤ 9223372036854775807 := by have := hp.dl; have := hp.dc; omega
  obtain ⟨W1, hW1⟩ : ∃ W, w.alloc (.cells (pdC p aa ac da dc) 28) = W := ⟨_, rfl⟩
  have hb1 : Below w.heap.size w W1 := by rw [← hW1]; exact (Below.refl _ _).alloc (Nat.le_refl _) _
  have k1 : IsBlk W1 w.heap.size (pdC p aa ac da dc) 28 := by rw [← hW1]; exact IsBlk.new _ _ _
  have H0 := Lib.hid (And.intro hp (And.intro hb1 k1))
  clear hp hb1 k1
  obtain ⟨sb, hsb⟩ : ∃ b, shortB p.ahs.length p.data.length = b := ⟨_, rfl⟩
  obtain ⟨mb, hmb⟩ : ∃ b, p.may = b := ⟨_, rfl⟩
  have HS := Lib.hid (And.intro hsb hmb)
  clear hsb hmb
  go_enter Try.func3, Try.ntmps3
  go_wp2_with fail
  clear hW1
  refine (stands_any _).mono ?_
  rintro e W2 ⟨rfl, hb2⟩
  have HB2 := Lib.hid (H0.out.2.1.trans (hb2.mono H0.out.2.1.size))
  have HSL : Hid (∀ W, Below W2.heap.size W2 W → W.rangeAt w.heap.size 0 (pdC p aa ac da dc).toList) := Lib.hid (fun W hw => ((H0.out.2.2.below hb2 H0.out.2.2.lt).below hw (H0.out.2.2.below hb2 H0.out.2.2.lt).lt).range)
  obtain ⟨L, hL⟩ : ∃ L, L = encP p h d := ⟨_, rfl⟩
  have HP1 : Hid (∀ W, Below W2.heap.size W2 W → Calls Try.prog 11 #[.agg (pdC p aa ac da dc), .bool h, .bool d] W (Encd W L)) := Lib.hid (fun W hw => by rw [hL]; exact (H0.out.1.below (HB2.out.trans (hw.mono HB2.out.size))).enc h d)
  have HR : Hid (∀ W, Below W2.heap.size W2 W → Calls Try.prog 12 #[.agg (pdC p aa ac da dc), .bool h, .bool d] W (Encd W L)) := Lib.hid (fun W hw => by rw [hL]; exact (H0.out.1.below (HB2.out.trans (hw.mono HB2.out.size))).encR h d)
  clear hL hb2 H0
  go_upto_region 3 with fail
  rename_i K hK
  have HK := Lib.hid hK
  clear hK
  refine wp_region_held_drew (S := fun w' => Below W2.heap.size W2 w') (by kernel_rfl) (by exact (Below.refl _ _).drew) (fun hHeld => ?_)
  refine wpAnyH_take (i := 0) (v := .agg (pdC p aa ac da dc).toList.toArray) rfl (by kernel_rfl) (by kernel_rfl) (by kernel_rfl) (fun _ _ _ h => h) (yieldsIf_load_mid (by rfl) 28 (.tmp 3) (by rfl) w.heap.size 0 (by rfl) (pdC p aa ac da dc).toList _ (fun w hS => (HSL.out w hS)) Try.underlying28 rfl (by kernel_rfl)) (by with_reducible assumption) ?_
  (try simp only [Act.put, Array.toArray_toList, List.getElem_toArray, List.getElem_cons_succ, List.getElem_cons_zero, List.setIfInBounds_toArray, List.set_cons_zero, List.set_cons_succ])
  refine wpAnyH_ready (rs := [1]) (by kernel_rfl) (by simp) ?_
  refine AllReadyH.cons rfl (fun K2 hK2 => ?_) (AllReadyH.nil)
  go_simp
  have HB := Lib.hid hHeld
  go_at_call 10
  refine (short_pd p aa da ac dc _ hal hdl sb HS.out.1).mono ?_
  rintro e1 W3 ⟨rfl, hbn⟩
  refine hK2.out _ _ (HB.out.trans (hbn.mono HB.out.size)) (fun hHeld => ?_)
  clear hK2 K2 hbn HB
  (try simp only [Act.put, Array.toArray_toList, List.getElem_toArray, List.getElem_cons_succ, List.getElem_cons_zero, List.setIfInBounds_toArray, List.set_cons_zero, List.set_cons_succ])
  refine wpAnyH_take (i := 2) (v := ?_) rfl (by kernel_rfl) (by kernel_rfl) (by kernel_rfl) (fun _ _ _ h => h) (Or.inl ⟨by rfl, ?_⟩) (by with_reducible assumption) ?_
  rotate_left
  · intro w hSw; (try dsimp only at hSw); (try go_split_ands); go_simp; (try with_reducible rfl)
  (try simp only [Act.put, List.getElem_toArray, List.getElem_cons_succ, List.getElem_cons_zero, List.setIfInBounds_toArray, List.set_cons_zero, List.set_cons_succ])
  refine wpAnyH_take (i := 3) (v := ?_) rfl (by kernel_rfl) (by kernel_rfl) (by kernel_rfl) (fun _ _ _ h => h) (Or.inl ⟨by rfl, ?_⟩) (by with_reducible assumption) ?_
  rotate_left
  · intro w hSw; (try dsimp only at hSw); (try go_split_ands); go_simp; (try with_reducible rfl)
  (try simp only [Act.put, List.getElem_toArray, List.getElem_cons_succ, List.getElem_cons_zero, List.setIfInBounds_toArray, List.set_cons_zero, List.set_cons_succ])
  cases sb with
  | false =>
    simp only [Bool.not_false]
    refine wpAnyH_take (i := 4) (v := undef) rfl (by kernel_rfl) (by kernel_rfl) (by kernel_rfl) (fun _ _ _ h => h) (Or.inr ⟨by rfl, rfl⟩) (by with_reducible assumption) ?_
    (try simp only [Act.put, Array.toArray_toList, List.getElem_toArray, List.getElem_cons_succ, List.getElem_cons_zero, List.setIfInBounds_toArray, List.set_cons_zero, List.set_cons_succ])
    refine wpAnyH_take (i := 5) (v := undef) rfl (by kernel_rfl) (by kernel_rfl) (by kernel_rfl) (fun _ _ _ h => h) (Or.inr ⟨by rfl, rfl⟩) (by with_reducible assumption) ?_
    (try simp only [Act.put, Array.toArray_toList, List.getElem_toArray, List.getElem_cons_succ, List.getElem_cons_zero, List.setIfInBounds_toArray, List.set_cons_zero, List.set_cons_succ])
    refine wpAnyH_take (i := 6) (v := undef) rfl (by kernel_rfl) (by kernel_rfl) (by kernel_rfl) (fun _ _ _ h => h) (Or.inr ⟨by rfl, rfl⟩) (by with_reducible assumption) ?_
    (try simp only [Act.put, Array.toArray_toList, List.getElem_toArray, List.getElem_cons_succ, List.getElem_cons_zero, List.setIfInBounds_toArray, List.set_cons_zero, List.set_cons_succ])
    refine wpAnyH_take (i := 7) (v := undef) rfl (by kernel_rfl) (by kernel_rfl) (by kernel_rfl) (fun _ _ _ h => h) (Or.inr ⟨by rfl, rfl⟩) (by with_reducible assumption) ?_
    (try simp only [Act.put, Array.toArray_toList, List.getElem_toArray, List.getElem_cons_succ, List.getElem_cons_zero, List.setIfInBounds_toArray, List.set_cons_zero, List.set_cons_succ])
    refine wpAnyH_take (i := 8) (v := undef) rfl (by kernel_rfl) (by kernel_rfl) (by kernel_rfl) (fun _ _ _ h => h) (Or.inr ⟨by rfl, rfl⟩) (by with_reducible assumption) ?_
    (try simp only [Act.put, Array.toArray_toList, List.getElem_toArray, List.getElem_cons_succ, List.getElem_cons_zero, List.setIfInBounds_toArray, List.set_cons_zero, List.set_cons_succ])
    refine wpAnyH_take (i := 9) (v := undef) rfl (by kernel_rfl) (by kernel_rfl) (by kernel_rfl) (fun _ _ _ h => h) (Or.inr ⟨by rfl, rfl⟩) (by with_reducible assumption) ?_
    (try simp only [Act.put, Array.toArray_toList, List.getElem_toArray, List.getElem_cons_succ, List.getElem_cons_zero, List.setIfInBounds_toArray, List.set_cons_zero, List.set_cons_succ])
    refine wpAnyH_take (i := 10) (v := undef) rfl (by kernel_rfl) (by kernel_rfl) (by kernel_rfl) (fun _ _ _ h => h) (Or.inr ⟨by rfl, rfl⟩) (by with_reducible assumption) ?_
    (try simp only [Act.put, Array.toArray_toList, List.getElem_toArray, List.getElem_cons_succ, List.getElem_cons_zero, List.setIfInBounds_toArray, List.set_cons_zero, List.set_cons_succ])
    refine wpAnyH_take (i := 11) (v := undef) rfl (by kernel_rfl) (by kernel_rfl) (by kernel_rfl) (fun _ _ _ h => h) (Or.inr ⟨by rfl, rfl⟩) (by with_reducible assumption) ?_
    (try simp only [Act.put, Array.toArray_toList, List.getElem_toArray, List.getElem_cons_succ, List.getElem_cons_zero, List.setIfInBounds_toArray, List.set_cons_zero, List.set_cons_succ])
    refine wpAnyH_take (i := 12) (v := undef) rfl (by kernel_rfl) (by kernel_rfl) (by kernel_rfl) (fun _ _ _ h => h) (Or.inr ⟨by rfl, rfl⟩) (by with_reducible assumption) ?_
    (try simp only [Act.put, Array.toArray_toList, List.getElem_toArray, List.getElem_cons_succ, List.getElem_cons_zero, List.setIfInBounds_toArray, List.set_cons_zero, List.set_cons_succ])
    refine wpAnyH_take (i := 13) (v := undef) rfl (by kernel_rfl) (by kernel_rfl) (by kernel_rfl) (fun _ _ _ h => h) (Or.inr ⟨by rfl, rfl⟩) (by with_reducible assumption) ?_
    (try simp only [Act.put, Array.toArray_toList, List.getElem_toArray, List.getElem_cons_succ, List.getElem_cons_zero, List.setIfInBounds_toArray, List.set_cons_zero, List.set_cons_succ])
    refine wpAnyH_take (i := 14) (v := undef) rfl (by kernel_rfl) (by kernel_rfl) (by kernel_rfl) (fun _ _ _ h => h) (Or.inr ⟨by rfl, rfl⟩) (by with_reducible assumption) ?_
    (try simp only [Act.put, Array.toArray_toList, List.getElem_toArray, List.getElem_cons_succ, List.getElem_cons_zero, List.setIfInBounds_toArray, List.set_cons_zero, List.set_cons_succ])
    refine wpAnyH_take (i := 15) (v := undef) rfl (by kernel_rfl) (by kernel_rfl) (by kernel_rfl) (fun _ _ _ h => h) (Or.inr ⟨by rfl, rfl⟩) (by with_reducible assumption) ?_
    (try simp only [Act.put, Array.toArray_toList, List.getElem_toArray, List.getElem_cons_succ, List.getElem_cons_zero, List.setIfInBounds_toArray, List.set_cons_zero, List.set_cons_succ])
    refine wpAnyH_take (i := 16) (v := undef) rfl (by kernel_rfl) (by kernel_rfl) (by kernel_rfl) (fun _ _ _ h => h) (Or.inr ⟨by rfl, rfl⟩) (by with_reducible assumption) ?_
    (try simp only [Act.put, Array.toArray_toList, List.getElem_toArray, List.getElem_cons_succ, List.getElem_cons_zero, List.setIfInBounds_toArray, List.set_cons_zero, List.set_cons_succ])
    refine wpAnyH_take (i := 17) (v := undef) rfl (by kernel_rfl) (by kernel_rfl) (by kernel_rfl) (fun _ _ _ h => h) (Or.inr ⟨by rfl, rfl⟩) (by with_reducible assumption) ?_
    (try simp only [Act.put, Array.toArray_toList, List.getElem_toArray, List.getElem_cons_succ, List.getElem_cons_zero, List.setIfInBounds_toArray, List.set_cons_zero, List.set_cons_succ])
    refine wpAnyH_take (i := 18) (v := undef) rfl (by kernel_rfl) (by kernel_rfl) (by kernel_rfl) (fun _ _ _ h => h) (Or.inr ⟨by rfl, rfl⟩) (by with_reducible assumption) ?_
    (try simp only [Act.put, Array.toArray_toList, List.getElem_toArray, List.getElem_cons_succ, List.getElem_cons_zero, List.setIfInBounds_toArray, List.set_cons_zero, List.set_cons_succ])
    refine wpAnyH_take (i := 19) (v := undef) rfl (by kernel_rfl) (by kernel_rfl) (by kernel_rfl) (fun _ _ _ h => h) (Or.inr ⟨by rfl, rfl⟩) (by with_reducible assumption) ?_
    (try simp only [Act.put, Array.toArray_toList, List.getElem_toArray, List.getElem_cons_succ, List.getElem_cons_zero, List.setIfInBounds_toArray, List.set_cons_zero, List.set_cons_succ])
    refine wpAnyH_take (i := 20) (v := undef) rfl (by kernel_rfl) (by kernel_rfl) (by kernel_rfl) (fun _ _ _ h => h) (Or.inr ⟨by rfl, rfl⟩) (by with_reducible assumption) ?_
    (try simp only [Act.put, Array.toArray_toList, List.getElem_toArray, List.getElem_cons_succ, List.getElem_cons_zero, List.setIfInBounds_toArray, List.set_cons_zero, List.set_cons_succ])
    refine wpAnyH_take (i := 21) (v := undef) rfl (by kernel_rfl) (by kernel_rfl) (by kernel_rfl) (fun _ _ _ h => h) (Or.inr ⟨by rfl, rfl⟩) (by with_reducible assumption) ?_
    (try simp only [Act.put, Array.toArray_toList, List.getElem_toArray, List.getElem_cons_succ, List.getElem_cons_zero, List.setIfInBounds_toArray, List.set_cons_zero, List.set_cons_succ])
    refine wpAnyH_take (i := 22) (v := ?_) rfl (by kernel_rfl) (by kernel_rfl) (by kernel_rfl) (fun _ _ _ h => h) (Or.inl ⟨by rfl, ?_⟩) (by with_reducible assumption) ?_
    rotate_left
    · intro w hSw; (try dsimp only at hSw); (try go_split_ands); go_simp; (try with_reducible rfl)
    (try simp only [Act.put, List.getElem_toArray, List.getElem_cons_succ, List.getElem_cons_zero, List.setIfInBounds_toArray, List.set_cons_zero, List.set_cons_succ])
    refine wpAnyH_take (i := 23) (v := ?_) rfl (by kernel_rfl) (by kernel_rfl) (by kernel_rfl) (fun _ _ _ h => h) (Or.inl ⟨by rfl, ?_⟩) (by with_reducible assumption) ?_
    rotate_left
    · intro w hSw; (try dsimp only at hSw); (try go_split_ands); go_simp; (try with_reducible rfl)
    (try simp only [Act.put, List.getElem_toArray, List.getElem_cons_succ, List.getElem_cons_zero, List.setIfInBounds_toArray, List.set_cons_zero, List.set_cons_succ])
    have HE := Lib.hid (HB2.out.trans (hHeld.mono HB2.out.size))
    refine wpAnyH_done (by kernel_rfl) ?_ _
    clear hHeld
    refine HK.out _ _ ?_
    go_wp2_with fail
    go_ret
    exact ⟨rfl, HE.out⟩
  | true =>
    simp only [Bool.not_true]
    refine wpAnyH_take (i := 4) (v := .agg (pdC p aa ac da dc).toList.toArray) rfl (by kernel_rfl) (by kernel_rfl) (by kernel_rfl) (fun _ _ _ h => h) (yieldsIf_load_mid (by rfl) 28 (.tmp 3) (by rfl) w.heap.size 0 (by rfl) (pdC p aa ac da dc).toList _ (fun w hS => (HSL.out w hS)) Try.underlying28 rfl (by kernel_rfl)) (by with_reducible assumption) ?_
    (try simp only [Act.put, Array.toArray_toList, List.getElem_toArray, List.getElem_cons_succ, List.getElem_cons_zero, List.setIfInBounds_toArray, List.set_cons_zero, List.set_cons_succ])
    refine wpAnyH_take (i := 5) (v := ?_) rfl (by kernel_rfl) (by kernel_rfl) (by kernel_rfl) (fun _ _ _ h => h) (Or.inl ⟨by rfl, ?_⟩) (by with_reducible assumption) ?_
    rotate_left
    · intro w hSw; (try dsimp only at hSw); (try go_split_ands); go_simp; (try with_reducible rfl)
    (try simp only [Act.put, List.getElem_toArray, List.getElem_cons_succ, List.getElem_cons_zero, List.setIfInBounds_toArray, List.set_cons_zero, List.set_cons_succ])
    refine wpAnyH_take (i := 6) (v := ?_) rfl (by kernel_rfl) (by kernel_rfl) (by kernel_rfl) (fun _ _ _ h => h) (Or.inl ⟨by rfl, ?_⟩) (by with_reducible assumption) ?_
    rotate_left
    · intro w hSw; (try dsimp only at hSw); (try go_split_ands); go_simp; (try with_reducible rfl)
    (try simp only [Act.put, List.getElem_toArray, List.getElem_cons_succ, List.getElem_cons_zero, List.setIfInBounds_toArray, List.set_cons_zero, List.set_cons_succ])
    refine wpAnyH_take (i := 9) (v := .agg (pdC p aa ac da dc).toList.toArray) rfl (by kernel_rfl) (by kernel_rfl) (by kernel_rfl) (fun _ _ _ h => h) (yieldsIf_load_mid (by rfl) 28 (.tmp 3) (by rfl) w.heap.size 0 (by rfl) (pdC p aa ac da dc).toList _ (fun w hS => (HSL.out w hS)) Try.underlying28 rfl (by kernel_rfl)) (by with_reducible assumption) ?_
    (try simp only [Act.put, Array.toArray_toList, List.getElem_toArray, List.getElem_cons_succ, List.getElem_cons_zero, List.setIfInBounds_toArray, List.set_cons_zero, List.set_cons_succ])
    refine wpAnyH_take (i := 10) (v := ?_) rfl (by kernel_rfl) (by kernel_rfl) (by kernel_rfl) (fun _ _ _ h => h) (Or.inl ⟨by rfl, ?_⟩) (by with_reducible assumption) ?_
    rotate_left
    · intro w hSw; (try dsimp only at hSw); (try go_split_ands); go_simp; (try with_reducible rfl)
    (try simp only [Act.put, List.getElem_toArray, List.getElem_cons_succ, List.getElem_cons_zero, List.setIfInBounds_toArray, List.set_cons_zero, List.set_cons_succ])
    refine wpAnyH_take (i := 11) (v := ?_) rfl (by kernel_rfl) (by kernel_rfl) (by kernel_rfl) (fun _ _ _ h => h) (Or.inl ⟨by rfl, ?_⟩) (by with_reducible assumption) ?_
    rotate_left
    · intro w hSw; (try dsimp only at hSw); (try go_split_ands); go_simp; (try with_reducible rfl)
    (try simp only [Act.put, List.getElem_toArray, List.getElem_cons_succ, List.getElem_cons_zero, List.setIfInBounds_toArray, List.set_cons_zero, List.set_cons_succ])
    refine wpAnyH_ready (rs := [7]) (by kernel_rfl) (by simp) ?_
    refine AllReadyH.cons rfl (fun K2 hK2 => ?_) (AllReadyH.nil)
    go_simp
    have HB := Lib.hid hHeld
    go_at_call 11
    refine (HP1.out _ HB.out).mono ?_
    rintro e1 W4 ⟨v1, rfl, ho1, hb4⟩
    obtain ⟨a1, c1, rfl, hy1, -⟩ := ho1.form
    have HY1 := Lib.hid hy1
    have kA : (convert 23 9 (.slice a1 L.length c1)).run Try.prog W4 = .ok (.string (strB L)) W4 := conv_bytes hy1 rfl
    refine hK2.out _ _ (HB.out.trans (hb4.mono HB.out.size)) (fun hHeld => ?_)
    clear hK2 K2 ho1 hb4 hy1 HB
    (try simp only [Act.put, Array.toArray_toList, List.getElem_toArray, List.getElem_cons_succ, List.getElem_cons_zero, List.setIfInBounds_toArray, List.set_cons_zero, List.set_cons_succ])
    refine wpAnyH_ready (rs := [8, 12]) (by kernel_rfl) (by simp) ?_
    refine AllReadyH.cons rfl (fun K2 hK2 => ?_) (AllReadyH.cons rfl (fun K2 hK2 => ?_) (AllReadyH.nil))
    · go_simp
      refine hK2.out _ _ hHeld (fun hHeld => ?_)
      clear hK2 K2
      (try simp only [Act.put, Array.toArray_toList, List.getElem_toArray, List.getElem_cons_succ, List.getElem_cons_zero, List.setIfInBounds_toArray, List.set_cons_zero, List.set_cons_succ])
      refine wpAnyH_ready (rs := [12]) (by kernel_rfl) (by simp) ?_
      refine AllReadyH.cons rfl (fun K2 hK2 => ?_) (AllReadyH.nil)
      go_simp
      have HB := Lib.hid hHeld
      go_at_call 12
      refine (HR.out _ HB.out).mono ?_
      rintro e1 W5 ⟨v2, rfl, ho2, hb5⟩
      obtain ⟨a2, c2, rfl, hy2, -⟩ := ho2.form
      have hx5 := HY1.out.of_below hb5
      clear kA
      have kA : (convert 23 9 (.slice a1 L.length c1)).run Try.prog W5 = .ok (.string (strB L)) W5 := conv_bytes hx5 rfl
      have kB : (convert 23 9 (.slice a2 L.length c2)).run Try.prog W5 = .ok (.string (strB L)) W5 := conv_bytes hy2 rfl
      refine hK2.out _ _ (HB.out.trans (hb5.mono HB.out.size)) (fun hHeld => ?_)
      clear hK2 K2 ho2 hb5 hy2 hx5 HB
      (try simp only [Act.put, Array.toArray_toList, List.getElem_toArray, List.getElem_cons_succ, List.getElem_cons_zero, List.setIfInBounds_toArray, List.set_cons_zero, List.set_cons_succ])
      refine wpAnyH_ready (rs := [13]) (by kernel_rfl) (by simp) ?_
      refine AllReadyH.cons rfl (fun K2 hK2 => ?_) (AllReadyH.nil)
      go_simp
      refine hK2.out _ _ hHeld (fun hHeld => ?_)
      clear hK2 K2
      (try simp only [Act.put, Array.toArray_toList, List.getElem_toArray, List.getElem_cons_succ, List.getElem_cons_zero, List.setIfInBounds_toArray, List.set_cons_zero, List.set_cons_succ])
      refine wpAnyH_take (i := 14) (v := ?_) rfl (by kernel_rfl) (by kernel_rfl) (by kernel_rfl) (fun _ _ _ h => h) (Or.inl ⟨by rfl, ?_⟩) (by with_reducible assumption) ?_
      rotate_left
      · intro w hSw; (try dsimp only at hSw); (try go_split_ands); go_simp; (try with_reducible rfl)
      (try simp only [Act.put, List.getElem_toArray, List.getElem_cons_succ, List.getElem_cons_zero, List.setIfInBounds_toArray, List.set_cons_zero, List.set_cons_succ])
      refine wpAnyH_take (i := 15) (v := ?_) rfl (by kernel_rfl) (by kernel_rfl) (by kernel_rfl) (fun _ _ _ h => h) (Or.inl ⟨by rfl, ?_⟩) (by with_reducible assumption) ?_
      rotate_left
      · intro w hSw; (try dsimp only at hSw); (try go_split_ands); go_simp; (try with_reducible rfl)
      (try simp only [Act.put, List.getElem_toArray, List.getElem_cons_succ, List.getElem_cons_zero, List.setIfInBounds_toArray, List.set_cons_zero, List.set_cons_succ])
      refine wpAnyH_take (i := 16) (v := .agg (pdC p aa ac da dc).toList.toArray) rfl (by kernel_rfl) (by kernel_rfl) (by kernel_rfl) (fun _ _ _ h => h) (yieldsIf_load_mid (by rfl) 28 (.tmp 3) (by rfl) w.heap.size 0 (by rfl) (pdC p aa ac da dc).toList _ (fun w hS => (HSL.out w hS)) Try.underlying28 rfl (by kernel_rfl)) (by with_reducible assumption) ?_
      (try simp only [Act.put, Array.toArray_toList, List.getElem_toArray, List.getElem_cons_succ, List.getElem_cons_zero, List.setIfInBounds_toArray, List.set_cons_zero, List.set_cons_succ])
      refine wpAnyH_take (i := 18) (v := .agg (pdC p aa ac da dc).toList.toArray) rfl (by kernel_rfl) (by kernel_rfl) (by kernel_rfl) (fun _ _ _ h => h) (yieldsIf_load_mid (by rfl) 28 (.tmp 3) (by rfl) w.heap.size 0 (by rfl) (pdC p aa ac da dc).toList _ (fun w hS => (HSL.out w hS)) Try.underlying28 rfl (by kernel_rfl)) (by with_reducible assumption) ?_
      (try simp only [Act.put, Array.toArray_toList, List.getElem_toArray, List.getElem_cons_succ, List.getElem_cons_zero, List.setIfInBounds_toArray, List.set_cons_zero, List.set_cons_succ])
      refine wpAnyH_ready (rs := [17]) (by kernel_rfl) (by simp) ?_
      refine AllReadyH.cons rfl (fun K2 hK2 => ?_) (AllReadyH.nil)
      go_simp
      have HB := Lib.hid hHeld
      go_at_call 13
      refine (may_pd p aa da ac dc _ hal hdl mb HS.out.2).mono ?_
      rintro e1 W8 ⟨rfl, hbn⟩
      refine hK2.out _ _ (HB.out.trans (hbn.mono HB.out.size)) (fun hHeld => ?_)
      clear hK2 K2 hbn HB
      (try simp only [Act.put, Array.toArray_toList, List.getElem_toArray, List.getElem_cons_succ, List.getElem_cons_zero, List.setIfInBounds_toArray, List.set_cons_zero, List.set_cons_succ])
      refine wpAnyH_ready (rs := [19]) (by kernel_rfl) (by simp) ?_
      refine AllReadyH.cons rfl (fun K2 hK2 => ?_) (AllReadyH.nil)
      go_simp
      have HB := Lib.hid hHeld
      go_at_call 14
      refine (mayR_pd p aa da ac dc _ hal hdl mb HS.out.2).mono ?_
      rintro e1 W9 ⟨rfl, hbn⟩
      refine hK2.out _ _ (HB.out.trans (hbn.mono HB.out.size)) (fun hHeld => ?_)
      clear hK2 K2 hbn HB
      (try simp only [Act.put, Array.toArray_toList, List.getElem_toArray, List.getElem_cons_succ, List.getElem_cons_zero, List.setIfInBounds_toArray, List.set_cons_zero, List.set_cons_succ])
      refine wpAnyH_take (i := 20) (v := ?_) rfl (by kernel_rfl) (by kernel_rfl) (by kernel_rfl) (fun _ _ _ h => h) (Or.inl ⟨by rfl, ?_⟩) (by with_reducible assumption) ?_
      rotate_left
      · intro w hSw; (try dsimp only at hSw); (try go_split_ands); go_simp; (try with_reducible rfl)
      (try simp only [Act.put, List.getElem_toArray, List.getElem_cons_succ, List.getElem_cons_zero, List.setIfInBounds_toArray, List.set_cons_zero, List.set_cons_succ])
      refine wpAnyH_take (i := 21) (v := ?_) rfl (by kernel_rfl) (by kernel_rfl) (by kernel_rfl) (fun _ _ _ h => h) (Or.inl ⟨by rfl, ?_⟩) (by with_reducible assumption) ?_
      rotate_left
      · intro w hSw; (try dsimp only at hSw); (try go_split_ands); go_simp; (try with_reducible rfl)
      (try simp only [Act.put, List.getElem_toArray, List.getElem_cons_succ, List.getElem_cons_zero, List.setIfInBounds_toArray, List.set_cons_zero, List.set_cons_succ])
      refine wpAnyH_take (i := 22) (v := ?_) rfl (by kernel_rfl) (by kernel_rfl) (by kernel_rfl) (fun _ _ _ h => h) (Or.inl ⟨by rfl, ?_⟩) (by with_reducible assumption) ?_
      rotate_left
      · intro w hSw; (try dsimp only at hSw); (try go_split_ands); go_simp; (try with_reducible rfl)
      (try simp only [Act.put, List.getElem_toArray, List.getElem_cons_succ, List.getElem_cons_zero, List.setIfInBounds_toArray, List.set_cons_zero, List.set_cons_succ])
      refine wpAnyH_take (i := 23) (v := ?_) rfl (by kernel_rfl) (by kernel_rfl) (by kernel_rfl) (fun _ _ _ h => h) (Or.inl ⟨by rfl, ?_⟩) (by with_reducible assumption) ?_
      rotate_left
      · intro w hSw; (try dsimp only at hSw); (try go_split_ands); go_simp; (try with_reducible rfl)
      (try simp only [Act.put, List.getElem_toArray, List.getElem_cons_succ, List.getElem_cons_zero, List.setIfInBounds_toArray, List.set_cons_zero, List.set_cons_succ])
      have HE := Lib.hid (HB2.out.trans (hHeld.mono HB2.out.size))
      refine wpAnyH_done (by kernel_rfl) ?_ _
      clear hHeld
      refine HK.out _ _ ?_
      go_wp2_with fail
      go_ret
      exact ⟨rfl, HE.out⟩
    · go_simp
      have HB := Lib.hid hHeld
      go_at_call 12
      refine (HR.out _ HB.out).mono ?_
      rintro e1 W5 ⟨v2, rfl, ho2, hb5⟩
      obtain ⟨a2, c2, rfl, hy2, -⟩ := ho2.form
      have hx5 := HY1.out.of_below hb5
      clear kA
      have kA : (convert 23 9 (.slice a1 L.length c1)).run Try.prog W5 = .ok (.string (strB L)) W5 := conv_bytes hx5 rfl
      have kB : (convert 23 9 (.slice a2 L.length c2)).run Try.prog W5 = .ok (.string (strB L)) W5 := conv_bytes hy2 rfl
      refine hK2.out _ _ (HB.out.trans (hb5.mono HB.out.size)) (fun hHeld => ?_)
      clear hK2 K2 ho2 hb5 hy2 hx5 HB
      (try simp only [Act.put, Array.toArray_toList, List.getElem_toArray, List.getElem_cons_succ, List.getElem_cons_zero, List.setIfInBounds_toArray, List.set_cons_zero, List.set_cons_succ])
      refine wpAnyH_ready (rs := [8, 13]) (by kernel_rfl) (by simp) ?_
      refine AllReadyH.cons rfl (fun K2 hK2 => ?_) (AllReadyH.cons rfl (fun K2 hK2 => ?_) (AllReadyH.nil))
      · go_simp
        refine hK2.out _ _ hHeld (fun hHeld => ?_)
        clear hK2 K2
        (try simp only [Act.put, Array.toArray_toList, List.getElem_toArray, List.getElem_cons_succ, List.getElem_cons_zero, List.setIfInBounds_toArray, List.set_cons_zero, List.set_cons_succ])
        refine wpAnyH_ready (rs := [13]) (by kernel_rfl) (by simp) ?_
        refine AllReadyH.cons rfl (fun K2 hK2 => ?_) (AllReadyH.nil)
        go_simp
        refine hK2.out _ _ hHeld (fun hHeld => ?_)
        clear hK2 K2
        (try simp only [Act.put, Array.toArray_toList, List.getElem_toArray, List.getElem_cons_succ, List.getElem_cons_zero, List.setIfInBounds_toArray, List.set_cons_zero, List.set_cons_succ])
        refine wpAnyH_take (i := 14) (v := ?_) rfl (by kernel_rfl) (by kernel_rfl) (by kernel_rfl) (fun _ _ _ h => h) (Or.inl ⟨by rfl, ?_⟩) (by with_reducible assumption) ?_
        rotate_left
        · intro w hSw; (try dsimp only at hSw); (try go_split_ands); go_simp; (try with_reducible rfl)
        (try simp only [Act.put, List.getElem_toArray, List.getElem_cons_succ, List.getElem_cons_zero, List.setIfInBounds_toArray, List.set_cons_zero, List.set_cons_succ])
        refine wpAnyH_take (i := 15) (v := ?_) rfl (by kernel_rfl) (by kernel_rfl) (by kernel_rfl) (fun _ _ _ h => h) (Or.inl ⟨by rfl, ?_⟩) (by with_reducible assumption) ?_
        rotate_left
        · intro w hSw; (try dsimp only at hSw); (try go_split_ands); go_simp; (try with_reducible rfl)
        (try simp only [Act.put, List.getElem_toArray, List.getElem_cons_succ, List.getElem_cons_zero, List.setIfInBounds_toArray, List.set_cons_zero, List.set_cons_succ])
        refine wpAnyH_take (i := 16) (v := .agg (pdC p aa ac da dc).toList.toArray) rfl (by kernel_rfl) (by kernel_rfl) (by kernel_rfl) (fun _ _ _ h => h) (yieldsIf_load_mid (by rfl) 28 (.tmp 3) (by rfl) w.heap.size 0 (by rfl) (pdC p aa ac da dc).toList _ (fun w hS => (HSL.out w hS)) Try.underlying28 rfl (by kernel_rfl)) (by with_reducible assumption) ?_
        (try simp only [Act.put, Array.toArray_toList, List.getElem_toArray, List.getElem_cons_succ, List.getElem_cons_zero, List.setIfInBounds_toArray, List.set_cons_zero, List.set_cons_succ])
        refine wpAnyH_take (i := 18) (v := .agg (pdC p aa ac da dc).toList.toArray) rfl (by kernel_rfl) (by kernel_rfl) (by kernel_rfl) (fun _ _ _ h => h) (yieldsIf_load_mid (by rfl) 28 (.tmp 3) (by rfl) w.heap.size 0 (by rfl) (pdC p aa ac da dc).toList _ (fun w hS => (HSL.out w hS)) Try.underlying28 rfl (by kernel_rfl)) (by with_reducible assumption) ?_
        (try simp only [Act.put, Array.toArray_toList, List.getElem_toArray, List.getElem_cons_succ, List.getElem_cons_zero, List.setIfInBounds_toArray, List.set_cons_zero, List.set_cons_succ])
        refine wpAnyH_ready (rs := [17]) (by kernel_rfl) (by simp) ?_
        refine AllReadyH.cons rfl (fun K2 hK2 => ?_) (AllReadyH.nil)
        go_simp
        have HB := Lib.hid hHeld
        go_at_call 13
        refine (may_pd p aa da ac dc _ hal hdl mb HS.out.2).mono ?_
        rintro e1 W8 ⟨rfl, hbn⟩
        refine hK2.out _ _ (HB.out.trans (hbn.mono HB.out.size)) (fun hHeld => ?_)
        clear hK2 K2 hbn HB
        (try simp only [Act.put, Array.toArray_toList, List.getElem_toArray, List.getElem_cons_succ, List.getElem_cons_zero, List.setIfInBounds_toArray, List.set_cons_zero, List.set_cons_succ])
        refine wpAnyH_ready (rs := [19]) (by kernel_rfl) (by simp) ?_
        refine AllReadyH.cons rfl (fun K2 hK2 => ?_) (AllReadyH.nil)
        go_simp
        have HB := Lib.hid hHeld
        go_at_call 14
        refine (mayR_pd p aa da ac dc _ hal hdl mb HS.out.2).mono ?_
        rintro e1 W9 ⟨rfl, hbn⟩
        refine hK2.out _ _ (HB.out.trans (hbn.mono HB.out.size)) (fun hHeld => ?_)
        clear hK2 K2 hbn HB
        (try simp only [Act.put, Array.toArray_toList, List.getElem_toArray, List.getElem_cons_succ, List.getElem_cons_zero, List.setIfInBounds_toArray, List.set_cons_zero, List.set_cons_succ])
        refine wpAnyH_take (i := 20) (v := ?_) rfl (by kernel_rfl) (by kernel_rfl) (by kernel_rfl) (fun _ _ _ h => h) (Or.inl ⟨by rfl, ?_⟩) (by with_reducible assumption) ?_
        rotate_left
        · intro w hSw; (try dsimp only at hSw); (try go_split_ands); go_simp; (try with_reducible rfl)
        (try simp only [Act.put, List.getElem_toArray, List.getElem_cons_succ, List.getElem_cons_zero, List.setIfInBounds_toArray, List.set_cons_zero, List.set_cons_succ])
        refine wpAnyH_take (i := 21) (v := ?_) rfl (by kernel_rfl) (by kernel_rfl) (by kernel_rfl) (fun _ _ _ h => h) (Or.inl ⟨by rfl, ?_⟩) (by with_reducible assumption) ?_
        rotate_left
        · intro w hSw; (try dsimp only at hSw); (try go_split_ands); go_simp; (try with_reducible rfl)
        (try simp only [Act.put, List.getElem_toArray, List.getElem_cons_succ, List.getElem_cons_zero, List.setIfInBounds_toArray, List.set_cons_zero, List.set_cons_succ])
        refine wpAnyH_take (i := 22) (v := ?_) rfl (by kernel_rfl) (by kernel_rfl) (by kernel_rfl) (fun _ _ _ h => h) (Or.inl ⟨by rfl, ?_⟩) (by with_reducible assumption) ?_
        rotate_left
        · intro w hSw; (try dsimp only at hSw); (try go_split_ands); go_simp; (try with_reducible rfl)
        (try simp only [Act.put, List.getElem_toArray, List.getElem_cons_succ, List.getElem_cons_zero, List.setIfInBounds_toArray, List.set_cons_zero, List.set_cons_succ])
        refine wpAnyH_take (i := 23) (v := ?_) rfl (by kernel_rfl) (by kernel_rfl) (by kernel_rfl) (fun _ _ _ h => h) (Or.inl ⟨by rfl, ?_⟩) (by with_reducible assumption) ?_
        rotate_left
        · intro w hSw; (try dsimp only at hSw); (try go_split_ands); go_simp; (try with_reducible rfl)
        (try simp only [Act.put, List.getElem_toArray, List.getElem_cons_succ, List.getElem_cons_zero, List.setIfInBounds_toArray, List.set_cons_zero, List.set_cons_succ])
        have HE := Lib.hid (HB2.out.trans (hHeld.mono HB2.out.size))
        refine wpAnyH_done (by kernel_rfl) ?_ _
        clear hHeld
        refine HK.out _ _ ?_
        go_wp2_with fail
        go_ret
        exact ⟨rfl, HE.out⟩
      · go_simp
        refine hK2.out _ _ hHeld (fun hHeld => ?_)
        clear hK2 K2
        (try simp only [Act.put, Array.toArray_toList, List.getElem_toArray, List.getElem_cons_succ, List.getElem_cons_zero, List.setIfInBounds_toArray, List.set_cons_zero, List.set_cons_succ])
        refine wpAnyH_ready (rs := [8]) (by kernel_rfl) (by simp) ?_
        refine AllReadyH.cons rfl (fun K2 hK2 => ?_) (AllReadyH.nil)
        go_simp
        refine hK2.out _ _ hHeld (fun hHeld => ?_)
        clear hK2 K2
        (try simp only [Act.put, Array.toArray_toList, List.getElem_toArray, List.getElem_cons_succ, List.getElem_cons_zero, List.setIfInBounds_toArray, List.set_cons_zero, List.set_cons_succ])
        refine wpAnyH_take (i := 14) (v := ?_) rfl (by kernel_rfl) (by kernel_rfl) (by kernel_rfl) (fun _ _ _ h => h) (Or.inl ⟨by rfl, ?_⟩) (by with_reducible assumption) ?_
        rotate_left
        · intro w hSw; (try dsimp only at hSw); (try go_split_ands); go_simp; (try with_reducible rfl)
        (try simp only [Act.put, List.getElem_toArray, List.getElem_cons_succ, List.getElem_cons_zero, List.setIfInBounds_toArray, List.set_cons_zero, List.set_cons_succ])
        refine wpAnyH_take (i := 15) (v := ?_) rfl (by kernel_rfl) (by kernel_rfl) (by kernel_rfl) (fun _ _ _ h => h) (Or.inl ⟨by rfl, ?_⟩) (by with_reducible assumption) ?_
        rotate_left
        · intro w hSw; (try dsimp only at hSw); (try go_split_ands); go_simp; (try with_reducible rfl)
        (try simp only [Act.put, List.getElem_toArray, List.getElem_cons_succ, List.getElem_cons_zero, List.setIfInBounds_toArray, List.set_cons_zero, List.set_cons_succ])
        refine wpAnyH_take (i := 16) (v := .agg (pdC p aa ac da dc).toList.toArray) rfl (by kernel_rfl) (by kernel_rfl) (by kernel_rfl) (fun _ _ _ h => h) (yieldsIf_load_mid (by rfl) 28 (.tmp 3) (by rfl) w.heap.size 0 (by rfl) (pdC p aa ac da dc).toList _ (fun w hS => (HSL.out w hS)) Try.underlying28 rfl (by kernel_rfl)) (by with_reducible assumption) ?_
        (try simp only [Act.put, Array.toArray_toList, List.getElem_toArray, List.getElem_cons_succ, List.getElem_cons_zero, List.setIfInBounds_toArray, List.set_cons_zero, List.set_cons_succ])
        refine wpAnyH_take (i := 18) (v := .agg (pdC p aa ac da dc).toList.toArray) rfl (by kernel_rfl) (by kernel_rfl) (by kernel_rfl) (fun _ _ _ h => h) (yieldsIf_load_mid (by rfl) 28 (.tmp 3) (by rfl) w.heap.size 0 (by rfl) (pdC p aa ac da dc).toList _ (fun w hS => (HSL.out w hS)) Try.underlying28 rfl (by kernel_rfl)) (by with_reducible assumption) ?_
        (try simp only [Act.put, Array.toArray_toList, List.getElem_toArray, List.getElem_cons_succ, List.getElem_cons_zero, List.setIfInBounds_toArray, List.set_cons_zero, List.set_cons_succ])
        refine wpAnyH_ready (rs := [17]) (by kernel_rfl) (by simp) ?_
        refine AllReadyH.cons rfl (fun K2 hK2 => ?_) (AllReadyH.nil)
        go_simp
        have HB := Lib.hid hHeld
        go_at_call 13
        refine (may_pd p aa da ac dc _ hal hdl mb HS.out.2).mono ?_
        rintro e1 W8 ⟨rfl, hbn⟩
        refine hK2.out _ _ (HB.out.trans (hbn.mono HB.out.size)) (fun hHeld => ?_)
        clear hK2 K2 hbn HB
        (try simp only [Act.put, Array.toArray_toList, List.getElem_toArray, List.getElem_cons_succ, List.getElem_cons_zero, List.setIfInBounds_toArray, List.set_cons_zero, List.set_cons_succ])
        refine wpAnyH_ready (rs := [19]) (by kernel_rfl) (by simp) ?_
        refine AllReadyH.cons rfl (fun K2 hK2 => ?_) (AllReadyH.nil)
        go_simp
        have HB := Lib.hid hHeld
        go_at_call 14
        refine (mayR_pd p aa da ac dc _ hal hdl mb HS.out.2).mono ?_
        rintro e1 W9 ⟨rfl, hbn⟩
        refine hK2.out _ _ (HB.out.trans (hbn.mono HB.out.size)) (fun hHeld => ?_)
        clear hK2 K2 hbn HB
        (try simp only [Act.put, Array.toArray_toList, List.getElem_toArray, List.getElem_cons_succ, List.getElem_cons_zero, List.setIfInBounds_toArray, List.set_cons_zero, List.set_cons_succ])
        refine wpAnyH_take (i := 20) (v := ?_) rfl (by kernel_rfl) (by kernel_rfl) (by kernel_rfl) (fun _ _ _ h => h) (Or.inl ⟨by rfl, ?_⟩) (by with_reducible assumption) ?_
        rotate_left
        · intro w hSw; (try dsimp only at hSw); (try go_split_ands); go_simp; (try with_reducible rfl)
        (try simp only [Act.put, List.getElem_toArray, List.getElem_cons_succ, List.getElem_cons_zero, List.setIfInBounds_toArray, List.set_cons_zero, List.set_cons_succ])
        refine wpAnyH_take (i := 21) (v := ?_) rfl (by kernel_rfl) (by kernel_rfl) (by kernel_rfl) (fun _ _ _ h => h) (Or.inl ⟨by rfl, ?_⟩) (by with_reducible assumption) ?_
        rotate_left
        · intro w hSw; (try dsimp only at hSw); (try go_split_ands); go_simp; (try with_reducible rfl)
        (try simp only [Act.put, List.getElem_toArray, List.getElem_cons_succ, List.getElem_cons_zero, List.setIfInBounds_toArray, List.set_cons_zero, List.set_cons_succ])
        refine wpAnyH_take (i := 22) (v := ?_) rfl (by kernel_rfl) (by kernel_rfl) (by kernel_rfl) (fun _ _ _ h => h) (Or.inl ⟨by rfl, ?_⟩) (by with_reducible assumption) ?_
        rotate_left
        · intro w hSw; (try dsimp only at hSw); (try go_split_ands); go_simp; (try with_reducible rfl)
        (try simp only [Act.put, List.getElem_toArray, List.getElem_cons_succ, List.getElem_cons_zero, List.setIfInBounds_toArray, List.set_cons_zero, List.set_cons_succ])
        refine wpAnyH_take (i := 23) (v := ?_) rfl (by kernel_rfl) (by kernel_rfl) (by kernel_rfl) (fun _ _ _ h => h) (Or.inl ⟨by rfl, ?_⟩) (by with_reducible assumption) ?_
        rotate_left
        · intro w hSw; (try dsimp only at hSw); (try go_split_ands); go_simp; (try with_reducible rfl)
        (try simp only [Act.put, List.getElem_toArray, List.getElem_cons_succ, List.getElem_cons_zero, List.setIfInBounds_toArray, List.set_cons_zero, List.set_cons_succ])
        have HE := Lib.hid (HB2.out.trans (hHeld.mono HB2.out.size))
        refine wpAnyH_done (by kernel_rfl) ?_ _
        clear hHeld
        refine HK.out _ _ ?_
        go_wp2_with fail
        go_ret
        exact ⟨rfl, HE.out⟩
theorem encodes_walk (v0 v1 v2 : Value) (D0 D1 D2 : D) (W : World) (r0 : RdV Try.prog W 28 v0 D0) (r1 : RdV Try.prog W 4 v1 D1) (r2 : RdV Try.prog W 4 v2 D2) :
    Calls Try.prog 3 #[v0, v1, v2] W fun e w' => e = .returned (.bool true) ∧ Below W.heap.size W w' := by
  obtain ⟨p, aa, ac, da, dc, hp⟩ := rdv_pdu r0
  obtain ⟨h, rfl, -⟩ := r1.bool Try.underlying4
  obtain ⟨d, rfl, -⟩ := r2.bool Try.underlying4
  have := encodes_any hp h d
  rw [hp.val]
  exact this
end Go.Proofs.Ytaehaclmagnncaa
