/-
  sha: ShaTwo.
-/
import Derived.Test.YtiakkjdkbpbejaaShaLaws
import Derived.Deep.RegionHeld3
import Derived.Deep.DeepCutAuto
import Derived.Deep.MidRow
namespace Go.Proofs.Ytiakkjdkbpbejaa
set_option linter.unusedVariables false
set_option linter.unusedSimpArgs false
open Go.RowKit
attribute [local go_sem ↓] Go.wp_at_zero Go.wp_at_succ

/-- Two hashes and a row of bytes, all apart. -/
structure Two (w : World) (B sb tb : Nat) (vs vt ov : Value) (ls lt lo : List Nat) : Prop where
  s : IsSum w B sb vs ls
  t : IsSum w B tb vt lt
  o : Own w B ov lo
  st : sb ≠ tb
  os : ov.ownBlock ≠ some sb
  ot : ov.ownBlock ≠ some tb
  vst : vs.ownBlock ≠ some tb
  vts : vt.ownBlock ≠ some sb
  vv : ∀ k, vs.ownBlock = some k → vt.ownBlock ≠ some k
  vo : ∀ k, vs.ownBlock = some k → ov.ownBlock ≠ some k
  vto : ∀ k, vt.ownBlock = some k → ov.ownBlock ≠ some k
section
variable {w w' : World} {B sb tb : Nat} {vs vt ov v' : Value} {ls lt lo l' : List Nat}
theorem Two.swap (h : Two w B sb tb vs vt ov ls lt lo) : Two w B tb sb vt vs ov lt ls lo :=
  ⟨h.t, h.s, h.o, fun e => h.st e.symm, h.ot, h.os, h.vts, h.vst, fun k a b => h.vv k b a, h.vto, h.vo⟩
theorem Two.write (h : Two w B sb tb vs vt ov ls lt lo) (hi : IsSum w' B sb v' l') (hb : But (HashS sb vs) w w') (hv : ∀ j, v'.ownBlock = some j → vs.ownBlock = some j ∨ w.heap.size ≤ j) : Two w' B sb tb v' vt ov l' lt lo := by
  have hnew : ∀ x : Value, (∀ k, x.ownBlock = some k → k < w.heap.size) → (∀ k, vs.ownBlock = some k → x.ownBlock ≠ some k) → ∀ k, v'.ownBlock = some k → x.ownBlock ≠ some k := by
    intro x hx hs k hk e
    rcases hv k hk with q | q
    · exact hs k q e
    · have := hx k e; omega
  refine ⟨hi, h.t.but hb ?_ ?_, hb.own h.o ?_, h.st, h.os, h.ot, ?_, h.vts, hnew vt h.t.own.lt h.vv, hnew ov h.o.lt h.vo, h.vto⟩
  · rintro (e | e)
    · exact h.st e.symm
    · exact h.vst e
  · rintro k hk (e | e)
    · exact h.vts (by rw [hk, e])
    · exact h.vv k e hk
  · rintro k hk (e | e)
    · exact h.os (by rw [hk, e])
    · exact h.vo k e hk
  · intro e
    rcases hv _ e with q | q
    · exact h.vst q
    · have := h.t.blk.lt; omega
theorem Two.below (h : Two w B sb tb vs vt ov ls lt lo) (hb : Below w.heap.size w w') : Two w' B sb tb vs vt ov ls lt lo :=
  ⟨h.s.below hb, h.t.below hb, h.o.below hb, h.st, h.os, h.ot, h.vst, h.vts, h.vv, h.vo, h.vto⟩
theorem Two.inS (h : Two w B sb tb vs vt ov ls lt lo) : ∀ k, HashS sb vs k → B ≤ k := by
  rintro k (e | e)
  · rw [e]; exact h.s.hfb
  · exact h.s.own.base_le k e
end
theorem take_one (l : List Nat) (k : Nat) : l.take k ++ (l.drop k).take (k + 1 - k) = l.take (k + 1) := by
  rw [show k + 1 - k = 1 by omega, List.take_add]
theorem take_all (l : List Nat) (k : Nat) (h : l.length ≤ k) : l.take k = l.take (k + 1) := by
  rw [List.take_of_length_le h, List.take_of_length_le (by omega)]

theorem eq_none (w : World) (Z : List Nat) (hZ : Z = List.replicate 32 0) : (Op.equalIn 10000 24 (.agg (nv .u8 Z)) (.agg #[Value.int .u8 0, Value.int .u8 0, Value.int .u8 0, Value.int .u8 0, Value.int .u8 0, Value.int .u8 0, Value.int .u8 0, Value.int .u8 0, Value.int .u8 0, Value.int .u8 0, Value.int .u8 0, Value.int .u8 0, Value.int .u8 0, Value.int .u8 0, Value.int .u8 0, Value.int .u8 0, Value.int .u8 0, Value.int .u8 0, Value.int .u8 0, Value.int .u8 0, Value.int .u8 0, Value.int .u8 0, Value.int .u8 0, Value.int .u8 0, Value.int .u8 0, Value.int .u8 0, Value.int .u8 0, Value.int .u8 0, Value.int .u8 0, Value.int .u8 0, Value.int .u8 0, Value.int .u8 0])).run Try.prog w = .ok true w := by
  subst hZ
  have e : (#[Value.int .u8 0, Value.int .u8 0, Value.int .u8 0, Value.int .u8 0, Value.int .u8 0, Value.int .u8 0, Value.int .u8 0, Value.int .u8 0, Value.int .u8 0, Value.int .u8 0, Value.int .u8 0, Value.int .u8 0, Value.int .u8 0, Value.int .u8 0, Value.int .u8 0, Value.int .u8 0, Value.int .u8 0, Value.int .u8 0, Value.int .u8 0, Value.int .u8 0, Value.int .u8 0, Value.int .u8 0, Value.int .u8 0, Value.int .u8 0, Value.int .u8 0, Value.int .u8 0, Value.int .u8 0, Value.int .u8 0, Value.int .u8 0, Value.int .u8 0, Value.int .u8 0, Value.int .u8 0] : Array Value) = nv .u8 (List.replicate 32 0) := by kernel_rfl
  rw [e]
  exact eq_same _ (by simp) w
theorem row_fn (D : List Nat) (hD : D.length = 32) : ∃ f : Nat → Value, ∀ j, j < 32 → (nv .u8 D)[j]? = some (f j) :=
  ⟨fun j => .int .u8 ((D.getD j 0 : Nat) : Int), fun j hj => nv_get .u8 D j (by omega)⟩
theorem row_lit (f : Nat → Value) (D : List Nat) (hf : ∀ j, j < 32 → (nv .u8 D)[j]? = some (f j)) (hD : D.length = 32) : #[f 0, f 1, f 2, f 3, f 4, f 5, f 6, f 7, f 8, f 9, f 10, f 11, f 12, f 13, f 14, f 15, f 16, f 17, f 18, f 19, f 20, f 21, f 22, f 23, f 24, f 25, f 26, f 27, f 28, f 29, f 30, f 31] = nv .u8 D := by
  have e : #[f 0, f 1, f 2, f 3, f 4, f 5, f 6, f 7, f 8, f 9, f 10, f 11, f 12, f 13, f 14, f 15, f 16, f 17, f 18, f 19, f 20, f 21, f 22, f 23, f 24, f 25, f 26, f 27, f 28, f 29, f 30, f 31] = ((List.range 32).map f).toArray := rfl
  rw [e]
  apply Array.ext'
  apply List.ext_getElem?
  intro i
  by_cases hi : i < 32
  · simp only [Array.getElem?_toList]; rw [hf i hi]; simp [hi]
  · rw [List.getElem?_eq_none (by simp; omega), List.getElem?_eq_none (by rw [Array.length_toList, nv_size]; omega)]

set_option maxRecDepth 100000 in
set_option maxHeartbeats 12000000 in
theorem two_walk (v0 v1 : Value) (D0 D1 : D) (W : World) (r0 : RdV Try.prog W 22 v0 D0) (r1 : RdV Try.prog W 22 v1 D1) :
    Calls Try.prog 6 #[v0, v1] W fun e w' => e = .returned (.bool true) ∧ Below W.heap.size W w' := by
  obtain ⟨a, n, cap, m, rfl, HL, hnc, hcap, hc0, hm, hx⟩ := r0.bytes
  obtain ⟨a2, n2, cap2, m2, rfl, HL2, hnc2, hcap2, hc02, hm2, hx2⟩ := r1.bytes
  have HM := Lib.hid (And.intro hm (And.intro hx (And.intro hm2 hx2)))
  clear hm hx hm2 hx2 r0 r1
  go_enter Try.func6, Try.ntmps6
  go_wp2_with fail
  refine (stands_any _).mono ?_
  rintro e w1 ⟨rfl, hb1⟩
  have HB1 := Lib.hid hb1
  clear hb1
  by_cases hbig : n + n2 ≤ 4000
  · go_wp2_with fail
    refine (newS _).mono ?_
    rintro e w2 ⟨rfl, hb2, hs2, hn2⟩
    have HB2 : Hid (Below W.heap.size W w2 ∧ IsSum w2 w1.heap.size w1.heap.size (.slice none 0 0) []) := ⟨HB1.out.trans (hb2.mono HB1.out.size), hn2⟩
    clear hb2 hn2
    go_wp2_with fail
    refine (newS _).mono ?_
    rintro e w3 ⟨rfl, hb3, hs3, hn3⟩
    have HB3 : Hid (Below W.heap.size W w3 ∧ IsSum w3 w1.heap.size w1.heap.size (.slice none 0 0) [] ∧ IsSum w3 w2.heap.size w2.heap.size (.slice none 0 0) []) := ⟨HB2.out.1.trans (hb3.mono HB2.out.1.size), HB2.out.2.below hb3, hn3⟩
    clear hb3 hn3 HB2
    have hw1 : W.heap.size ≤ w1.heap.size := HB1.out.size
    generalize w1.heap.size = sb at *
    generalize w2.heap.size = tb at *
    go_upto_region 7 with (at_builtin; refine wpList_app' rfl (.const (.slice none 0 0)) (.tmp 23) rfl w3.heap.size (.slice none 0 0) [] rfl (Own.nil _ _) a n cap m rfl HL.out (HM.out.1.of_below HB3.out.1) hc0 (by have := HL.out; simp; omega) (Nat.le_refl _) ?_; intro v4 w4 ho4 hb4 hg4 hv4; simp only [Nat.zero_add, List.nil_append] at ho4; obtain ⟨oa, on, oc, rfl, hon⟩ := ho4.slice; have H4 := Lib.hid (And.intro ho4 (And.intro hb4 (And.intro hg4 hv4))); clear ho4 hb4 hg4 hv4)
    go_cut [29, 30] (fun s29 s30 wx => w4 = wx ∧ s30 = .int .i64 0 ∧ ∃ M : Nat, s29 = .int .i64 M ∧ Hid (n ≤ M ∧ n2 ≤ M ∧ (M = n ∨ M = n2)))
    case first =>
      go_wp2_with fail
      all_goals go_meet
      all_goals first | exact ⟨rfl, rfl, n, rfl, Lib.hid (by omega)⟩ | exact ⟨rfl, rfl, n2, rfl, Lib.hid (by omega)⟩
    case rest =>
      obtain ⟨rfl, rfl, M, rfl, HMM⟩ := hcut
      obtain rfl : on = n := hon.out.trans HL.out.symm
      have H5 : Hid (Two w4 W.heap.size sb tb (.slice none 0 0) (.slice none 0 0) (.slice oa on oc) (m.take 0) (m2.take 0) m ∧ Below W.heap.size W w4) := by
        have h1 : IsSum w4 sb sb (.slice none 0 0) [] := HB3.out.2.1.below H4.out.2.1
        have h2 : IsSum w4 tb tb (.slice none 0 0) [] := HB3.out.2.2.below H4.out.2.1
        refine ⟨⟨⟨h1.blk, h1.own.mono (by omega), h1.ne, by omega, h1.h8⟩, ⟨h2.blk, h2.own.mono (by omega), h2.ne, by omega, h2.h8⟩, H4.out.1.mono HB3.out.1.size, by omega, ?_, ?_, by simp [Value.ownBlock], by simp [Value.ownBlock], by simp [Value.ownBlock], by simp [Value.ownBlock], by simp [Value.ownBlock]⟩, HB3.out.1.trans (H4.out.2.1.mono HB3.out.1.size)⟩
        · intro e; have := H4.out.1.base_le _ e; omega
        · intro e; have := H4.out.1.base_le _ e; omega
      clear HB3 H4 hon
      go_wp2_with fail
      go_loopw [30] (fun i wr => ∃ (k : Nat) (vs vt : Value), k ≤ M ∧ i = .int .i64 k ∧ Two wr W.heap.size sb tb vs vt (.slice oa on oc) (m.take k) (m2.take k) m ∧ Below W.heap.size W wr) (fun i _ => M - (intOf i).toNat)
      case atStart => exact ⟨0, _, _, by omega, rfl, H5.out.1, H5.out.2⟩
      case round =>
        clear H5
        obtain ⟨k, vs, vt, hk, rfl, hT, hbel⟩ := hrel
        have hbs : IsBytes wr oa m := by
          obtain ⟨a5, c5, he5, hb5, -⟩ := hT.o.form
          injection he5 with he5 _ _
          rw [he5]; exact hb5
        have hoc : on ≤ oc := by
          obtain ⟨a5, c5, he5, -, hb5, -⟩ := hT.o.form
          injection he5 with _ he6 he7
          omega
        have HT := Lib.hid (And.intro hT (And.intro hbel (And.intro hbs hT.o.capz)))
        clear hT hbel hbs
        have hM1 := HMM.out.1
        have hM2 := HMM.out.2.1
        have hM3 : k < M → k < on ∨ k < n2 := fun h => by have := HMM.out.2.2; omega
        have HM3 := Lib.hid hM3
        clear hM3
        by_cases h1 : k < on
        · by_cases h2 : k < n2
          ·
            as_aux_lemma =>
              go_wp2_with (first
                | (refine wpList_cut' (by rfl) (.tmp 38) (some (.tmp 39)) (some (.tmp 41)) (by rfl) (t := 22) (e := 5) (by kernel_rfl) (by kernel_rfl) (a := oa) (len := on) (cap := oc) (by rfl) k (k + 1) 1 (by omega) (by exact bounds_lhi k (k + 1) rfl (by omega) (by omega) (by omega)) ?_)
                | (refine wpList_cut' (by rfl) (.tmp 49) (some (.tmp 50)) (some (.tmp 52)) (by rfl) (t := 22) (e := 5) (by kernel_rfl) (by kernel_rfl) (a := a2) (len := n2) (cap := cap2) (by rfl) k (k + 1) 1 (by omega) (by exact bounds_lhi k (k + 1) rfl (by omega) (by omega) (by omega)) ?_)
                | (go_at_call 12; have key := writeS (k := 1) (c := oc - k) HT.out.1.s (by rw [cut_length m k (k + 1) (by omega) (by have := HL.out; omega)]; omega) (isBytes_cut HT.out.2.2.1 oc k (k + 1) (by omega) (by have := HL.out; omega) (by have := HL.out; omega)) (fun h => cutA_none HT.out.2.2.2 h) (by omega) HT.out.2.1.size (fun x hcx _ => by obtain ⟨y, hy, hyb⟩ := cutA_block hcx; rw [← hyb]; exact fun e => HT.out.1.os (by rw [hy, ← e]; rfl)); (with_reducible refine key.mono ?_); clear key; rintro e w5 ⟨rfl, v5, hi5, hb5, hv5⟩; rw [take_one] at hi5; have HU : Hid (Two w5 W.heap.size sb tb v5 vt (.slice oa on oc) (m.take (k + 1)) (m2.take k) m ∧ Below W.heap.size W w5) := ⟨HT.out.1.write hi5 hb5 hv5, HT.out.2.1.trans (hb5.below (B := W.heap.size) HT.out.2.1.size HT.out.1.inS)⟩; clear hi5 hb5 hv5)
                | (go_at_call 12; have key := writeS (k := 1) (c := cap2 - k) HU.out.1.t (by rw [cut_length m2 k (k + 1) (by omega) (by have := HL2.out; omega)]; omega) (isBytes_cut (HM.out.2.2.1.of_below HU.out.2) cap2 k (k + 1) (by omega) (by have := HL2.out; omega) (by have := HL2.out; omega)) (fun h => cutA_none hc02 h) (by omega) HU.out.2.size (fun x hcx hne => by have h1 := bytes_bound HM.out.2.2.2 hcx hne; have h2 := HU.out.1.t.hfb; omega); (with_reducible refine key.mono ?_); clear key; rintro e w6 ⟨rfl, v6, hi6, hb6, hv6⟩; rw [take_one] at hi6; have HV := Lib.hid (And.intro (HU.out.1.swap.write hi6 hb6 hv6).swap (HU.out.2.trans (hb6.below (B := W.heap.size) HU.out.2.size HU.out.1.swap.inS))); clear hi6 hb6 hv6))
              go_roundw
              case rel => exact ⟨k + 1, v5, v6, by omega, by go_num, HV.out.1, HV.out.2⟩
              case measure => simp [intOf]; omega
          · have ht2 : m2.take k = m2.take (k + 1) := take_all m2 k (by have := HL2.out; omega)
            have HTK := Lib.hid ht2
            clear ht2
            as_aux_lemma =>
              first
                | (exfalso; omega)
                | (go_wp2_with (first
                    | (refine wpList_cut' (by rfl) (.tmp 38) (some (.tmp 39)) (some (.tmp 41)) (by rfl) (t := 22) (e := 5) (by kernel_rfl) (by kernel_rfl) (a := oa) (len := on) (cap := oc) (by rfl) k (k + 1) 1 (by omega) (by exact bounds_lhi k (k + 1) rfl (by omega) (by omega) (by omega)) ?_)
                    | (go_at_call 12; have key := writeS (k := 1) (c := oc - k) HT.out.1.s (by rw [cut_length m k (k + 1) (by omega) (by have := HL.out; omega)]; omega) (isBytes_cut HT.out.2.2.1 oc k (k + 1) (by omega) (by have := HL.out; omega) (by have := HL.out; omega)) (fun h => cutA_none HT.out.2.2.2 h) (by omega) HT.out.2.1.size (fun x hcx _ => by obtain ⟨y, hy, hyb⟩ := cutA_block hcx; rw [← hyb]; exact fun e => HT.out.1.os (by rw [hy, ← e]; rfl)); (with_reducible refine key.mono ?_); clear key; rintro e w5 ⟨rfl, v5, hi5, hb5, hv5⟩; rw [take_one] at hi5; have HU : Hid (Two w5 W.heap.size sb tb v5 vt (.slice oa on oc) (m.take (k + 1)) (m2.take k) m ∧ Below W.heap.size W w5) := ⟨HT.out.1.write hi5 hb5 hv5, HT.out.2.1.trans (hb5.below (B := W.heap.size) HT.out.2.1.size HT.out.1.inS)⟩; clear hi5 hb5 hv5))
                   go_roundw
                   case rel => exact ⟨k + 1, v5, vt, by omega, by go_num, by rw [← HTK.out]; exact HU.out.1, HU.out.2⟩
                   case measure => simp [intOf]; omega)
        · have ht1 : m.take k = m.take (k + 1) := take_all m k (by have := HL.out; omega)
          have HTK := Lib.hid ht1
          clear ht1
          by_cases h2 : k < n2
          ·
            as_aux_lemma =>
              first
                | (exfalso; omega)
                | (go_wp2_with (first
                    | (refine wpList_cut' (by rfl) (.tmp 49) (some (.tmp 50)) (some (.tmp 52)) (by rfl) (t := 22) (e := 5) (by kernel_rfl) (by kernel_rfl) (a := a2) (len := n2) (cap := cap2) (by rfl) k (k + 1) 1 (by omega) (by exact bounds_lhi k (k + 1) rfl (by omega) (by omega) (by omega)) ?_)
                    | (go_at_call 12; have key := writeS (k := 1) (c := cap2 - k) HT.out.1.t (by rw [cut_length m2 k (k + 1) (by omega) (by have := HL2.out; omega)]; omega) (isBytes_cut (HM.out.2.2.1.of_below HT.out.2.1) cap2 k (k + 1) (by omega) (by have := HL2.out; omega) (by have := HL2.out; omega)) (fun h => cutA_none hc02 h) (by omega) HT.out.2.1.size (fun x hcx hne => by have h1 := bytes_bound HM.out.2.2.2 hcx hne; have h2 := HT.out.1.t.hfb; omega); (with_reducible refine key.mono ?_); clear key; rintro e w6 ⟨rfl, v6, hi6, hb6, hv6⟩; rw [take_one] at hi6; have HV := Lib.hid (And.intro (HT.out.1.swap.write hi6 hb6 hv6).swap (HT.out.2.1.trans (hb6.below (B := W.heap.size) HT.out.2.1.size HT.out.1.swap.inS))); clear hi6 hb6 hv6))
                   go_roundw
                   case rel => exact ⟨k + 1, vs, v6, by omega, by go_num, by rw [← HTK.out]; exact HV.out.1, HV.out.2⟩
                   case measure => simp [intOf]; omega)
          · have hkM : ¬ k < M := fun h => by have := HM3.out h; omega
            have e1 : m.take k = m := List.take_of_length_le (by have := HL.out; omega)
            have e2 : m2.take k = m2 := List.take_of_length_le (by have := HL2.out; omega)
            rw [e1, e2] at HT
            have hob : ∀ i, i < on → ∃ c, c < 256 ∧ ∃ g, oa = some ⟨g, 0, none⟩ ∧ wr.cell? ⟨g, i, none⟩ = some (.int .u8 (c : Nat)) ∧ (∀ i, wr.frozen? ⟨g, i, none⟩ = false) := by
              intro i hi
              obtain ⟨g, c9, he9, hb9, hf9, -⟩ := HT.out.1.o.block (by rintro rfl; have := HL.out; simp at this; omega)
              injection he9 with he9 _ _
              obtain ⟨b', o', he', hc'⟩ := hb9.2.resolve_left (by rintro rfl; have := HL.out; simp at this; omega)
              cases he'
              have := hc' i (by have := HL.out; omega)
              rw [Nat.zero_add] at this
              exact ⟨_, hb9.1 _ (by have hl := HL.out; simp [List.getD, List.getElem?_eq_getElem (show i < m.length by omega)]), g, he9, this, hf9⟩
            have HOB := Lib.hid hob
            clear hob e1 e2
            as_aux_lemma =>
              go_wp2_with fail
              refine (sumS HT.out.1.s HT.out.2.1.size).mono ?_
              rintro e w5 ⟨rfl, hb5⟩
              have H5 := Lib.hid (And.intro (HT.out.1.below hb5) (HT.out.2.1.trans (hb5.mono HT.out.2.1.size)))
              have hg : ∀ g, oa = some ⟨g, 0, none⟩ → W.heap.size ≤ g ∧ g < wr.heap.size ∧ g ≠ sb ∧ vs.ownBlock ≠ some g := by
                intro g hg
                have hgo : (Value.slice oa on oc).ownBlock = some g := by rw [hg]; rfl
                exact ⟨HT.out.1.o.base_le g hgo, HT.out.1.o.lt g hgo, fun e => HT.out.1.os (by rw [hgo, e]), fun e => HT.out.1.vo g e hgo⟩
              have HG := Lib.hid hg
              have hs5 := hb5.size
              have hcell5 : ∀ i, i < on → ∃ c, c < 256 ∧ ∃ g, oa = some ⟨g, 0, none⟩ ∧ w5.cell? ⟨g, i, none⟩ = some (.int .u8 (c : Nat)) ∧ (∀ i, w5.frozen? ⟨g, i, none⟩ = false) := by
                intro i hi
                obtain ⟨c, hc, g, hg1, hg2, hg3⟩ := HOB.out i hi
                have hgl := (hg g hg1).2.1
                exact ⟨c, hc, g, hg1, (hb5.cell (p := ⟨g, i, none⟩) hgl).trans hg2, fun j => (hb5.frozen (p := ⟨g, j, none⟩) hgl).trans (hg3 j)⟩
              have HOB5 := Lib.hid hcell5
              clear hb5 hg hcell5 HOB HT
              go_wp2_with fail
              refine (sumS H5.out.1.t H5.out.2.size).mono ?_
              rintro e w6 ⟨rfl, hb6⟩
              have hs6 := hb6.size
              have H6 : Hid (IsSum w6 W.heap.size sb vs m ∧ Below W.heap.size W w6 ∧ ∀ i, i < on → ∃ c, c < 256 ∧ ∃ g, oa = some ⟨g, 0, none⟩ ∧ w6.cell? ⟨g, i, none⟩ = some (.int .u8 (c : Nat)) ∧ (∀ i, w6.frozen? ⟨g, i, none⟩ = false)) := by
                refine ⟨H5.out.1.s.below hb6, H5.out.2.trans (hb6.mono H5.out.2.size), fun i hi => ?_⟩
                obtain ⟨c, hc, g, hg1, hg2, hg3⟩ := HOB5.out i hi
                have hgl : g < w5.heap.size := by have := (HG.out g hg1).2.1; omega
                exact ⟨c, hc, g, hg1, (hb6.cell (p := ⟨g, i, none⟩) hgl).trans hg2, fun j => (hb6.frozen (p := ⟨g, j, none⟩) hgl).trans (hg3 j)⟩
              clear hb6 H5 HOB5
              have hz := zero_32 (digest m)
              have kX : IsBlk ((w6.alloc (.cells (nv .u8 (orow (digest m) 0)) 24)).alloc (.cells (nv .u8 (orow (digest m) 0)) 24)) w6.heap.size (nv .u8 (orow (digest m) 0)) 24 := (IsBlk.new w6 _ _).alloc _
              have kY : IsBlk ((w6.alloc (.cells (nv .u8 (orow (digest m) 0)) 24)).alloc (.cells (nv .u8 (orow (digest m) 0)) 24)) (w6.heap.size + 1) (nv .u8 (orow (digest m) 0)) 24 := by
                have := IsBlk.new (w6.alloc (.cells (nv .u8 (orow (digest m) 0)) 24)) (nv .u8 (orow (digest m) 0)) 24
                rwa [World.size_alloc] at this
              have kB : Below w6.heap.size w6 ((w6.alloc (.cells (nv .u8 (orow (digest m) 0)) 24)).alloc (.cells (nv .u8 (orow (digest m) 0)) 24)) := ((Below.refl _ _).alloc (Nat.le_refl _) _).alloc (by simp) _
              have HX := Lib.hid (And.intro kX (And.intro kY kB))
              clear kX kY kB
              go_wp2_with (first
                | (refine wpList_store_row (by rfl) 24 (.tmp 9) (.tmp 57) (by rfl) w6.heap.size (nv .u8 (digest m)) (by rfl) (by rfl) 24 (nv .u8 (orow (digest m) 0)) (by exact HX.out.1) (by rw [nv_size, digest_length]; kernel_rfl) (by rw [nv_size, nv_size, orow_length, digest_length]) (nv_one _ _) ?_)
                | (refine wpList_store_row (by rfl) 24 (.tmp 10) (.tmp 59) (by rfl) (w6.heap.size + 1) (nv .u8 (digest m2)) (by rfl) (by rfl) 24 (nv .u8 (orow (digest m) 0)) (by exact isBlk_setRowOther HX.out.2.1 (by omega) _) (by rw [nv_size, digest_length]; kernel_rfl) (by rw [nv_size, nv_size, orow_length, digest_length]) (nv_one _ _) ?_))
              have kX7 : IsBlk ((((w6.alloc (.cells (nv .u8 (orow (digest m) 0)) 24)).alloc (.cells (nv .u8 (orow (digest m) 0)) 24)).setRow w6.heap.size (nv .u8 (digest m))).setRow (w6.heap.size + 1) (nv .u8 (digest m2))) w6.heap.size (nv .u8 (digest m)) 24 := isBlk_setRowOther (isBlk_setRow HX.out.1 _) (by omega) _
              have kY7 : IsBlk ((((w6.alloc (.cells (nv .u8 (orow (digest m) 0)) 24)).alloc (.cells (nv .u8 (orow (digest m) 0)) 24)).setRow w6.heap.size (nv .u8 (digest m))).setRow (w6.heap.size + 1) (nv .u8 (digest m2))) (w6.heap.size + 1) (nv .u8 (digest m2)) 24 := isBlk_setRow (isBlk_setRowOther HX.out.2.1 (by omega) _) _
              have kB7 : Below w6.heap.size w6 ((((w6.alloc (.cells (nv .u8 (orow (digest m) 0)) 24)).alloc (.cells (nv .u8 (orow (digest m) 0)) 24)).setRow w6.heap.size (nv .u8 (digest m))).setRow (w6.heap.size + 1) (nv .u8 (digest m2))) := below_setRow (below_setRow HX.out.2.2 _ (Nat.le_refl _) _) _ (by omega) _
              generalize ((((w6.alloc (.cells (nv .u8 (orow (digest m) 0)) 24)).alloc (.cells (nv .u8 (orow (digest m) 0)) 24)).setRow w6.heap.size (nv .u8 (digest m))).setRow (w6.heap.size + 1) (nv .u8 (digest m2))) = w7 at *
              have H7 : Hid (IsSum w7 W.heap.size sb vs m ∧ Below W.heap.size W w7 ∧ (∀ i, i < on → ∃ c, c < 256 ∧ ∃ g, oa = some ⟨g, 0, none⟩ ∧ w7.cell? ⟨g, i, none⟩ = some (.int .u8 (c : Nat)) ∧ (∀ i, w7.frozen? ⟨g, i, none⟩ = false)) ∧ IsBlk w7 w6.heap.size (nv .u8 (digest m)) 24 ∧ IsBlk w7 (w6.heap.size + 1) (nv .u8 (digest m2)) 24) := by
                refine ⟨H6.out.1.below kB7, H6.out.2.1.trans (kB7.mono H6.out.2.1.size), fun i hi => ?_, kX7, kY7⟩
                obtain ⟨c, hc, g, hg1, hg2, hg3⟩ := H6.out.2.2 i hi
                have hgl : g < w6.heap.size := by have := (HG.out g hg1).2.1; omega
                exact ⟨c, hc, g, hg1, (kB7.cell (p := ⟨g, i, none⟩) hgl).trans hg2, fun j => (kB7.frozen (p := ⟨g, j, none⟩) hgl).trans (hg3 j)⟩
              have HG6 : Hid (∀ g, oa = some ⟨g, 0, none⟩ → W.heap.size ≤ g ∧ g ≠ w6.heap.size ∧ g ≠ w6.heap.size + 1 ∧ g ≠ sb ∧ vs.ownBlock ≠ some g) := fun g hg => by
                obtain ⟨q1, q2, q3, q4⟩ := HG.out g hg
                exact ⟨q1, by omega, by omega, q3, q4⟩
              clear kX7 kY7 kB7 HX H6 HG hs6 hs5 hz
              generalize w6.heap.size = xb at *
              go_loopw [62] (fun i wr => ∃ k : Nat, k ≤ on ∧ i = .int .i64 k ∧ IsSum wr W.heap.size sb vs m ∧ Below W.heap.size W wr ∧ (∀ i, i < on → ∃ c, c < 256 ∧ ∃ g, oa = some ⟨g, 0, none⟩ ∧ wr.cell? ⟨g, i, none⟩ = some (.int .u8 (c : Nat)) ∧ (∀ i, wr.frozen? ⟨g, i, none⟩ = false)) ∧ IsBlk wr xb (nv .u8 (digest m)) 24 ∧ IsBlk wr (xb + 1) (nv .u8 (digest m2)) 24) (fun i _ => on - (intOf i).toNat)
              case atStart => exact ⟨0, by omega, rfl, H7.out⟩
              case round =>
                clear H7
                obtain ⟨q, hq, rfl, hrest⟩ := hrel
                by_cases hlt : q < on
                · obtain ⟨c, hc, g, rfl, hcell, hfz⟩ := hrest.2.2.1 q hlt
                  as_aux_lemma =>
                    obtain ⟨g1, g2, g3, g4, g5⟩ := HG6.out g rfl
                    have HE := Lib.hid (And.intro hrest (And.intro g1 (And.intro g2 (And.intro g3 (And.intro g4 g5)))))
                    have HF := Lib.hid hfz
                    obtain ⟨c', hc'⟩ : ∃ c', c' = (c + 1) % 256 := ⟨_, rfl⟩
                    have z1 : ((c : Int) + 1) % 256 = (c' : Int) := by omega
                    have z2 : IntKind.u8.wrap ((c : Int) + 1) = (c' : Int) := by rw [IntKind.wrap_u8]; omega
                    have HC' := Lib.hid hc'
                    clear hrest hc' g1 g2 g3 g4 g5
                    go_wp2
                    go_roundw
                    case rel =>
                      refine ⟨q + 1, by omega, by go_num, ?_⟩
                      have hb8 : But (fun j => j = g) wr (wr.setCell ⟨g, q, none⟩ (.int .u8 (c' : Int))) := (But.refl (fun j => j = g) wr).setCell (p := ⟨g, q, none⟩) rfl _
                      refine ⟨HE.out.1.1.but hb8 (fun e => HE.out.2.2.2.2.1 e.symm) (fun j hj e => HE.out.2.2.2.2.2 (by rw [hj, e])), HE.out.1.2.1.trans (hb8.below (B := W.heap.size) HE.out.1.2.1.size (by intro j hj; have := HE.out.2.1; omega)), fun i hi => ?_, hb8.blk HE.out.1.2.2.2.1 (fun e => HE.out.2.2.1 e.symm), hb8.blk HE.out.1.2.2.2.2 (fun e => HE.out.2.2.2.1 e.symm)⟩
                      have hfz2 : ∀ i, (wr.setCell ⟨g, q, none⟩ (.int .u8 (c' : Int))).frozen? ⟨g, i, none⟩ = false := fun i => by
                        have := HF.out i
                        simpa using this
                      by_cases hiq : i = q
                      · subst hiq
                        exact ⟨c', by have := HC'.out; omega, g, rfl, World.cell?_setCell_same' wr ⟨g, i, none⟩ _ (by rw [hcell]; rfl), hfz2⟩
                      · obtain ⟨d, hd, g', hg', hd2, hd3⟩ := HE.out.1.2.2.1 i hi
                        cases hg'
                        exact ⟨d, hd, g, rfl, (World.cell?_setCell_other wr _ _ _ (by first | (simp; done) | (simp; omega))).trans hd2, hfz2⟩
                    case measure => simp [intOf]; omega
                · have HE := Lib.hid hrest
                  clear hrest
                  as_aux_lemma =>
                    go_wp2_with fail
                    refine (writeNone _ _).mono ?_
                    rintro e w9 ⟨rfl, rfl⟩
                    obtain ⟨Z, hZ⟩ : ∃ Z, Z = List.replicate 32 0 := ⟨_, rfl⟩
                    obtain ⟨cx, hcx⟩ : ∃ cx, cx = (nv .u8 (digest m)).toList := ⟨_, rfl⟩
                    obtain ⟨cy, hcy⟩ : ∃ cy, cy = (nv .u8 (digest m2)).toList := ⟨_, rfl⟩
                    have qe1 : ∀ w, (Op.equalIn 10000 24 (.agg cx.toArray) (.agg (nv .u8 (digest m)))).run Try.prog w = .ok true w := fun w => by rw [hcx]; exact eq_same (digest m) (digest_length m) w
                    have qe2 : ∀ w, (Op.equalIn 10000 24 (.agg cy.toArray) (.agg (nv .u8 (digest m2)))).run Try.prog w = .ok true w := fun w => by rw [hcy]; exact eq_same (digest m2) (digest_length m2) w
                    have qe3 : ∀ w, (Op.equalIn 10000 24 (.agg (nv .u8 (digest m))) (.agg cx.toArray)).run Try.prog w = .ok true w := fun w => by rw [hcx]; exact eq_same (digest m) (digest_length m) w
                    have hcx1 : (Try.prog.info? 24).map (·.size) = some cx.length := by rw [hcx, Array.length_toList, nv_size, digest_length]; kernel_rfl
                    have hcy1 : (Try.prog.info? 24).map (·.size) = some cy.length := by rw [hcy, Array.length_toList, nv_size, digest_length]; kernel_rfl
                    have hul := Try.underlying24
                    have HXR : Hid (∀ w', Below wr.heap.size wr w' → w'.rangeAt xb 0 cx) := Lib.hid (fun w' hw j v hj => by rw [Nat.zero_add]; exact (HE.out.2.2.2.1.below hw HE.out.2.2.2.1.lt).cell j (by rw [hcx, Array.getElem?_toList] at hj; exact hj))
                    have HYR : Hid (∀ w', Below wr.heap.size wr w' → w'.rangeAt (xb + 1) 0 cy) := Lib.hid (fun w' hw j v hj => by rw [Nat.zero_add]; exact (HE.out.2.2.2.2.below hw HE.out.2.2.2.2.lt).cell j (by rw [hcy, Array.getElem?_toList] at hj; exact hj))
                    have HMa : Hid (∀ w', Below wr.heap.size wr w' → IsBytes w' a m) := fun w' hw => HM.out.1.of_below (HE.out.2.1.trans (hw.mono HE.out.2.1.size))
                    have HMb : Hid (∀ w', Below wr.heap.size wr w' → IsBytes w' a2 m2) := fun w' hw => HM.out.2.2.1.of_below (HE.out.2.1.trans (hw.mono HE.out.2.1.size))
                    have HMs : Hid (∀ w', Below wr.heap.size wr w' → IsSum w' W.heap.size sb vs m ∧ W.heap.size ≤ w'.heap.size) := fun w' hw => ⟨HE.out.1.below hw, by have h1 := hw.size; have h2 := HE.out.2.1.size; omega⟩
                    have HBN : Hid (∀ w' w'', Below wr.heap.size wr w' → Below w'.heap.size w' w'' → w''.rangeAt xb 0 cx ∧ w''.rangeAt (xb + 1) 0 cy ∧ Below wr.heap.size wr w'') := fun w' w'' h1 h2 => ⟨HXR.out _ (h1.trans (h2.mono h1.size)), HYR.out _ (h1.trans (h2.mono h1.size)), h1.trans (h2.mono h1.size)⟩
                    have HWB : Hid (∀ w', Below wr.heap.size wr w' → Below W.heap.size W w') := fun w' hw => HE.out.2.1.trans (hw.mono HE.out.2.1.size)
                    have HZ := Lib.hid hZ
                    have qe4 := fun w => eq_none w Z hZ
                    have HST : Hid (wr.drew.rangeAt xb 0 cx ∧ wr.drew.rangeAt (xb + 1) 0 cy ∧ Below wr.heap.size wr wr.drew) := Lib.hid ⟨HXR.out _ (Below.refl _ _).drew, HYR.out _ (Below.refl _ _).drew, (Below.refl _ _).drew⟩
                    clear hZ HE hcx hcy
                    go_wp2_with fail
                    refine wp_region_held_drew (S := fun w' => w'.rangeAt xb 0 cx ∧ w'.rangeAt (xb + 1) 0 cy ∧ Below wr.heap.size wr w') (by kernel_rfl) HST.out (fun hHeld => ?_)
                    refine wpAnyH_take (i := 0) (v := _) rfl (by kernel_rfl) (by kernel_rfl) (by kernel_rfl) (fun _ _ _ h => h) (yieldsIf_load_mid (by rfl) _ _ rfl _ _ rfl cx _ (fun w hw => hw.1) hul rfl hcx1) (by with_reducible assumption) ?_
                    (try simp only [Act.put, List.setIfInBounds_toArray, List.set_cons_zero, List.set_cons_succ])
                    refine wpAnyH_take (i := 1) (v := ?_) rfl (by kernel_rfl) (by kernel_rfl) (by kernel_rfl) (fun _ _ _ h => h) (Or.inl ⟨by rfl, ?_⟩) (by with_reducible assumption) ?_
                    rotate_left
                    · intro w hSw; (try dsimp only at hSw); go_simp; (try with_reducible rfl)
                    (try simp only [Act.put, List.setIfInBounds_toArray, List.set_cons_zero, List.set_cons_succ])
                    refine wpAnyH_ready (rs := [2]) (by kernel_rfl) (by simp) ?_
                    refine AllReadyH.cons rfl (fun K hK => ?_) AllReadyH.nil
                    go_simp
                    obtain ⟨hr1, hr2, hr3⟩ := hHeld
                    have hBel := Lib.hid hr3
                    clear hr1 hr2 hr3
                    go_at_call 10
                    (with_reducible refine (sumR_any _ a on cap m HL (HMa.out _ hBel.out) hc0 (by omega)).mono ?_)
                    rintro e w8 ⟨rfl, hb8⟩
                    have hBn := Lib.hid (HBN.out _ _ hBel.out hb8)
                    clear hb8 hBel
                    (try go_wp2_with fail)
                    refine hK.out _ _ hBn.out (fun hHeld => ?_)
                    clear hK K hBn
                    (try simp only [Act.put, List.setIfInBounds_toArray, List.set_cons_zero, List.set_cons_succ])
                    refine wpAnyH_take (i := 3) (v := ?_) rfl (by kernel_rfl) (by kernel_rfl) (by kernel_rfl) (fun _ _ _ h => h) (Or.inl ⟨by rfl, ?_⟩) (by with_reducible assumption) ?_
                    rotate_left
                    · intro w hSw; (try dsimp only at hSw); go_simp; (try with_reducible rfl)
                    (try simp only [Act.put, List.setIfInBounds_toArray, List.set_cons_zero, List.set_cons_succ])
                    refine wpAnyH_take (i := 4) (v := ?_) rfl (by kernel_rfl) (by kernel_rfl) (by kernel_rfl) (fun _ _ _ h => h) (Or.inl ⟨by rfl, ?_⟩) (by with_reducible assumption) ?_
                    rotate_left
                    · intro w hSw; (try dsimp only at hSw); go_simp; (try with_reducible rfl)
                    (try simp only [Act.put, List.setIfInBounds_toArray, List.set_cons_zero, List.set_cons_succ])
                    refine wpAnyH_take (i := 5) (v := _) rfl (by kernel_rfl) (by kernel_rfl) (by kernel_rfl) (fun _ _ _ h => h) (yieldsIf_load_mid (by rfl) _ _ rfl _ _ rfl cy _ (fun w hw => hw.2.1) hul rfl hcy1) (by with_reducible assumption) ?_
                    (try simp only [Act.put, List.setIfInBounds_toArray, List.set_cons_zero, List.set_cons_succ])
                    refine wpAnyH_take (i := 6) (v := ?_) rfl (by kernel_rfl) (by kernel_rfl) (by kernel_rfl) (fun _ _ _ h => h) (Or.inl ⟨by rfl, ?_⟩) (by with_reducible assumption) ?_
                    rotate_left
                    · intro w hSw; (try dsimp only at hSw); go_simp; (try with_reducible rfl)
                    (try simp only [Act.put, List.setIfInBounds_toArray, List.set_cons_zero, List.set_cons_succ])
                    refine wpAnyH_ready (rs := [7]) (by kernel_rfl) (by simp) ?_
                    refine AllReadyH.cons rfl (fun K hK => ?_) AllReadyH.nil
                    go_simp
                    obtain ⟨hr1, hr2, hr3⟩ := hHeld
                    have hBel := Lib.hid hr3
                    clear hr1 hr2 hr3
                    go_at_call 10
                    (with_reducible refine (sumR_any _ a2 n2 cap2 m2 HL2 (HMb.out _ hBel.out) hc02 (by omega)).mono ?_)
                    rintro e w8 ⟨rfl, hb8⟩
                    have hBn := Lib.hid (HBN.out _ _ hBel.out hb8)
                    clear hb8 hBel
                    (try go_wp2_with fail)
                    refine hK.out _ _ hBn.out (fun hHeld => ?_)
                    clear hK K hBn
                    (try simp only [Act.put, List.setIfInBounds_toArray, List.set_cons_zero, List.set_cons_succ])
                    refine wpAnyH_take (i := 8) (v := ?_) rfl (by kernel_rfl) (by kernel_rfl) (by kernel_rfl) (fun _ _ _ h => h) (Or.inl ⟨by rfl, ?_⟩) (by with_reducible assumption) ?_
                    rotate_left
                    · intro w hSw; (try dsimp only at hSw); go_simp; (try with_reducible rfl)
                    (try simp only [Act.put, List.setIfInBounds_toArray, List.set_cons_zero, List.set_cons_succ])
                    refine wpAnyH_take (i := 9) (v := ?_) rfl (by kernel_rfl) (by kernel_rfl) (by kernel_rfl) (fun _ _ _ h => h) (Or.inl ⟨by rfl, ?_⟩) (by with_reducible assumption) ?_
                    rotate_left
                    · intro w hSw; (try dsimp only at hSw); go_simp; (try with_reducible rfl)
                    (try simp only [Act.put, List.setIfInBounds_toArray, List.set_cons_zero, List.set_cons_succ])
                    refine wpAnyH_take (i := 10) (v := ?_) rfl (by kernel_rfl) (by kernel_rfl) (by kernel_rfl) (fun _ _ _ h => h) (Or.inl ⟨by rfl, ?_⟩) (by with_reducible assumption) ?_
                    rotate_left
                    · intro w hSw; (try dsimp only at hSw); go_simp; (try with_reducible rfl)
                    (try simp only [Act.put, List.setIfInBounds_toArray, List.set_cons_zero, List.set_cons_succ])
                    refine wpAnyH_take (i := 11) (v := ?_) rfl (by kernel_rfl) (by kernel_rfl) (by kernel_rfl) (fun _ _ _ h => h) (Or.inl ⟨by rfl, ?_⟩) (by with_reducible assumption) ?_
                    rotate_left
                    · intro w hSw; (try dsimp only at hSw); go_simp; (try with_reducible rfl)
                    (try simp only [Act.put, List.setIfInBounds_toArray, List.set_cons_zero, List.set_cons_succ])
                    refine wpAnyH_take (i := 13) (v := _) rfl (by kernel_rfl) (by kernel_rfl) (by kernel_rfl) (fun _ _ _ h => h) (yieldsIf_load_mid (by rfl) _ _ rfl _ _ rfl cx _ (fun w hw => hw.1) hul rfl hcx1) (by with_reducible assumption) ?_
                    (try simp only [Act.put, List.setIfInBounds_toArray, List.set_cons_zero, List.set_cons_succ])
                    refine wpAnyH_ready (rs := [12]) (by kernel_rfl) (by simp) ?_
                    refine AllReadyH.cons rfl (fun K hK => ?_) AllReadyH.nil
                    go_simp
                    obtain ⟨hr1, hr2, hr3⟩ := hHeld
                    have hBel := Lib.hid hr3
                    clear hr1 hr2 hr3
                    go_at_call 13
                    (with_reducible refine (sumS (HMs.out _ hBel.out).1 (HMs.out _ hBel.out).2).mono ?_)
                    rintro e w8 ⟨rfl, hb8⟩
                    have hBn := Lib.hid (HBN.out _ _ hBel.out hb8)
                    clear hb8 hBel
                    (try go_wp2_with fail)
                    refine hK.out _ _ hBn.out (fun hHeld => ?_)
                    clear hK K hBn
                    (try simp only [Act.put, List.setIfInBounds_toArray, List.set_cons_zero, List.set_cons_succ])
                    refine wpAnyH_take (i := 14) (v := ?_) rfl (by kernel_rfl) (by kernel_rfl) (by kernel_rfl) (fun _ _ _ h => h) (Or.inl ⟨by rfl, ?_⟩) (by with_reducible assumption) ?_
                    rotate_left
                    · intro w hSw; (try dsimp only at hSw); go_simp; (try with_reducible rfl)
                    (try simp only [Act.put, List.setIfInBounds_toArray, List.set_cons_zero, List.set_cons_succ])
                    refine wpAnyH_take (i := 15) (v := ?_) rfl (by kernel_rfl) (by kernel_rfl) (by kernel_rfl) (fun _ _ _ h => h) (Or.inl ⟨by rfl, ?_⟩) (by with_reducible assumption) ?_
                    rotate_left
                    · intro w hSw; (try dsimp only at hSw); go_simp; (try with_reducible rfl)
                    (try simp only [Act.put, List.setIfInBounds_toArray, List.set_cons_zero, List.set_cons_succ])
                    refine wpAnyH_take (i := 16) (v := ?_) rfl (by kernel_rfl) (by kernel_rfl) (by kernel_rfl) (fun _ _ _ h => h) (Or.inl ⟨by rfl, ?_⟩) (by with_reducible assumption) ?_
                    rotate_left
                    · intro w hSw; (try dsimp only at hSw); go_simp; (try with_reducible rfl)
                    (try simp only [Act.put, List.setIfInBounds_toArray, List.set_cons_zero, List.set_cons_succ])
                    refine wpAnyH_take (i := 17) (v := ?_) rfl (by kernel_rfl) (by kernel_rfl) (by kernel_rfl) (fun _ _ _ h => h) (Or.inl ⟨by rfl, ?_⟩) (by with_reducible assumption) ?_
                    rotate_left
                    · intro w hSw; (try dsimp only at hSw); go_simp; (try with_reducible rfl)
                    (try simp only [Act.put, List.setIfInBounds_toArray, List.set_cons_zero, List.set_cons_succ])
                    refine wpAnyH_take (i := 19) (v := ?_) rfl (by kernel_rfl) (by kernel_rfl) (by kernel_rfl) (fun _ _ _ h => h) (Or.inl ⟨by rfl, ?_⟩) (by with_reducible assumption) ?_
                    rotate_left
                    · intro w hSw; (try dsimp only at hSw); go_simp; (try with_reducible rfl)
                    (try simp only [Act.put, List.setIfInBounds_toArray, List.set_cons_zero, List.set_cons_succ])
                    refine wpAnyH_ready (rs := [18]) (by kernel_rfl) (by simp) ?_
                    refine AllReadyH.cons rfl (fun K hK => ?_) AllReadyH.nil
                    go_simp
                    obtain ⟨hr1, hr2, hr3⟩ := hHeld
                    have hBel := Lib.hid hr3
                    clear hr1 hr2 hr3
                    go_at_call 13
                    (with_reducible refine (sumNone _ Z HZ.out).mono ?_)
                    rintro e w8 ⟨rfl, hb8⟩
                    have hBn := Lib.hid (HBN.out _ _ hBel.out hb8)
                    clear hb8 hBel
                    (try go_wp2_with fail)
                    refine hK.out _ _ hBn.out (fun hHeld => ?_)
                    clear hK K hBn
                    (try simp only [Act.put, List.setIfInBounds_toArray, List.set_cons_zero, List.set_cons_succ])
                    refine wpAnyH_take (i := 20) (v := ?_) rfl (by kernel_rfl) (by kernel_rfl) (by kernel_rfl) (fun _ _ _ h => h) (Or.inl ⟨by rfl, ?_⟩) (by with_reducible assumption) ?_
                    rotate_left
                    · intro w hSw; (try dsimp only at hSw); go_simp; (try with_reducible rfl)
                    (try simp only [Act.put, List.setIfInBounds_toArray, List.set_cons_zero, List.set_cons_succ])
                    refine wpAnyH_take (i := 21) (v := ?_) rfl (by kernel_rfl) (by kernel_rfl) (by kernel_rfl) (fun _ _ _ h => h) (Or.inl ⟨by rfl, ?_⟩) (by with_reducible assumption) ?_
                    rotate_left
                    · intro w hSw; (try dsimp only at hSw); go_simp; (try with_reducible rfl)
                    (try simp only [Act.put, List.setIfInBounds_toArray, List.set_cons_zero, List.set_cons_succ])
                    refine wpAnyH_ready (rs := [22]) (by kernel_rfl) (by simp) ?_
                    refine AllReadyH.cons rfl (fun K hK => ?_) AllReadyH.nil
                    go_simp
                    refine hK.out _ _ hHeld (fun hHeld => ?_)
                    clear hK K
                    (try simp only [Act.put, List.setIfInBounds_toArray, List.set_cons_zero, List.set_cons_succ])
                    refine wpAnyH_done (by kernel_rfl) ?_ _
                    have hBel := Lib.hid hHeld.2.2
                    clear hHeld
                    all_goals
                      go_wp2
                      go_ret
                      exact ⟨rfl, HWB.out _ hBel.out⟩
  · go_wp2
    go_ret
    exact ⟨rfl, HB1.out⟩
end Go.Proofs.Ytiakkjdkbpbejaa
