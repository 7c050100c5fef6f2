/-
  woe: WoeSays walked, where the places' letters are few.
-/
import Derived.Test.YtgoddepgdgdacaaDoorWoeText
import Derived.Test.YtgoddepgdgdacaaDoorReadU
import Derived.Deep.QuietTactic
import Derived.BigQuiet
import Derived.Deep.DrawnRows
namespace Go.Proofs.YtgoddepgdgdacaaDoor
set_option linter.unusedVariables false
set_option linter.unusedSimpArgs false
open Go.RowKit

theorem as_woeJ (b : Nat) (t : Addr) (old : Value) (w : World) (hg : HasET w) (ht : w.cell? t = some old) (hf : w.frozen? t = false) :
    Calls Tryd.prog 11 #[.iface 29 (.pointer (some ⟨b, 0, none⟩)), .iface 31 (.pointer (some t))] w fun ev w' => ev = .returned (.bool true) ∧ AsJust w w' t (.pointer (some ⟨b, 0, none⟩)) :=
  (as_woe b t old w hg ht hf).mono fun ev w' ⟨h, w1, hb, hw⟩ => ⟨h, by rw [hw]; exact asJust_of ht hb⟩
/-- A pointer's cell is no part of an error's chain. -/
theorem IsErr.just {W w : World} {t : Addr} {p : Option Addr} {v : Value} (ht : W.cell? t = some (.pointer p)) (hj : AsJust W w t v) : ∀ {l : List ByteArray} {e : Value} {n : Int}, IsErr W e l n → IsErr w e l n
  | [], e, n, h => h
  | s :: r, e, n, ⟨b, u, he, hs, hv, hr⟩ => by
    obtain ⟨T, x, rfl⟩ := hr.iface
    refine ⟨b, _, he, ?_, ?_, hr.just ht hj⟩
    · rw [hj.other _ (cell_lt hs) (fun h => by rw [h, hs] at ht; cases ht)]; exact hs
    · rw [hj.other _ (cell_lt hv) (fun h => by rw [h, hv] at ht; cases ht)]; exact hv

theorem cell_kept {w w5 : World} (h : Below (w.alloc (.cells #[.pointer none] 29)).heap.size (w.alloc (.cells #[.pointer none] 29)) w5) : w5.cell? ⟨w.heap.size, 0, none⟩ = some (.pointer none) ∧ w5.frozen? ⟨w.heap.size, 0, none⟩ = false :=
  ⟨by rw [h.cell (by simp)]; simp, by rw [h.frozen (by simp)]; simp⟩
/-- The first text: behind the making of an error of nothing. -/
theorem says_first {b : Nat} {l : List ByteArray} {n : Int} {w : World} (hg : HasET w) (ht : HasPow w) (he : IsErr w (.iface 29 (.pointer (some ⟨b, 0, none⟩))) l n)
    (h0 : -9223372036854775808 ≤ n) (h1 : n ≤ 9223372036854775807) (hb : lenB l ≤ 1099511627776) (hm : l.length * 16 ≤ 140737488355328) :
    Calls Tryd.prog 19 #[.pointer (some ⟨b, 0, none⟩)] (w.alloc (.cells #[.string ⟨#[120]⟩, .nilIface] 33)) fun e w' => e = .returned (.string (aheadB l (numText n))) ∧ w'.cell? ⟨w.heap.size, 1, none⟩ = some .nilIface ∧ Below w.heap.size w w' := by
  have hb0 : Below w.heap.size w (w.alloc (.cells #[.string ⟨#[120]⟩, .nilIface] 33)) := (Below.refl _ _).alloc (Nat.le_refl _) _
  refine (woe_text b l n _ (hg.below hb0) (ht.below hb0) (he.below hb0) h0 h1 hb hm).mono ?_
  rintro ev w' ⟨h, hb1⟩
  exact ⟨h, by rw [hb1.cell (by simp)]; simp, hb0.trans (hb1.mono (by simp))⟩
theorem isErr_cons {w : World} {s : ByteArray} {r l : List ByteArray} {T : TypeId} {x : Value} {n : Int} (hl : s :: r = l) (h : IsErr w (.iface T x) l n) : ∃ b, T = 29 ∧ x = .pointer (some ⟨b, 0, none⟩) := by
  subst hl
  obtain ⟨b, v, he, _⟩ := h
  injection he with h1 h2
  exact ⟨b, h1, h2⟩

set_option maxHeartbeats 4000000 in
theorem says_cons (n : Int) (a : Option Addr) (s : ByteArray) (r : List ByteArray) (cap : Nat) (W : World) (h0 : -9223372036854775808 ≤ n) (h1 : n ≤ 9223372036854775807) (hl : IsStrs W a (s :: r)) (hm : (s :: r).length ≤ maxLen) (hm16 : (s :: r).length * 16 ≤ 140737488355328) (hB : lenB (s :: r) ≤ 1099511627776) (hg : HasET W) (ht : HasPow W) :
    Calls Tryd.prog 7 #[.int .i64 n, .slice a (s :: r).length cap] W fun e w' => e = .returned (.bool true) ∧ Below W.heap.size W w' := by
  generalize hlr : s :: r = l at *
  have hne : l.length ≠ 0 := by rw [← hlr]; simp
  have HL := Hid.out (p := Hid _) hlr
  clear hlr
  have hf := fun w (h : IsStrs w a l) => few_any a l cap w h hm
  have hmd := fun w (h : IsStrs w a l) => made_any n a l cap w h hm
  unfold maxLen at hm
  have hns := numeral_size n h0 h1
  go_enter Tryd.func7, Tryd.ntmps7
  go_wp2_with (first
    | (go_at_call 8; (with_reducible refine (stands_any _ hg).mono ?_); rintro e w1 ⟨rfl, hb1⟩; have hl1 := hl.below hb1; have HB1 : Hid (Below W.heap.size W w1) := hb1; clear hb1)
    | (go_at_call 9; (with_reducible refine (hf _ hl1).mono ?_); rintro e w2 ⟨hE, rfl⟩; have hit := itoa_any n h0 h1 _ (ht.below HB1.out); rcases hE with rfl | rfl)
    | (go_at_call 18; (with_reducible refine hit.mono ?_); rintro e w3 ⟨rfl, hb3⟩; have HB3 : Hid (Below W.heap.size W w3) := HB1.out.trans (hb3.mono HB1.out.size); clear hb3))
  · have htx : numText n = ⟨#[98, 117, 108, 107, 104, 101, 97, 100, 58, 32, 101, 114, 114, 111, 114, 32]⟩ ++ numeral n := rfl
    have hl3 := hl.below HB3.out
    have hsz := numText_size n h0 h1
    rw [← htx]
    clear htx hl1 HB1 hf hit hns
    go_loopw [5, 6] (fun x i wr => ∃ k : Nat, k ≤ l.length ∧ i = .int .i64 ((k : Int) - 1) ∧ x = .string (aheadB (l.drop k) (numText n)) ∧ wr = w3) (fun _ i _ => (intOf i + 1).toNat)
    case atStart => exact ⟨l.length, Nat.le_refl _, by go_num, by rw [List.drop_length]; rfl, rfl⟩
    case round =>
      obtain ⟨k, hk, rfl, rfl, rfl⟩ := hrel
      cases k with
      | zero =>
        rw [List.drop_zero]
        generalize hwt : aheadB l (numText n) = want at *
        have HW := Hid.out (p := Hid _) hwt
        clear hwt
        have hcell : Below wr.heap.size wr (wr.alloc (.cells #[.pointer none] 29)) := (Below.refl _ _).alloc (Nat.le_refl _) _
        have HB4 : Hid (Below W.heap.size W (wr.alloc (.cells #[.pointer none] 29))) := HB3.out.trans (hcell.mono HB3.out.size)
        have hmade := hmd _ (hl3.below hcell)
        clear hmd hcell
        go_wp2_with (first
          | (go_at_call 10; (with_reducible refine hmade.mono ?_); rintro e w5 ⟨T, x, rfl, he5, hb5⟩; obtain ⟨ht5, hf5⟩ := cell_kept hb5; have HB5 : Hid (Below W.heap.size W w5) := HB4.out.trans (hb5.mono HB4.out.size); obtain ⟨b, rfl, rfl⟩ := isErr_cons HL.out he5; have hcall := as_woeJ b _ _ w5 (hg.below HB5.out) ht5 hf5; clear hb5)
          | (go_at_call 11; (with_reducible refine hcall.mono ?_); rintro e w6 ⟨rfl, hj⟩; have hgot := hj.got; have HE6 : Hid (IsErr w6 _ l n) := he5.just ht5 hj; have HB6 : Hid (Below W.heap.size W w6) := HB5.out.trans (hj.rest.mono HB3.out.size); have hlt6 := cell_lt hgot; clear hcall hj ht5 hf5 he5)
          | (go_at_call 19; (with_reducible refine (says_first (hg.below HB6.out) (ht.below HB6.out) HE6.out h0 h1 hB hm16).mono ?_); rintro e w7 ⟨rfl, hown, hb7⟩; have HB7 : Hid (Below W.heap.size W w7) := HB6.out.trans (hb7.mono HB6.out.size); clear hb7; rw [HW.out])
          | (go_at_call 19; (with_reducible refine (woe_text_nil _).mono ?_); rintro e w8 ⟨rfl, hb8⟩; have hown8 := hb8.cell (cell_lt hown); rw [hown] at hown8; have HB8 : Hid (Below W.heap.size W w8) := HB7.out.trans (hb8.mono HB7.out.size); clear hb8)
          | (go_at_call 19; (with_reducible refine (woe_text_bare _ _ hown8).mono ?_); rintro e w9 ⟨rfl, hb9⟩; have hown9 := hb9.cell (cell_lt hown8); rw [hown8] at hown9; have HB9 : Hid (Below W.heap.size W w9) := HB8.out.trans (hb9.mono HB8.out.size); clear hb9)
          | (go_at_call 13; (with_reducible refine (unwrap_nil _).mono ?_); rintro e w10 ⟨rfl, rfl⟩)
          | (go_at_call 13; (with_reducible refine (unwrap_any _ _ _ hown9).mono ?_); rintro e w11 ⟨rfl, rfl⟩))
        go_ret
        exact ⟨rfl, HB9.out⟩
      | succ k =>
        obtain ⟨b, off, rfl, hbl, hc0⟩ := hl3.2.resolve_left (by intro h; subst h; simp at hk)
        have hc := hc0 k hk
        have hdr : aheadB (l.drop k) (numText n) = (l.getD k ByteArray.empty ++ sepB) ++ aheadB (l.drop (k + 1)) (numText n) := by
          rw [List.drop_eq_getElem_cons (show k < l.length by omega)]
          simp only [List.getD, List.getElem?_eq_getElem (show k < l.length by omega), Option.getD_some]
          rfl
        have hsum : lenB (l.drop k) ≤ lenB l := by
          have h : lenB l = lenB (l.take k) + lenB (l.drop k) := by rw [← lenB_append, List.take_append_drop]
          omega
        have hs1 := aheadB_size (l.drop k) (numText n)
        rw [hdr, ByteArray.size_append] at hs1
        generalize l.getD k ByteArray.empty = x at *
        generalize aheadB (l.drop (k + 1)) (numText n) = y at *
        have hxs : (x ++ sepB).size = x.size + sepB.size := ByteArray.size_append
        have hr1 := fun w => run_string_add_sum (P := Tryd.prog) w x sepB (by omega)
        have hr2 := fun w => run_string_add_sum (P := Tryd.prog) w (x ++ sepB) y (by omega)
        have HD := Hid.out (p := Hid _) hdr
        unfold sepB at hr1 hr2
        have hcast : ((k + 1 : Nat) : Int) - 1 = k := by omega
        rw [hcast]
        clear hdr hsum hs1 hxs hc0 hmd
        go_wp2
        go_round
        case rel => exact ⟨k, by omega, by go_num, by rw [HD.out]; rfl, trivial⟩
        case measure => simp [intOf]
  · go_ret
    exact ⟨rfl, HB1.out⟩

theorem lenB_sum (l : List ByteArray) : lenB l ≤ 2 * (l.map fun z => z.size + 1).sum := by
  unfold lenB
  induction l with
  | nil => simp
  | cons x r ih => simp only [List.map_cons, List.sum_cons]; omega

set_option maxHeartbeats 4000000 in
theorem says_walk (v0 v1 : Value) (D0 D1 : D) (W : World) (r0 : RdV Tryd.prog W 22 v0 D0) (r1 : RdV Tryd.prog W 23 v1 D1) (hk : bulkD D1 ≤ 1048576) (hg : HasET W) (ht : HasPow W) :
    Calls Tryd.prog 7 #[v0, v1] W fun e w' => e = .returned (.bool true) ∧ Below W.heap.size W w' := by
  obtain ⟨n, rfl, rfl, hn⟩ := r0.int Tryd.underlying22
  obtain ⟨a, len, cap, l, rfl, rfl, rfl, hc1, hc2, hc3, hc4, hl⟩ := r1.strs Tryd.underlying23 Tryd.underlying9 (by kernel_rfl)
  have hm : l.length ≤ maxLen := Nat.le_trans hc1 hc2
  have hm16 : l.length * 16 ≤ 140737488355328 := by
    have hb : Tryd.prog.bytesOf 9 = 16 := by kernel_rfl
    rw [hb] at hc3
    unfold reachBytes at hc3
    omega
  have hB : lenB l ≤ 1099511627776 := by
    have h := lenB_sum l
    simp only [bulkD, bulkDs_strs] at hk
    omega
  obtain ⟨h0, h1⟩ : -9223372036854775808 ≤ n ∧ n ≤ 9223372036854775807 := by
    simpa [Lit.wf, IntKind.min, IntKind.max, IntKind.signed, IntKind.bits] using hn
  clear r0 r1 hk hn
  cases l with
  | cons s r => exact says_cons n a s r cap W h0 h1 hl hm hm16 hB hg ht
  | nil =>
    have hf := fun w (h : IsStrs w a []) => few_any a [] cap w h hm
    simp only [List.length_nil] at hf ⊢
    go_enter Tryd.func7, Tryd.ntmps7
    go_wp2_with (first
      | (go_at_call 8; (with_reducible refine (stands_any _ hg).mono ?_); rintro e w1 ⟨rfl, hb1⟩; have hl1 := hl.below hb1; have HB1 : Hid (Below W.heap.size W w1) := hb1; clear hb1)
      | (go_at_call 9; (with_reducible refine (hf _ hl1).mono ?_); rintro e w2 ⟨hE, rfl⟩; rcases hE with rfl | rfl))
    · go_ret
      exact ⟨rfl, HB1.out⟩
    · go_ret
      exact ⟨rfl, HB1.out⟩
end Go.Proofs.YtgoddepgdgdacaaDoor
