/-
  woe: an error's text.
-/
import Derived.Test.YtgoddepgdgdacaaDoorWoeItoa
import Derived.Test.YtgoddepgdgdacaaDoorWoeIsW
namespace Go.Proofs.YtgoddepgdgdacaaDoor
set_option linter.unusedVariables false
set_option linter.unusedSimpArgs false
open Go.RowKit

def headB : ByteArray := ⟨#[98, 117, 108, 107, 104, 101, 97, 100, 58, 32, 101, 114, 114, 111, 114, 32]⟩
def sepB : ByteArray := ⟨#[58, 32]⟩
/-- An Errno's text. -/
def numText (n : Int) : ByteArray := headB ++ numeral n
/-- Places, parted, from the left. -/
def pathB (l : List ByteArray) : ByteArray := l.foldl (fun a x => a ++ (x ++ sepB)) ByteArray.empty
/-- The same from the right, ahead of a text. -/
def aheadB (l : List ByteArray) (t : ByteArray) : ByteArray := l.foldr (fun x a => (x ++ sepB) ++ a) t
theorem pathB_snoc (l : List ByteArray) (x : ByteArray) : pathB (l ++ [x]) = pathB l ++ (x ++ sepB) := by
  unfold pathB; rw [List.foldl_append]; rfl
theorem path_ahead (l : List ByteArray) (t : ByteArray) : ∀ a : ByteArray, l.foldl (fun a x => a ++ (x ++ sepB)) a ++ t = a ++ aheadB l t := by
  induction l with
  | nil => intro a; rfl
  | cons x r ih =>
    intro a
    rw [List.foldl_cons, ih]
    show a ++ (x ++ sepB) ++ aheadB r t = a ++ ((x ++ sepB) ++ aheadB r t)
    rw [ByteArray.append_assoc]
theorem pathB_ahead (l : List ByteArray) (t : ByteArray) : pathB l ++ t = aheadB l t := by
  unfold pathB; rw [path_ahead, ByteArray.empty_append]
/-- How many letters, two more each. -/
def lenB (l : List ByteArray) : Nat := (l.map fun x => x.size + 2).sum
theorem lenB_append (l m : List ByteArray) : lenB (l ++ m) = lenB l + lenB m := by simp [lenB]
theorem sepB_size : sepB.size = 2 := rfl
theorem headB_size : headB.size = 16 := rfl
theorem pathB_size (l : List ByteArray) : (pathB l).size = lenB l := by
  have key : ∀ (l : List ByteArray) (a : ByteArray), (l.foldl (fun a x => a ++ (x ++ sepB)) a).size = a.size + lenB l := by
    intro l
    induction l with
    | nil => intro a; simp [lenB]
    | cons x r ih =>
      intro a
      rw [List.foldl_cons, ih, ByteArray.size_append, ByteArray.size_append, sepB_size]
      simp only [lenB, List.map_cons, List.sum_cons]
      omega
  have := key l ByteArray.empty
  simpa [pathB] using this
theorem aheadB_size (l : List ByteArray) (t : ByteArray) : (aheadB l t).size = lenB l + t.size := by
  rw [← pathB_ahead, ByteArray.size_append, pathB_size]
theorem numText_size (n : Int) (h0 : -9223372036854775808 ≤ n) (h1 : n ≤ 9223372036854775807) : (numText n).size ≤ 37 := by
  have := numeral_size n h0 h1
  rw [numText, ByteArray.size_append, headB_size]
  omega
theorem lenB_take (l : List ByteArray) (k : Nat) : lenB (l.take k) ≤ lenB l := by
  have h : lenB l = lenB (l.take k) + lenB (l.drop k) := by rw [← lenB_append, List.take_append_drop]
  omega
theorem lenB_mem {l : List ByteArray} {k : Nat} (h : k < l.length) : lenB (l.take k) + ((l.getD k ByteArray.empty).size + 2) ≤ lenB l := by
  have h1 : l.take (k + 1) = l.take k ++ [l.getD k ByteArray.empty] := by
    rw [List.take_add_one, List.getElem?_eq_getElem h]
    simp [List.getD, List.getElem?_eq_getElem h]
  have h2 := lenB_take l (k + 1)
  rw [h1, lenB_append] at h2
  simpa [lenB] using h2

theorem HasPow.below {W w : World} (h : HasPow W) (hb : Below W.heap.size W w) : HasPow w := by
  have hg : Tryd.prog.globalNamed "internal/strconv.uint64pow10" = some 1 := by kernel_rfl
  have hc := World.var?_cell hg h 0
  have hl : 1 < W.heap.size := cell_lt (a := ⟨1, 0, none⟩) (v := .int .u64 1) (by rw [hc]; rfl)
  exact var?_below hb hg hl h

set_option maxHeartbeats 1000000 in
theorem errno_text (n : Int) (h0 : -9223372036854775808 ≤ n) (h1 : n ≤ 9223372036854775807) (W : World) (ht : HasPow W) :
    Calls Tryd.prog 27 #[.int .i64 n] W fun e w' => e = .returned (.string (numText n)) ∧ Below W.heap.size W w' := by
  have hc := itoa_any n h0 h1 W ht
  have hsz := numeral_size n h0 h1
  have hadd : headB.size + (numeral n).size ≤ 9223372036854775807 := by rw [headB_size]; omega
  go_enter Tryd.func27, Tryd.ntmps27
  go_wp2_with (go_at_call 18; (with_reducible refine hc.mono ?_); rintro e w' ⟨rfl, hb⟩)
  go_ret
  exact ⟨rfl, hb⟩

set_option maxHeartbeats 2000000 in
theorem woe_text_nil (W : World) :
    Calls Tryd.prog 19 #[.pointer none] W fun e w' => e = .returned (.string ⟨#[110, 111, 116, 104, 105, 110, 103]⟩) ∧ Below W.heap.size W w' := by
  go_enter Tryd.func19, Tryd.ntmps19
  go_wp2
  go_ret
  exact ⟨rfl, Below.refl _ _⟩
theorem woe_text_bare (b : Nat) (W : World) (h : W.cell? ⟨b, 1, none⟩ = some .nilIface) :
    Calls Tryd.prog 19 #[.pointer (some ⟨b, 0, none⟩)] W fun e w' => e = .returned (.string ⟨#[110, 111, 116, 104, 105, 110, 103]⟩) ∧ Below W.heap.size W w' := by
  go_enter Tryd.func19, Tryd.ntmps19
  go_wp2
  go_ret
  exact ⟨rfl, Below.refl _ _⟩

set_option maxHeartbeats 4000000 in
theorem woe_text (b : Nat) (l : List ByteArray) (n : Int) (W : World) (hg : HasET W) (ht : HasPow W) (he : IsErr W (.iface 29 (.pointer (some ⟨b, 0, none⟩))) l n)
    (h0 : -9223372036854775808 ≤ n) (h1 : n ≤ 9223372036854775807) (hb : lenB l ≤ 1099511627776) (hm : l.length * 16 ≤ 140737488355328) :
    Calls Tryd.prog 19 #[.pointer (some ⟨b, 0, none⟩)] W fun e w' => e = .returned (.string (aheadB l (numText n))) ∧ Below W.heap.size W w' := by
  have hway := way_any _ l n W hg he hm
  have hv1 : ∃ T x, W.cell? ⟨b, 1, none⟩ = some (.iface T x) := by
    cases l with
    | nil => cases he
    | cons s r =>
      obtain ⟨b', v, h, hs, hv, hr⟩ := he
      injection h with _ h2
      injection h2 with h2
      injection h2 with h2
      injection h2 with h2
      obtain ⟨T, x, rfl⟩ := hr.iface
      exact ⟨T, x, by rw [h2]; exact hv⟩
  obtain ⟨T, x, hv⟩ := hv1
  have HE := Hid.out (p := Hid _) he
  clear he
  go_enter Tryd.func19, Tryd.ntmps19
  go_wp2_with (go_at_call 12; (with_reducible refine hway.mono ?_); rintro e w1 ⟨v, rfl, ho, hb1⟩; obtain ⟨a, cap, rfl, hrow⟩ := ho.form; have HB1 := Hid.out (p := Hid _) hb1; clear ho hb1)
  go_loopw [3, 19] (fun s i wr => ∃ k : Nat, k ≤ l.length ∧ i = .int .i64 k ∧ s = .string (pathB (l.take k)) ∧ wr = w1) (fun _ i _ => l.length - (intOf i).toNat)
  case atStart => exact ⟨0, by omega, rfl, rfl, rfl⟩
  case round =>
    obtain ⟨k, hk, rfl, rfl, rfl⟩ := hrel
    by_cases hlt : k < l.length
    · obtain ⟨bl, off, rfl, hbl, hc0⟩ := hrow.resolve_left (by intro h; subst h; simp at hlt)
      have hc := hc0 k hlt
      have hmem := lenB_mem hlt
      have hps := pathB_size (l.take k)
      have HS := Hid.out (p := Hid (l.take (k + 1) = l.take k ++ [l.getD k ByteArray.empty])) (by
        show l.take (k + 1) = l.take k ++ [l.getD k ByteArray.empty]
        rw [List.take_add_one, List.getElem?_eq_getElem hlt]
        simp [List.getD, List.getElem?_eq_getElem hlt])
      generalize l.getD k ByteArray.empty = s at *
      clear hc0 hrow hway
      have ha1 : s.size + sepB.size ≤ 9223372036854775807 := by rw [sepB_size]; omega
      have ha2 : (pathB (l.take k)).size + (s ++ sepB).size ≤ 9223372036854775807 := by rw [hps, ByteArray.size_append, sepB_size]; omega
      generalize hpk : pathB (l.take k) = p at *
      have HP := Hid.out (p := Hid _) hpk
      clear hpk hps hmem
      have hr1 := fun w => run_string_add_sum (P := Tryd.prog) w s sepB ha1
      have hr2 := fun w => run_string_add_sum (P := Tryd.prog) w p (s ++ sepB) ha2
      unfold sepB at hr1 hr2
      clear ha1 ha2
      go_wp2
      go_round
      case rel => exact ⟨k + 1, by omega, by go_num, by rw [HS.out, pathB_snoc, HP.out]; rfl, trivial⟩
      case measure => simp [intOf]; omega
    · obtain rfl : k = l.length := by omega
      rw [List.take_length]
      have hnum := number_any _ l n _ (hg.below HB1.out) (HE.out.below HB1.out)
      have hps := pathB_size l
      generalize hpk : pathB l = p at *
      have HP := Hid.out (p := Hid _) hpk
      clear hpk
      have hns := numText_size n h0 h1
      clear hrow hway
      go_wp2_with (first
        | (go_at_call 15; (with_reducible refine hnum.mono ?_); rintro e w2 ⟨rfl, hb2⟩; have HB2 := Hid.out (p := Hid (Below W.heap.size W w2)) (HB1.out.trans (hb2.mono HB1.out.size)); have htx := errno_text n h0 h1 w2 (ht.below HB2.out); clear hb2)
        | (go_at_call 27; (with_reducible refine htx.mono ?_); rintro e w3 ⟨rfl, hb3⟩; have HB3 := Hid.out (p := Hid (Below W.heap.size W w3)) (HB2.out.trans (hb3.mono HB2.out.size)); clear hb3))
      go_ret
      refine ⟨?_, HB3.out⟩
      rw [← HP.out, pathB_ahead]
      rfl
end Go.Proofs.YtgoddepgdgdacaaDoor
