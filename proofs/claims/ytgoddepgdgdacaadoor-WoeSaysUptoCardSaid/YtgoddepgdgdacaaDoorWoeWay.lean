/-
  woe: a row of strings of the call's own; Way.
-/
import Derived.Test.YtgoddepgdgdacaaDoorWoeMade
import Derived.Test.YtgoddepgdgdacaaDoorAppend
namespace Go.Proofs.YtgoddepgdgdacaaDoor
set_option linter.unusedVariables false
set_option linter.unusedSimpArgs false
open Go.RowKit

def sv (l : List ByteArray) : List Value := l.map .string
theorem sv_get (l : List ByteArray) (i : Nat) (hi : i < l.length) : (sv l)[i]? = some (.string (l.getD i ByteArray.empty)) := by
  simp [sv, List.getD, List.getElem?_eq_getElem hi]
/-- A slice of strings that the call made. -/
def OwnS (w : World) (base : Nat) (v : Value) (l : List ByteArray) : Prop := w.ownsRow base 9 1 v l.length (sv l)
theorem OwnS.nil (w : World) (base : Nat) : OwnS w base (.slice none 0 0) [] := World.ownsRow_nil w base _ 1
theorem OwnS.form {w : World} {base : Nat} {v : Value} {l : List ByteArray} (h : OwnS w base v l) : ∃ a cap, v = .slice a l.length cap ∧ (l = [] ∨ ∃ b off, a = some ⟨b, off, none⟩ ∧ b < w.heap.size ∧ ∀ i, i < l.length → w.cell? ⟨b, off + i, none⟩ = some (.string (l.getD i ByteArray.empty))) := by
  obtain ⟨h1, h2⟩ := h
  rcases h2 with ⟨rfl, h0⟩ | ⟨g, cap, cur, rfl, hg, hh, hn, hcap, hsz, htake⟩
  · have : l = [] := List.length_eq_zero_iff.1 h0
    subst this
    exact ⟨none, 0, rfl, .inl rfl⟩
  · refine ⟨some ⟨g, 0, none⟩, cap, rfl, .inr ⟨g, 0, rfl, ?_, fun i hi => ?_⟩⟩
    · by_cases hb : g < w.heap.size
      · exact hb
      · rw [Array.getElem?_eq_none (by omega)] at hh; cases hh
    · have hc : w.cell? ⟨g, 0 + i, none⟩ = cur[0 + i]? := by unfold World.cell?; rw [hh]; simp
      rw [hc, Nat.zero_add]
      have : (cur.toList.take (l.length * 1))[i]? = (sv l)[i]? := by rw [htake]
      rw [sv_get l i hi] at this
      rw [List.getElem?_take] at this
      rw [if_pos (by omega)] at this
      simpa using this
theorem OwnS.grown {w w' : World} {base : Nat} {v : Value} {l : List ByteArray} {row : Option Nat} (h : OwnS w base v l) (hg : w.grownBy w' row) (hr : v.ownBlock ≠ row ∨ v.ownBlock = none) : OwnS w' base v l := by
  obtain ⟨h1, h2⟩ := h
  refine ⟨h1, ?_⟩
  rcases h2 with h2 | ⟨g, cap, cur, rfl, hg', hh, r⟩
  · exact .inl h2
  · refine .inr ⟨g, cap, cur, rfl, hg', ?_, r⟩
    have hlt : g < w.heap.size := by
      by_cases hb : g < w.heap.size
      · exact hb
      · rw [Array.getElem?_eq_none (by omega)] at hh; cases hh
    rw [hg.block g hlt (by rcases hr with hr | hr <;> simp_all [Value.ownBlock])]
    exact hh
theorem OwnS.below {w w' : World} {base : Nat} {v : Value} {l : List ByteArray} (h : OwnS w base v l) (hb : Below w.heap.size w w') : OwnS w' base v l :=
  h.grown (row := none) ⟨hb.os, hb.tape, hb.output, hb.size, fun k hk _ => hb.block k hk⟩ (by cases hv : v.ownBlock <;> simp)
theorem OwnS.base_le {w : World} {base : Nat} {v : Value} {l : List ByteArray} (h : OwnS w base v l) : ∀ k, v.ownBlock = some k → base ≤ k := by
  intro k hk
  rcases h.2 with ⟨rfl, _⟩ | ⟨g, cap, cur, rfl, hg, _⟩
  · simp [Value.ownBlock] at hk
  · simp [Value.ownBlock] at hk; omega

theorem OwnS.lt {w : World} {base : Nat} {v : Value} {l : List ByteArray} (h : OwnS w base v l) : ∀ k, v.ownBlock = some k → k < w.heap.size := by
  intro k hk
  rcases h.2 with ⟨rfl, _⟩ | ⟨g, cap, cur, rfl, hg, hh, _⟩
  · simp [Value.ownBlock] at hk
  · obtain rfl : g = k := by simpa [Value.ownBlock] using hk
    by_cases hb : g < w.heap.size
    · exact hb
    · rw [Array.getElem?_eq_none (by omega)] at hh; cases hh

theorem Tryd.infoS : (Tryd.prog.info? 9).map (fun i => (i.zero, i.size, i.bytes)) = some (some (.string ByteArray.empty), 1, 16) := by kernel_rfl
/-- append of one string, laid as a block of its own. -/
theorem wpList_str {ops : Array Oper} {rest : List Oper} {o : Oper} {a : Act} {w : World} {Q : Exit → Act → World → Prop} (hgd : o.guard = none) (s x : Operand)
    (ho : o.op = .call { callee := .builtin .append, args := #[s, x], argTypes := #[23, 23] })
    (base : Nat) (v : Value) (l : List ByteArray) (hv : a.eval s = v) (hown : OwnS w base v l) (g : Nat) (c : Nat) (m : ByteArray) (hx : a.eval x = .slice (some ⟨g, 0, none⟩) 1 c)
    (h0 : w.cell? ⟨g, 0, none⟩ = some (.string m))
    (hlen : (l.length + 1) * 16 ≤ 140737488355328) (hbase : base ≤ w.heap.size)
    (h : ∀ v' w', OwnS w' base v' (l ++ [m]) → Below base w w' → w.grownBy w' v.ownBlock → wpList Tryd.prog ops Q rest (a.put o.dst v') w') : wpList Tryd.prog ops Q (o :: rest) a w := by
  obtain ⟨i0, hi, hp⟩ := Option.map_eq_some_iff.1 Tryd.infoS
  simp only [Prod.mk.injEq] at hp
  obtain ⟨hz, hs, hby⟩ := hp
  refine wpList_append_src w hgd s x 23 ho base 9 i0 _ 1 16 Tryd.underlying23 hi hz hs hby rfl (by decide) v l.length (sv l) hv hown (some ⟨g, 0, none⟩) 1 c (sv [m]) hx ?_ (by simp) (by simp [sv, Value.oneCell'])
    (by unfold maxLen; omega) (by omega) hbase fun v' w' q2 q3 _ => ?_
  · refine ⟨by simp [sv], by simp, fun ad had j u hu => ?_⟩
    cases had
    match j, hu with
    | 0, hu => simp [sv] at hu; subst hu; exact h0
    | j + 1, hu => simp [sv] at hu
  · refine h v' w' ?_ ((Below.refl base w).grown q3 hbase hown.base_le) q3
    show w'.ownsRow base 9 1 v' (l ++ [m]).length (sv (l ++ [m]))
    rw [show sv (l ++ [m]) = sv l ++ sv [m] by simp [sv], List.length_append]
    exact q2

set_option maxHeartbeats 2000000 in
theorem way_nil (W : World) : Calls Tryd.prog 12 #[.nilIface] W fun ev w' => ev = .returned (.slice none 0 0) ∧ w' = W := by
  go_enter Tryd.func12, Tryd.ntmps12
  go_wp2
  refine wp_loop_rounds 1 ?_
  rw [rounds_succ]
  go_wp2
  go_ret
  exact ⟨rfl, rfl⟩

set_option maxHeartbeats 4000000 in
theorem way_any (e : Value) (l : List ByteArray) (n : Int) (W : World) (hg : HasET W) (h : IsErr W e l n) (hm : l.length * 16 ≤ 140737488355328) :
    Calls Tryd.prog 12 #[e] W fun ev w' => ∃ v, ev = .returned v ∧ OwnS w' W.heap.size v l ∧ Below W.heap.size W w' := by
  go_enter Tryd.func12, Tryd.ntmps12
  go_wp2
  go_loopg [0, 3] l.length (fun g x v wr => ∃ d r : List ByteArray, l = d ++ r ∧ g = r.length ∧ IsErr W x r n ∧ OwnS wr W.heap.size v d ∧ Below W.heap.size W wr)
  case atStart => exact ⟨[], l, rfl, rfl, h, OwnS.nil _ _, Below.refl _ _⟩
  case round =>
    obtain ⟨d, r, hdr, rfl, hr, hown, hb⟩ := hrel
    have h0 : W.heap.size ≤ wr.heap.size := hb.size
    have hgr := hg.below hb
    have hb1 : Below wr.heap.size wr (wr.alloc (.cells #[.pointer none] 29)) := (Below.refl _ _).alloc (Nat.le_refl _) _
    have HDR : Hid (l = d ++ r) := hdr
    have HB : Hid (Below W.heap.size W wr) := hb
    cases r with
    | nil =>
      obtain rfl : u0 = _ := hr
      have hc := as_bare n ⟨wr.heap.size, 0, none⟩ (.pointer none) (wr.alloc (.cells #[.pointer none] 29)) (hgr.below hb1) (by simp) (by simp)
      clear hdr hb
      go_wp2_with (go_at_call 11; refine hc.mono ?_; rintro e w' ⟨rfl, hb2⟩; have HB2 : Hid (Below wr.heap.size wr w') := hb1.trans (hb2.mono (by simp)); clear hb2)
      go_ret
      exact ⟨_, rfl, by rw [HDR.out, List.append_nil]; exact hown.below HB2.out, HB.out.trans (HB2.out.mono h0)⟩
    | cons s r =>
      obtain ⟨b, v, rfl, hs, hv, hr'⟩ := hr
      have hc := as_woe' b ⟨wr.heap.size, 0, none⟩ (.pointer none) (wr.alloc (.cells #[.pointer none] 29)) (hgr.below hb1) (by simp) (by simp)
      have hlen : Hid ((d.length + 1) * 16 ≤ 140737488355328) := by
        have : l.length = d.length + (r.length + 1) := by rw [hdr]; simp
        show _ ≤ _
        omega
      have hsb := cell_lt hs
      have hvb := cell_lt hv
      clear hdr hb
      obtain ⟨T, x, rfl⟩ := hr'.iface
      go_wp2_with (first
        | (go_at_call 11; refine hc.mono ?_; rintro e w' ⟨rfl, ha⟩; have hgot := ha.got; have HB2 : Hid (Below wr.heap.size wr w') := hb1.trans ha.rest; clear ha; have hs2 : w'.cell? ⟨b, 0, none⟩ = some (.string s) := by { rw [(HB.out.trans (HB2.out.mono h0)).cell hsb]; exact hs }; have hlt2 := cell_lt hgot; have hsz2 := HB2.out.size; have hown2 := hown.below HB2.out)
        | (at_builtin; refine wpList_str rfl (.tmp 11) (.tmp 16) rfl W.heap.size u3 d rfl (by exact hown2.below ((Below.refl _ _).alloc (Nat.le_refl _) _)) _ _ s rfl (by simp) (by exact hlen.out) (by simp; omega) ?_; intro v2 w2 ho2 hb2 hg2; have HB3 : Hid (Below W.heap.size W w2) := (((HB.out.trans (HB2.out.mono h0)).alloc (by omega) _).trans hb2); have ht2 : w2.cell? ⟨wr.heap.size, 0, none⟩ = some (.pointer (some ⟨b, 0, none⟩)) := by { rw [World.cell?_of_block (hg2.block wr.heap.size (by simp; omega) (by intro hq; have := hown.lt _ hq.symm; omega)), World.cell?_alloc_lt _ _ _ hlt2]; exact hgot }; have hv2 : w2.cell? ⟨b, 1, none⟩ = some (.iface T x) := by { rw [HB3.out.cell hvb]; exact hv }; clear hb2 hg2 hs2 hgot)
        | (go_at_call 13; refine (unwrap_any b _ _ hv2).mono ?_; rintro e w' ⟨rfl, rfl⟩))
      go_roundg r.length
      case rel => exact ⟨d ++ [s], r, by rw [HDR.out, List.append_assoc]; rfl, rfl, hr', ho2, HB3.out⟩
      case measure => simp
end Go.Proofs.YtgoddepgdgdacaaDoor
