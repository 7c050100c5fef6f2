/-
  Rows of bytes: as they came in, and of the call's own; append at a step and at a list of operations.
-/
import Derived.Test.YtjmjfgbpjecgfaaDoorRows
import Derived.Test.YtjmjfgbpjecgfaaDoorRead3
import Derived.Test.YtjmjfgbpjecgfaaDoorAppend
import Derived.Deep.RegionLaw
import Derived.Deep.DrawnRows
import Derived.Lib.Hide
namespace Go.Proofs.YtjmjfgbpjecgfaaDoor
set_option linter.unusedVariables false
set_option linter.unusedSimpArgs false
set_option linter.unnecessarySimpa false
open Go.RowKit

/-- The slice that begins at 'a' reads as the bytes l. -/
def IsBytes (w : World) (a : Option Addr) (l : List Nat) : Prop :=
  (∀ c ∈ l, c < 256) ∧ (l = [] ∨ ∃ b off, a = some ⟨b, off, none⟩ ∧ ∀ i, i < l.length → w.cell? ⟨b, off + i, none⟩ = some (.int .u8 (l.getD i 0 : Nat)))

theorem cell?_some_lt {w : World} {p : Addr} {v : Value} (h : w.cell? p = some v) : p.block < w.heap.size := by
  unfold World.cell? at h
  by_cases hb : p.block < w.heap.size
  · exact hb
  · rw [Array.getElem?_eq_none (by omega)] at h
    simp at h
theorem IsBytes.alloc {w : World} {a : Option Addr} {l : List Nat} (h : IsBytes w a l) (o : Obj) : IsBytes (w.alloc o) a l := by
  refine ⟨h.1, h.2.imp id ?_⟩
  rintro ⟨b, off, rfl, hc⟩
  refine ⟨b, off, rfl, fun i hi => ?_⟩
  have := hc i hi
  rw [World.cell?_alloc_lt w o _ (cell?_some_lt this)]
  exact this
theorem nat_of_u32 {x : Int} (h : (Lit.int .u32 x).wf = true) : ∃ n : Nat, x = (n : Int) ∧ n < 4294967296 := by
  simp only [Lit.wf, IntKind.min, IntKind.max, IntKind.signed, IntKind.bits, Bool.and_eq_true] at h
  exact ⟨x.toNat, by simp at h; omega, by simp at h; omega⟩
theorem nat_of_u8 {x : Int} (h : (Lit.int .u8 x).wf = true) : ∃ n : Nat, x = (n : Int) ∧ n < 256 := by
  simp only [Lit.wf, IntKind.min, IntKind.max, IntKind.signed, IntKind.bits, Bool.and_eq_true] at h
  exact ⟨x.toNat, by simp at h; omega, by simp at h; omega⟩

/-- A row of bytes as it came in, told in natural numbers. -/
theorem IsInts.bytes {w : World} {a : Option Addr} {zs : List Int} (h : IsInts .u8 w a zs) : ∃ l : List Nat, l.length = zs.length ∧ IsBytes w a l ∧ ∀ x, a = some x → l ≠ [] → x.block < w.heap.size := by
  refine ⟨zs.map Int.toNat, by simp, ⟨?_, ?_⟩, ?_⟩
  · intro c hc
    obtain ⟨z, hz, rfl⟩ := List.mem_map.1 hc
    obtain ⟨n, rfl, hn⟩ := nat_of_u8 (h.1 z hz)
    simpa using hn
  · rcases h.2 with rfl | ⟨b, off, rfl, _, hc⟩
    · exact .inl rfl
    · refine .inr ⟨b, off, rfl, fun i hi => ?_⟩
      simp only [List.length_map] at hi
      rw [hc i hi]
      have hz : zs[i] ∈ zs := List.getElem_mem hi
      obtain ⟨n, hn, _⟩ := nat_of_u8 (h.1 _ hz)
      simp [List.getD, hi, hn]
  · rintro x rfl hne
    rcases h.2 with rfl | ⟨b, off, he, hb, _⟩
    · exact absurd rfl hne
    · cases he; exact hb

theorem IsBytes.of_below {w w' : World} {a : Option Addr} {l : List Nat} (h : IsBytes w a l) (hb : Below w.heap.size w w') : IsBytes w' a l := by
  refine ⟨h.1, h.2.imp id ?_⟩
  rintro ⟨b, off, rfl, hc⟩
  exact ⟨b, off, rfl, fun i hi => (hb.cell (p := ⟨b, off + i, none⟩) (cell?_some_lt (hc i hi))).trans (hc i hi)⟩

/-- Bytes as values. -/
def bv (l : List Nat) : List Value := l.map fun (c : Nat) => Value.int .u8 (c : Int)
theorem bv_append (l m : List Nat) : bv (l ++ m) = bv l ++ bv m := by simp [bv]
theorem bv_length (l : List Nat) : (bv l).length = l.length := by simp [bv]
theorem bv_one (l : List Nat) : ∀ u ∈ bv l, u.oneCell' = true := by
  intro u hu
  obtain ⟨_, _, rfl⟩ := List.mem_map.1 hu
  rfl
theorem bv_get (l : List Nat) (i : Nat) (h : i < l.length) : (bv l)[i]? = some (.int .u8 ((l.getD i 0 : Nat) : Int)) := by
  simp [bv, List.getD, h]

theorem Tryd.info8 : (Tryd.prog.info? 5).map (fun i => (i.zero, i.size, i.bytes)) = some (some (.int .u8 0), 1, 1) := by kernel_rfl

/-- A row of bytes that the call owns: from base on; the value v holds l. -/
def Own (w : World) (base : Nat) (v : Value) (l : List Nat) : Prop := w.ownsRow base 5 1 v l.length (bv l) ∧ ∀ c ∈ l, c < 256

theorem Own.nil (w : World) (base : Nat) : Own w base (.slice none 0 0) [] := ⟨World.ownsRow_nil w base _ 1, by simp⟩
theorem Own.form {w : World} {base : Nat} {v : Value} {l : List Nat} (h : Own w base v l) : ∃ a cap, v = .slice a l.length cap ∧ IsBytes w a l ∧ l.length ≤ cap ∧ cap ≤ maxLen ∧ (∀ x, a = some x → base ≤ x.block ∧ x.block < w.heap.size) := by
  obtain ⟨⟨h1, h2⟩, h3⟩ := h
  rcases h2 with ⟨rfl, h0⟩ | ⟨g, cap, cur, rfl, hg, hh, hn, hcap, hsz, htake⟩
  · have : l = [] := List.length_eq_zero_iff.1 h0
    subst this
    exact ⟨none, 0, rfl, ⟨by simp, .inl rfl⟩, by simp, by unfold maxLen; omega, by simp⟩
  · refine ⟨some ⟨g, 0, none⟩, cap, rfl, ⟨h3, ?_⟩, hn, hcap, ?_⟩
    · by_cases hl : l = []
      · exact .inl hl
      · refine .inr ⟨g, 0, rfl, fun i hi => ?_⟩
        have hc : w.cell? ⟨g, 0 + i, none⟩ = cur[0 + i]? := by unfold World.cell?; rw [hh]; simp
        rw [hc, Nat.zero_add]
        have : (cur.toList.take (l.length * 1))[i]? = (bv l)[i]? := by rw [htake]
        rw [bv_get l i hi] at this
        rw [List.getElem?_take] at this
        rw [if_pos (by omega)] at this
        simpa using this
    · intro x hx
      cases hx
      refine ⟨hg, ?_⟩
      by_cases hb : g < w.heap.size
      · exact hb
      · rw [Array.getElem?_eq_none (by omega)] at hh; cases hh
theorem Own.block {w : World} {base : Nat} {v : Value} {l : List Nat} (h : Own w base v l) (hne : l ≠ []) : ∃ g cap, v = .slice (some ⟨g, 0, none⟩) l.length cap ∧ IsBytes w (some ⟨g, 0, none⟩) l ∧ (∀ i, w.frozen? ⟨g, i, none⟩ = false) ∧ base ≤ g ∧ g < w.heap.size ∧ l.length ≤ cap ∧ cap ≤ maxLen := by
  obtain ⟨a, cap, rfl, hb, hc, hm, hx⟩ := h.form
  obtain ⟨b, off, rfl, hcs⟩ := hb.2.resolve_left hne
  obtain ⟨⟨h1, h2⟩, h3⟩ := h
  rcases h2 with ⟨h2, _⟩ | ⟨g, cap', cur, h2, hg, hh, hn, hcap, hsz, htake⟩
  · cases h2
  · cases h2
    exact ⟨b, cap, rfl, hb, fun i => by unfold World.frozen?; rw [hh]; simp, hg, (hx _ rfl).2, hc, hm⟩
theorem Own.grown {w w' : World} {base : Nat} {v : Value} {l : List Nat} {row : Option Nat} (h : Own w base v l) (hg : w.grownBy w' row) (hr : v.ownBlock ≠ row ∨ v.ownBlock = none) : Own w' base v l := by
  obtain ⟨⟨h1, h2⟩, h3⟩ := h
  refine ⟨⟨h1, ?_⟩, h3⟩
  rcases h2 with h2 | ⟨g, cap, cur, rfl, hg', hh, r⟩
  · exact .inl h2
  · refine .inr ⟨g, cap, cur, rfl, hg', ?_, r⟩
    have hlt : g < w.heap.size := by
      by_cases hb : g < w.heap.size
      · exact hb
      · rw [Array.getElem?_eq_none (by omega)] at hh; cases hh
    rw [hg.block g hlt (by rcases hr with hr | hr <;> simp_all [Value.ownBlock])]
    exact hh
theorem Own.below {w w' : World} {base : Nat} {v : Value} {l : List Nat} (h : Own w base v l) (hb : Below w.heap.size w w') : Own w' base v l :=
  h.grown (row := none) ⟨hb.os, hb.tape, hb.output, hb.size, fun k hk _ => hb.block k hk⟩ (by cases hv : v.ownBlock <;> simp)
theorem Own.drew {w : World} {base : Nat} {v : Value} {l : List Nat} (h : Own w base v l) : Own w.drew base v l := h
theorem Own.alloc {w : World} {base : Nat} {v : Value} {l : List Nat} (h : Own w base v l) (o : Obj) : Own (w.alloc o) base v l := h.below ((Below.refl _ _).alloc (Nat.le_refl _) o)

theorem src_of_bytes {w : World} {a : Option Addr} {l : List Nat} (h : IsBytes w a l) : Src w 1 a l.length (bv l) := by
  refine ⟨by simp [bv_length], fun ha => ?_, fun ad had j u hu => ?_⟩
  · rcases h.2 with rfl | ⟨b, off, he, _⟩
    · rfl
    · rw [ha] at he; cases he
  · have hj : j < l.length := by
      have := (List.getElem?_eq_some_iff.1 hu).1
      simpa [bv_length] using this
    rcases h.2 with rfl | ⟨b, off, he, hc⟩
    · simp at hj
    · rw [had] at he
      cases he
      rw [Go.WideShapes.add_plain, hc j hj, ← hu, bv_get l j hj]

theorem grown_below {w w' : World} {B : Nat} {row : Option Nat} (hg : w.grownBy w' row) (hB : B ≤ w.heap.size) (hr : ∀ k, row = some k → B ≤ k) : Below B w w' := (Below.refl B w).grown hg hB hr
theorem Own.base_le {w : World} {base : Nat} {v : Value} {l : List Nat} (h : Own w base v l) : ∀ k, v.ownBlock = some k → base ≤ k := by
  intro k hk
  rcases h.1.2 with ⟨rfl, _⟩ | ⟨g, cap, cur, rfl, hg, _⟩
  · simp [Value.ownBlock] at hk
  · simp [Value.ownBlock] at hk; omega

theorem IsBytes.of_below_drew {w w' : World} {a : Option Addr} {l : List Nat} (h : IsBytes w a l) (hb : Below w.heap.size w.drew w') : IsBytes w' a l :=
  IsBytes.of_below (w := w.drew) h hb

/-- append, at a step of a region that draws its order. -/
theorem step_app {ops : Array Oper} {o : Oper} {a : Act} {w : World} {K : Act → World → Prop} {Q : Exit → Act → World → Prop} {E : Prop} (hgd : o.guard = none) (s x : Operand)
    (ho : o.op = .call { callee := .builtin .append, args := #[s, x], argTypes := #[58, 58] })
    (base : Nat) (v : Value) (l : List Nat) (hs : a.eval s = v) (hown : Own w base v l) (A : Option Addr) (c : Nat) (m : List Nat) (hx : a.eval x = .slice A m.length c) (hsrc : IsBytes w A m) (hc0 : A = none → c = 0)
    (hlen : l.length + m.length ≤ 140737488355328) (hbase : base ≤ w.heap.size)
    (h : ∀ v' w', Own w' base v' (l ++ m) → Below base w w' → w.grownBy w' v.ownBlock → K (a.put o.dst v') w') :
    if Region.wanted o (yielded ops a.tmps) = true then Oper.wp Tryd.prog o a w K Q else E := by
  obtain ⟨i0, hi, hz0, hz1, hz2⟩ := info_parts Tryd.info8
  refine step_append_src w hgd s x 58 ho base 5 i0 (.int .u8 0) 1 1 Tryd.underlying58 hi hz0 hz1 hz2 rfl (by decide) v l.length (bv l) hs hown.1 A m.length c (bv m) hx (src_of_bytes hsrc) hc0 (bv_one m)
    (by unfold maxLen; omega) (by omega) hbase fun v' w' h2 h3 _ => ?_
  refine h v' w' ⟨by rw [bv_append, List.length_append]; exact h2, ?_⟩ ((Below.refl base w).grown h3 hbase hown.base_le) h3
  intro c hc
  rcases List.mem_append.1 hc with hc | hc
  · exact hown.2 c hc
  · exact hsrc.1 c hc

/-- append, at a list of operations. -/
theorem wpList_app {ops : Array Oper} {rest : List Oper} {o : Oper} {a : Act} {w : World} {Q : Exit → Act → World → Prop} (hgd : o.guard = none) (s x : Operand)
    (ho : o.op = .call { callee := .builtin .append, args := #[s, x], argTypes := #[58, 58] })
    (base : Nat) (v : Value) (l : List Nat) (hs : a.eval s = v) (hown : Own w base v l) (A : Option Addr) (c : Nat) (m : List Nat) (hx : a.eval x = .slice A m.length c) (hsrc : IsBytes w A m) (hc0 : A = none → c = 0)
    (hlen : l.length + m.length ≤ 140737488355328) (hbase : base ≤ w.heap.size)
    (h : ∀ v' w', Own w' base v' (l ++ m) → Below base w w' → w.grownBy w' v.ownBlock → (v'.ownBlock = v.ownBlock ∨ v'.ownBlock = some w.heap.size) → wpList Tryd.prog ops Q rest (a.put o.dst v') w') :
    wpList Tryd.prog ops Q (o :: rest) a w := by
  obtain ⟨i0, hi, hz0, hz1, hz2⟩ := info_parts Tryd.info8
  refine wpList_append_src w hgd s x 58 ho base 5 i0 (.int .u8 0) 1 1 Tryd.underlying58 hi hz0 hz1 hz2 rfl (by decide) v l.length (bv l) hs hown.1 A m.length c (bv m) hx (src_of_bytes hsrc) hc0 (bv_one m)
    (by unfold maxLen; omega) (by omega) hbase fun v' w' h2 h3 h4 => ?_
  refine h v' w' ⟨by rw [bv_append, List.length_append]; exact h2, ?_⟩ ((Below.refl base w).grown h3 hbase hown.base_le) h3 h4
  intro c hc
  rcases List.mem_append.1 hc with hc | hc
  · exact hown.2 c hc
  · exact hsrc.1 c hc

/-- The same, the source's length spelled otherwise. -/
theorem wpList_app' {ops : Array Oper} {rest : List Oper} {o : Oper} {a : Act} {w : World} {Q : Exit → Act → World → Prop} (hgd : o.guard = none) (s x : Operand)
    (ho : o.op = .call { callee := .builtin .append, args := #[s, x], argTypes := #[58, 58] })
    (base : Nat) (v : Value) (l : List Nat) (hs : a.eval s = v) (hown : Own w base v l) (A : Option Addr) (k c : Nat) (m : List Nat) (hx : a.eval x = .slice A k c) (hk : k = m.length) (hsrc : IsBytes w A m) (hc0 : A = none → c = 0)
    (hlen : l.length + m.length ≤ 140737488355328) (hbase : base ≤ w.heap.size)
    (h : ∀ v' w', Own w' base v' (l ++ m) → Below base w w' → w.grownBy w' v.ownBlock → (v'.ownBlock = v.ownBlock ∨ v'.ownBlock = some w.heap.size) → wpList Tryd.prog ops Q rest (a.put o.dst v') w') :
    wpList Tryd.prog ops Q (o :: rest) a w := by
  subst hk
  exact wpList_app hgd s x ho base v l hs hown A c m hx hsrc hc0 hlen hbase h

theorem step_app' {ops : Array Oper} {o : Oper} {a : Act} {w : World} {K : Act → World → Prop} {Q : Exit → Act → World → Prop} {E : Prop} (hgd : o.guard = none) (s x : Operand)
    (ho : o.op = .call { callee := .builtin .append, args := #[s, x], argTypes := #[58, 58] })
    (base : Nat) (v : Value) (l : List Nat) (hs : a.eval s = v) (hown : Own w base v l) (A : Option Addr) (k c : Nat) (m : List Nat) (hx : a.eval x = .slice A k c) (hk : k = m.length) (hsrc : IsBytes w A m) (hc0 : A = none → c = 0)
    (hlen : l.length + m.length ≤ 140737488355328) (hbase : base ≤ w.heap.size)
    (h : ∀ v' w', Own w' base v' (l ++ m) → Below base w w' → w.grownBy w' v.ownBlock → K (a.put o.dst v') w') :
    if Region.wanted o (yielded ops a.tmps) = true then Oper.wp Tryd.prog o a w K Q else E := by
  subst hk
  exact step_app hgd s x ho base v l hs hown A c m hx hsrc hc0 hlen hbase h

end Go.Proofs.YtjmjfgbpjecgfaaDoor
