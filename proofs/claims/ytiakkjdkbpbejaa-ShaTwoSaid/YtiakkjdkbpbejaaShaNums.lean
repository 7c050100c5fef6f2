/-
  sha: rows of uint64 that a call owns; append of one number.
-/
import Derived.Test.YtiakkjdkbpbejaaShaWords
import Derived.Test.YtiakkjdkbpbejaaAppend
import Derived.Deep.DrawnRows
namespace Go.Proofs.Ytiakkjdkbpbejaa
set_option linter.unusedVariables false
set_option linter.unusedSimpArgs false
open Go.RowKit

/-- A row of uint64 that the call owns: from base on; the value v holds l. -/
def OwnN (w : World) (base : Nat) (v : Value) (l : List Nat) : Prop := w.ownsRow base 36 1 v l.length (nv .u64 l).toList
theorem OwnN.nil (w : World) (base : Nat) : OwnN w base (.slice none 0 0) [] := World.ownsRow_nil w base _ 1
theorem OwnN.form {w : World} {base : Nat} {v : Value} {l : List Nat} (h : OwnN w base v l) : ∃ a cap, v = .slice a l.length cap ∧ l.length ≤ cap ∧ cap ≤ maxLen ∧
    (l = [] ∨ ∃ g, a = some ⟨g, 0, none⟩ ∧ base ≤ g ∧ g < w.heap.size ∧ ∀ i, i < l.length → w.cell? ⟨g, i, none⟩ = some (.int .u64 ((l.getD i 0 : Nat) : Int))) := by
  obtain ⟨h1, h2⟩ := h
  rcases h2 with ⟨rfl, h0⟩ | ⟨g, cap, cur, rfl, hg, hh, hn, hcap, hsz, htake⟩
  · have : l = [] := List.length_eq_zero_iff.1 h0
    subst this
    exact ⟨none, 0, rfl, by simp, by unfold maxLen; omega, .inl rfl⟩
  · refine ⟨some ⟨g, 0, none⟩, cap, rfl, hn, hcap, ?_⟩
    by_cases hl : l = []
    · exact .inl hl
    · refine .inr ⟨g, rfl, hg, ?_, fun i hi => ?_⟩
      · by_cases hb : g < w.heap.size
        · exact hb
        · rw [Array.getElem?_eq_none (by omega)] at hh; cases hh
      · have hc : w.cell? ⟨g, i, none⟩ = cur[i]? := by unfold World.cell?; rw [hh]; simp
        rw [hc]
        have : (cur.toList.take (l.length * 1))[i]? = (nv .u64 l).toList[i]? := by rw [htake]
        rw [List.getElem?_take, if_pos (by omega)] at this
        rw [← Array.getElem?_toList, this, Array.getElem?_toList, nv_get .u64 l i hi]
theorem OwnN.grown {w w' : World} {base : Nat} {v : Value} {l : List Nat} {row : Option Nat} (h : OwnN w base v l) (hg : w.grownBy w' row) (hr : v.ownBlock = none ∨ v.ownBlock ≠ row) : OwnN w' base v l := h.kept hg hr
theorem OwnN.alloc {w : World} {base : Nat} {v : Value} {l : List Nat} (h : OwnN w base v l) (o : Obj) : OwnN (w.alloc o) base v l := World.ownsRow.alloc h o
theorem OwnN.drew {w : World} {base : Nat} {v : Value} {l : List Nat} (h : OwnN w base v l) : OwnN w.drew base v l := h
theorem OwnN.base_le {w : World} {base : Nat} {v : Value} {l : List Nat} (h : OwnN w base v l) : ∀ k, v.ownBlock = some k → base ≤ k := fun k hk => (World.ownsRow.lt h k hk).1
theorem Try.info64 : (Try.prog.info? 36).map (fun i => (i.zero, i.size, i.bytes)) = some (some (.int .u64 0), 1, 8) := by kernel_rfl

/-- A world with one block more, whatever has been drawn. -/
structure Pushed (w W : World) (o : Obj) : Prop where
  heap : W.heap = w.heap.push o
  os : W.os = w.os
  tape : W.tape = w.tape
  output : W.output = w.output
theorem Pushed.below {w W : World} {o : Obj} (h : Pushed w W o) : Below w.heap.size w W :=
  ⟨h.os, h.tape, h.output, by rw [h.heap]; simp, fun k hk => by rw [h.heap, Array.getElem?_push, if_neg (by omega)]⟩
theorem Pushed.new {w W : World} {cs : Array Value} {t : TypeId} (h : Pushed w W (.cells cs t)) : IsBlk W w.heap.size cs t := by
  show W.heap[w.heap.size]? = _
  rw [h.heap]; simp
theorem Pushed.cell0 {w W : World} {x : Value} {t : TypeId} (h : Pushed w W (.cells #[x] t)) : W.cell? ⟨w.heap.size, 0, none⟩ = some x := h.new.cell 0 rfl
theorem OwnN.below {w w' : World} {base : Nat} {v : Value} {l : List Nat} (h : OwnN w base v l) (hb : Below w.heap.size w w') : OwnN w' base v l :=
  h.grown (row := none) ⟨hb.os, hb.tape, hb.output, hb.size, fun k hk _ => hb.block k hk⟩ (by cases hv : v.ownBlock <;> simp)

/-- Behind append the row lies where it lay, or nothing that was there has turned. -/
theorem append_where {P : Program} (w : World) (base : Nat) (t ty e : TypeId) (i : TypeInfo) (z : Value) (size bytes : Nat) (ht : P.underlying t = some (.slice e)) (hi : P.info? e = some i) (hz : i.zero = some z)
    (hsize : i.size = size) (hby : i.bytes = bytes) (hzs : z.cells.size = size) (hsz : 0 < size)
    (g n cap : Nat) (xs : List Value) (hown : w.ownsRow base e size (.slice (some ⟨g, 0, none⟩) n cap) n xs)
    (a : Addr) (m c : Nat) (news : List Value) (hl : news.length = m * size) (hnews : ∀ j u, news[j]? = some u → w.cell? (a.add j) = some u) (h1 : ∀ u ∈ news, u.oneCell' = true)
    (h63 : n + m ≤ maxLen) (hbytes : (n + m) * bytes ≤ 140737488355328) (v' : Value) (w' : World) (hr : (Builtin.append_ #[t, t] ty #[.slice (some ⟨g, 0, none⟩) n cap, .slice (some a) m c]).run P w = .ok v' w') :
    v'.ownBlock = some g ∨ w.grownBy w' none := by
  subst hsize
  subst hby
  rcases hown.2 with ⟨h0, _⟩ | ⟨g', cap', cur, h0, hbg, hg, hnc, hcm, hcs, htake⟩
  · cases h0
  · cases h0
    by_cases hroom : n + m ≤ cap
    · have hfit : n * i.size + news.length ≤ cur.size := by rw [hl, hcs, ← Nat.add_mul]; exact Nat.mul_le_mul_right _ hroom
      have hr2 := run_append_room (P := P) w t ty e i ht hi g n cap cur hg a m c news hl hnews h1 hroom hfit
      rw [hr] at hr2
      cases hr2
      exact .inl rfl
    · have hm : n + m ≤ 9223372036854775807 := by simp only [maxLen] at h63; omega
      have hr2 := run_append_grow (P := P) w t ty e i z ht hi hz ⟨g, 0, none⟩ n cap xs hown.1 (World.ownsRow.cells hown (g := g) rfl) a m c news hl hnews (by omega) (by omega) (growslice_fits (by omega) hbytes)
      rw [hr] at hr2
      cases hr2
      exact .inr ⟨rfl, rfl, rfl, by simp, fun k hk _ => Below.heap_alloc w.drew _ k hk⟩

/-- append of one number, at a step of a region that draws its order: the number lies in a block of its own. -/
theorem step_num {ops : Array Oper} {o : Oper} {a : Act} {w : World} {K : Act → World → Prop} {Q : Exit → Act → World → Prop} {E : Prop} (hgd : o.guard = none) (s x : Operand)
    (ho : o.op = .call { callee := .builtin .append, args := #[s, x], argTypes := #[37, 37] })
    (base : Nat) (v : Value) (l : List Nat) (hs : a.eval s = v) (hown : OwnN w base v l) (b c y : Nat) (hx : a.eval x = .slice (some ⟨b, 0, none⟩) 1 c) (hb : w.cell? ⟨b, 0, none⟩ = some (.int .u64 (y : Int)))
    (hlen : l.length + 1 ≤ 1000000) (hbase : base ≤ w.heap.size)
    (h : ∀ v' w', OwnN w' base v' (l ++ [y]) → Below base w w' → (∀ g i, v.ownBlock = some g → i < l.length → w'.cell? ⟨g, i, none⟩ = w.cell? ⟨g, i, none⟩) → K (a.put o.dst v') w') :
    if Region.wanted o (yielded ops a.tmps) = true then Oper.wp Try.prog o a w K Q else E := by
  obtain ⟨i0, hi, hz0, hz1, hz2⟩ := info_parts Try.info64
  have hnews : ∀ j u, [Value.int .u64 (y : Int)][j]? = some u → w.cell? ((⟨b, 0, none⟩ : Addr).add j) = some u := by
    intro j u hu
    have hj : j = 0 := by have := (List.getElem?_eq_some_iff.1 hu).1; simp at this; omega
    subst hj
    rw [Go.WideShapes.add_plain, ← hu]
    exact hb
  have hlen' : (nv .u64 l).toList.length = l.length := by simp [nv]
  obtain ⟨v', w', hrun, h2, h3, -, -⟩ := run_append_own_at (P := Try.prog) w base 37 o.type 36 i0 (.int .u64 0) 1 8 Try.underlying37 hi hz0 hz1 hz2 rfl (by decide) v l.length (nv .u64 l).toList hown ⟨b, 0, none⟩ 1 c [.int .u64 (y : Int)] rfl hnews (by simp [Value.oneCell']) (by unfold maxLen; omega) (by omega) hbase
  have e : (nv .u64 (l ++ [y])).toList = (nv .u64 l).toList ++ [.int .u64 (y : Int)] := by simp [nv]
  rw [if_pos (by simp [Region.wanted, hgd])]
  have hk : OwnN w' base v' (l ++ [y]) := by
    show w'.ownsRow base 36 1 v' (l ++ [y]).length (nv .u64 (l ++ [y])).toList
    rw [e, List.length_append]
    exact h2
  have hkeep : ∀ g i, v.ownBlock = some g → i < l.length → w'.cell? ⟨g, i, none⟩ = w.cell? ⟨g, i, none⟩ := by
    intro g i hg hi'
    rcases hown.2 with ⟨hv, _⟩ | ⟨g', cap', cur, hv, hbg, hg', hnc, hcm, hcs, htake⟩
    · rw [hv] at hg; simp [Value.ownBlock] at hg
    · have hgg : g' = g := by rw [hv] at hg; simpa [Value.ownBlock] using hg
      subst hgg
      have hown' := hown
      unfold OwnN at hown'
      rw [hv] at hown' hrun
      rcases append_where (P := Try.prog) w base 37 o.type 36 i0 (.int .u64 0) 1 8 Try.underlying37 hi hz0 hz1 hz2 rfl (by decide) g' l.length cap' (nv .u64 l).toList hown' ⟨b, 0, none⟩ 1 c [.int .u64 (y : Int)] rfl hnews (by simp [Value.oneCell']) (by unfold maxLen; omega) (by omega) v' w' hrun with hw | hw
      · have c1 := World.ownsRow.cells h2 hw i (.int .u64 ((l.getD i 0 : Nat) : Int)) (by rw [List.getElem?_append_left (by omega), Array.getElem?_toList, nv_get .u64 l i hi'])
        have c2 := World.ownsRow.cells hown' (g := g') rfl i (.int .u64 ((l.getD i 0 : Nat) : Int)) (by rw [Array.getElem?_toList, nv_get .u64 l i hi'])
        rw [Go.WideShapes.add_plain, Nat.zero_add] at c1 c2
        rw [c1, c2]
      · refine World.cell?_of_block (w := w) (hw.block g' ?_ (by simp))
        by_cases hb : g' < w.heap.size
        · exact hb
        · rw [Array.getElem?_eq_none (by omega)] at hg'; cases hg'
  unfold Oper.wp
  simp [execOp, ho, resolve, invoke, builtin, hs, hx, hrun, Result.andThen]
  exact h v' w' hk ((Below.refl base w).grown h3 hbase hown.base_le) hkeep
end Go.Proofs.Ytiakkjdkbpbejaa
