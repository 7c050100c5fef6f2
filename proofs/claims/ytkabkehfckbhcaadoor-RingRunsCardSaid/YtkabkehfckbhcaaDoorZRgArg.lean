/-
  ring: what the laws' arguments read as.
-/
import Derived.Test.YtkabkehfckbhcaaDoorZRgStands
namespace Go.Proofs.YtkabkehfckbhcaaDoor
set_option linter.unusedVariables false
set_option linter.unusedSimpArgs false
open Go.RowKit

theorem rd_intArray {P : Program} {w : World} {t e : TypeId} {n : Nat} {k : IntKind} {cs : List Value} {d : D} (h : Rd P w t cs d) (ht : P.underlying t = some (.array n e)) (he : P.underlying e = some (.int k)) (hce : P.cellsOf e = 1) (hct : P.cellsOf t = n) :
    ∃ zs : List Int, cs = zs.map (Value.int k) ∧ zs.length = n ∧ ∀ z ∈ zs, (Lit.int k z).wf = true := by
  obtain ⟨l, h1, h2, h3, h4⟩ := Rd.array_inv h ht
  rw [hct] at h2
  have key : ∀ i, i < n → ∃ z, cs[i]? = some (.int k z) ∧ (Lit.int k z).wf = true := by
    intro i hi
    obtain ⟨z, hz1, hz2, hz3⟩ := (h4 i l[i] (List.getElem?_eq_getElem (by omega))).int_inv he
    refine ⟨z, ?_, hz3⟩
    have : (((cs.drop (i * P.cellsOf e)).take (P.cellsOf e)))[0]? = some (.int k z) := by rw [hz1]; rfl
    rw [hce] at this
    simpa using this
  obtain ⟨zs, hzl, hzr⟩ := choose_list key
  refine ⟨zs, ?_, hzl, fun z hz => ?_⟩
  · apply List.ext_getElem?
    intro i
    by_cases hi : i < n
    · have hzi : zs[i]? = some zs[i] := List.getElem?_eq_getElem (by omega)
      rw [(hzr i _ hzi).1, List.getElem?_map, hzi]; rfl
    · rw [List.getElem?_eq_none (by omega), List.getElem?_eq_none (by simp; omega)]
  · obtain ⟨i, hi, rfl⟩ := List.mem_iff_getElem.1 hz
    exact (hzr i _ (List.getElem?_eq_getElem hi)).2
theorem nat_of_u64 {x : Int} (h : (Lit.int .u64 x).wf = true) : ∃ n : Nat, x = (n : Int) ∧ n < 18446744073709551616 := by
  simp only [Lit.wf, IntKind.min, IntKind.max, IntKind.signed, IntKind.bits, Bool.and_eq_true] at h
  exact ⟨x.toNat, by simp at h; omega, by simp at h; omega⟩
theorem i64_wf {x : Int} (h : (Lit.int .i64 x).wf = true) : -9223372036854775808 ≤ x ∧ x ≤ 9223372036854775807 := by
  simp only [Lit.wf, IntKind.min, IntKind.max, IntKind.signed, IntKind.bits, Bool.and_eq_true] at h
  simp at h
  omega
theorem nats_of {zs : List Int} (h : ∀ z ∈ zs, (Lit.int .u8 z).wf = true) : ∃ l : List Nat, zs = l.map (fun (c : Nat) => (c : Int)) ∧ ∀ c ∈ l, c < 256 := by
  induction zs with
  | nil => exact ⟨[], rfl, fun c hc => by cases hc⟩
  | cons z r ih =>
    obtain ⟨l, rfl, hl⟩ := ih (fun y hy => h y (List.mem_cons_of_mem _ hy))
    obtain ⟨n, rfl, hn⟩ := nat_of_u8 (h z (by simp))
    refine ⟨n :: l, rfl, fun c hc => ?_⟩
    rcases List.mem_cons.1 hc with rfl | hc
    · exact hn
    · exact hl c hc
set_option maxRecDepth 100000 in
/-- A mark that came in. -/
theorem RdV.mark {W : World} {v : Value} {d : D} (h : RdV Tryd.prog W 25 v d) : ∃ (place : Int) (num : Nat) (last : List Nat), v = markV place num last ∧ last.length = 32 ∧ (∀ c ∈ last, c < 256) ∧ num < 18446744073709551616 ∧ -9223372036854775808 ≤ place ∧ place ≤ 9223372036854775807 := by
  have hi : Tryd.prog.cellsOf 3 = 1 := by kernel_rfl
  have hu : Tryd.prog.cellsOf 22 = 1 := by kernel_rfl
  have h8 : Tryd.prog.cellsOf 5 = 1 := by kernel_rfl
  have h32 : Tryd.prog.cellsOf 23 = 32 := by kernel_rfl
  obtain ⟨cs, l, rfl, rfl, hr⟩ := h.struct Tryd.underlying25
  have hl : cs.toList.length = 34 := by
    obtain ⟨l, _, hc, _⟩ := hr.struct_inv Tryd.underlying25
    rw [hc]; kernel_rfl
  obtain ⟨d0, k0, w0⟩ := hr.field_int Tryd.underlying25 0 _ rfl Tryd.underlying3 hi
  obtain ⟨d1, k1, w1⟩ := hr.field_int Tryd.underlying25 1 _ rfl Tryd.underlying22 hu
  obtain ⟨d2, hd2⟩ := hr.field Tryd.underlying25 2 _ rfl
  obtain ⟨zs, hz1, hz2, hz3⟩ := rd_intArray hd2 Tryd.underlying23 Tryd.underlying5 h8 h32
  obtain ⟨num, rfl, hnum⟩ := nat_of_u64 w1
  obtain ⟨last, rfl, hlast⟩ := nats_of hz3
  have hp := i64_wf w0
  refine ⟨d0, num, last, ?_, by simpa using hz2, hlast, hnum, hp.1, hp.2⟩
  unfold markV
  congr 1
  have hcs : cs.toList = .int .i64 d0 :: .int .u64 (num : Int) :: bv last := by
    change List.take (Tryd.prog.cellsOf 23) (List.drop 2 cs.toList) = _ at hz1
    rw [h32] at hz1
    apply List.ext_getElem?
    intro i
    rcases i with _ | _ | i
    · exact k0
    · exact k1
    · rw [List.getElem?_cons_succ, List.getElem?_cons_succ]
      have := congrArg (fun l => l[i]?) hz1
      simp only [List.getElem?_take, List.getElem?_drop] at this
      by_cases hi : i < 32
      · rw [if_pos hi] at this
        rw [show i + 1 + 1 = 2 + i by omega]
        refine this.trans ?_
        unfold bv
        rw [List.map_map]
        rfl
      · rw [List.getElem?_eq_none (by omega), List.getElem?_eq_none (by rw [bv_length]; simp at hz2; omega)]
  rw [← hcs]
/-- Rows of integers that came in. -/
structure IsTup (k : Nat) (w : World) (a : Option Addr) (l : List (List Int)) : Prop where
  ok : ∀ z ∈ l, z.length = k ∧ ∀ y ∈ z, -9223372036854775808 ≤ y ∧ y ≤ 9223372036854775807
  at_ : l = [] ∨ ∃ b off, a = some ⟨b, off, none⟩ ∧ b < w.heap.size ∧ ∀ i z, l[i]? = some z → w.rangeAt b (off + i * k) (z.map (Value.int .i64))
theorem IsTup.below {k : Nat} {w w' : World} {a : Option Addr} {l : List (List Int)} (h : IsTup k w a l) (hb : Below w.heap.size w w') : IsTup k w' a l := by
  refine ⟨h.ok, h.at_.imp id ?_⟩
  rintro ⟨b, off, h1, h2, h3⟩
  exact ⟨b, off, h1, Nat.lt_of_lt_of_le h2 hb.size, fun i c hc j v hv => by rw [hb.cell (by exact h2)]; exact h3 i c hc j v hv⟩
theorem RdV.tup2 {w : World} {v : Value} {d : D} (h : RdV Tryd.prog w 26 v d) : ∃ a cap l, v = .slice a (List.length l) cap ∧ l.length ≤ cap ∧ l.length ≤ 35184372088832 ∧ IsTup 2 w a l := by
  have h4 : Tryd.prog.cellsOf 40 = 2 := by kernel_rfl
  have hi : Tryd.prog.cellsOf 3 = 1 := by kernel_rfl
  have hy : Tryd.prog.bytesOf 40 = 8 * 2 := by kernel_rfl
  obtain ⟨a, len, cap, rows, rfl, h1, h2, h3, h5, h6⟩ := h.rows Tryd.underlying26 (by rw [h4]; decide)
  rw [hy] at h3
  simp only [reachBytes] at h3
  have key : ∀ i, i < len → ∃ z : List Int, rows i = z.map (Value.int .i64) ∧ z.length = 2 ∧ ∀ y ∈ z, (Lit.int .i64 y).wf = true := fun i hl => by
    obtain ⟨d, hd⟩ := h6.rd i hl
    exact rd_intArray hd Tryd.underlying40 Tryd.underlying3 hi h4
  obtain ⟨l, hl, hr⟩ := choose_list (n := len) (R := fun i (z : List Int) => rows i = z.map (Value.int .i64) ∧ z.length = 2 ∧ ∀ y ∈ z, (Lit.int .i64 y).wf = true) key
  subst hl
  refine ⟨a, cap, l, rfl, h1, by omega, ⟨fun z hz => ?_, ?_⟩⟩
  · obtain ⟨i, hi, rfl⟩ := List.mem_iff_getElem.1 hz
    have := hr i _ (List.getElem?_eq_getElem hi)
    exact ⟨this.2.1, fun y hy => i64_wf (this.2.2 y hy)⟩
  · rcases h6.at_ with h0 | ⟨b, off, h7, h8, h9⟩
    · exact .inl (List.length_eq_zero_iff.1 h0)
    · right
      refine ⟨b, off, h7, h8 (by rw [h4]; decide), fun i z hz j v hv => ?_⟩
      have hil : i < l.length := (List.getElem?_eq_some_iff.1 hz).1
      have hrz := hr i z hz
      have hj : j < 2 := by
        have := (List.getElem?_eq_some_iff.1 hv).1
        rw [List.length_map, hrz.2.1] at this
        exact this
      have := h9 i hil j (by rw [h4]; exact hj)
      rw [h4, hrz.1, hv] at this
      rw [Nat.add_assoc]
      exact this
theorem RdV.tup3 {w : World} {v : Value} {d : D} (h : RdV Tryd.prog w 27 v d) : ∃ a cap l, v = .slice a (List.length l) cap ∧ l.length ≤ cap ∧ l.length ≤ 35184372088832 ∧ IsTup 3 w a l := by
  have h4 : Tryd.prog.cellsOf 51 = 3 := by kernel_rfl
  have hi : Tryd.prog.cellsOf 3 = 1 := by kernel_rfl
  have hy : Tryd.prog.bytesOf 51 = 8 * 3 := by kernel_rfl
  obtain ⟨a, len, cap, rows, rfl, h1, h2, h3, h5, h6⟩ := h.rows Tryd.underlying27 (by rw [h4]; decide)
  rw [hy] at h3
  simp only [reachBytes] at h3
  have key : ∀ i, i < len → ∃ z : List Int, rows i = z.map (Value.int .i64) ∧ z.length = 3 ∧ ∀ y ∈ z, (Lit.int .i64 y).wf = true := fun i hl => by
    obtain ⟨d, hd⟩ := h6.rd i hl
    exact rd_intArray hd Tryd.underlying51 Tryd.underlying3 hi h4
  obtain ⟨l, hl, hr⟩ := choose_list (n := len) (R := fun i (z : List Int) => rows i = z.map (Value.int .i64) ∧ z.length = 3 ∧ ∀ y ∈ z, (Lit.int .i64 y).wf = true) key
  subst hl
  refine ⟨a, cap, l, rfl, h1, by omega, ⟨fun z hz => ?_, ?_⟩⟩
  · obtain ⟨i, hi, rfl⟩ := List.mem_iff_getElem.1 hz
    have := hr i _ (List.getElem?_eq_getElem hi)
    exact ⟨this.2.1, fun y hy => i64_wf (this.2.2 y hy)⟩
  · rcases h6.at_ with h0 | ⟨b, off, h7, h8, h9⟩
    · exact .inl (List.length_eq_zero_iff.1 h0)
    · right
      refine ⟨b, off, h7, h8 (by rw [h4]; decide), fun i z hz j v hv => ?_⟩
      have hil : i < l.length := (List.getElem?_eq_some_iff.1 hz).1
      have hrz := hr i z hz
      have hj : j < 3 := by
        have := (List.getElem?_eq_some_iff.1 hv).1
        rw [List.length_map, hrz.2.1] at this
        exact this
      have := h9 i hil j (by rw [h4]; exact hj)
      rw [h4, hrz.1, hv] at this
      rw [Nat.add_assoc]
      exact this
theorem RdV.pair {W : World} {v : Value} {d : D} (h : RdV Tryd.prog W 40 v d) : ∃ x y : Int, v = .agg #[.int .i64 x, .int .i64 y] ∧ (-9223372036854775808 ≤ x ∧ x ≤ 9223372036854775807) ∧ -9223372036854775808 ≤ y ∧ y ≤ 9223372036854775807 := by
  obtain ⟨zs, rfl, _, hl, hw⟩ := h.intArray Tryd.underlying40 Tryd.underlying3 (by kernel_rfl) (by kernel_rfl)
  match zs, hl with
  | [x, y], _ => exact ⟨x, y, rfl, i64_wf (hw x (by simp)), i64_wf (hw y (by simp))⟩
end Go.Proofs.YtkabkehfckbhcaaDoor
