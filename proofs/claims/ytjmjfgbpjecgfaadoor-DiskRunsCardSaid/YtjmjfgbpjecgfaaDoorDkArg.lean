/-
  disk: how the calls read.
-/
import Derived.Test.YtjmjfgbpjecgfaaDoorDkD
import Derived.Test.YtjmjfgbpjecgfaaDoorRead3
namespace Go.Proofs.YtjmjfgbpjecgfaaDoor
set_option linter.unusedVariables false
set_option linter.unusedSimpArgs false
open Go.RowKit

/-- A call of a disk, read. -/
structure CallK where
  kd : Int
  i : Int
  c : Nat
  a : Option Addr
  pick : List Int
  pc : Nat
def CallK.cells (k : CallK) : List Value := [.int .i64 k.kd, .int .i64 k.i, .int .u8 (k.c : Int), .slice k.a k.pick.length k.pc]
structure CallK.ok (w : World) (k : CallK) : Prop where
  ints : IsInts .i64 w k.a k.pick
  len : k.pick.length ≤ 35184372088832
  byte : k.c < 256
  iw : (Lit.int .i64 k.i).wf = true
theorem get4 {α : Type} {l : List α} {x0 x1 x2 x3 : α} (hl : l.length = 4) (h0 : l[0]? = some x0) (h1 : l[1]? = some x1) (h2 : l[2]? = some x2) (h3 : l[3]? = some x3) : l = [x0, x1, x2, x3] := by
  match l, hl with
  | [a, b, c, d], _ => simp_all
theorem rd_callK {w : World} {cs : List Value} {d : D} (h : Rd Tryd.prog w 31 cs d) : ∃ K : CallK, cs = K.cells ∧ K.ok w := by
  have hi : Tryd.prog.cellsOf 3 = 1 := by kernel_rfl
  have hu : Tryd.prog.cellsOf 5 = 1 := by kernel_rfl
  have hs : Tryd.prog.cellsOf 29 = 1 := by kernel_rfl
  have hy : Tryd.prog.bytesOf 3 = 8 := by kernel_rfl
  have hl : cs.length = 4 := by
    obtain ⟨l, _, hc, _⟩ := h.struct_inv Tryd.underlying31
    rw [hc]; kernel_rfl
  obtain ⟨d0, k0, _⟩ := h.field_int Tryd.underlying31 0 _ rfl Tryd.underlying3 hi
  obtain ⟨d1, k1, w1⟩ := h.field_int Tryd.underlying31 1 _ rfl Tryd.underlying3 hi
  obtain ⟨d2, k2, w2⟩ := h.field_int Tryd.underlying31 2 _ rfl Tryd.underlying5 hu
  obtain ⟨a, len, cap, zs, k3, z1, z2, z3, z4, z5, z6⟩ := h.field_ints Tryd.underlying31 3 _ rfl Tryd.underlying29 Tryd.underlying3 hi hs
  rw [hy] at z4
  simp only [reachBytes] at z4
  obtain ⟨c, rfl, hc⟩ := nat_of_u8 w2
  refine ⟨⟨d0, d1, c, a, zs, cap⟩, ?_, z6, by show zs.length ≤ _; omega, hc, w1⟩
  rw [← z1] at k3
  exact get4 hl k0 k1 k2 k3

/-- The calls that came in. -/
structure IsCalls (w : World) (a : Option Addr) (l : List CallK) : Prop where
  ok : ∀ K ∈ l, K.ok w
  at_ : l = [] ∨ ∃ b off, a = some ⟨b, off, none⟩ ∧ b < w.heap.size ∧ ∀ i K, l[i]? = some K → w.rangeAt b (off + i * 4) K.cells
theorem RdV.callsK {w : World} {v : Value} {d : D} (h : RdV Tryd.prog w 22 v d) : ∃ a cap l, v = .slice a (List.length l) cap ∧ l.length ≤ cap ∧ l.length ≤ 35184372088832 ∧ IsCalls w a l := by
  have h4 : Tryd.prog.cellsOf 31 = 4 := by kernel_rfl
  have hy : Tryd.prog.bytesOf 31 = 48 := by kernel_rfl
  obtain ⟨a, len, cap, rows, rfl, h1, h2, h3, h5, h6⟩ := h.rows Tryd.underlying22 (by rw [h4]; decide)
  rw [hy] at h3
  simp only [reachBytes] at h3
  have key : ∀ i, i < len → ∃ K : CallK, rows i = K.cells ∧ K.ok w := fun i hi => by
    obtain ⟨d, hd⟩ := h6.rd i hi
    exact rd_callK hd
  obtain ⟨l, hl, hr⟩ := choose_list (n := len) (R := fun i (K : CallK) => rows i = K.cells ∧ K.ok w) key
  subst hl
  refine ⟨a, cap, l, rfl, h1, by omega, ⟨fun K hK => ?_, ?_⟩⟩
  · obtain ⟨i, hi, rfl⟩ := List.mem_iff_getElem.1 hK
    exact (hr i _ (List.getElem?_eq_getElem hi)).2
  · rcases h6.at_ with h0 | ⟨b, off, h7, h8, h9⟩
    · exact .inl (List.length_eq_zero_iff.1 h0)
    · right
      refine ⟨b, off, h7, h8 (by rw [h4]; decide), fun i K hK j v hv => ?_⟩
      have hi : i < l.length := (List.getElem?_eq_some_iff.1 hK).1
      have hj : j < 4 := by
        have := (List.getElem?_eq_some_iff.1 hv).1
        simpa [CallK.cells] using this
      have := h9 i hi j (by rw [h4]; exact hj)
      rw [h4, (hr i K hK).1, hv] at this
      rw [Nat.add_assoc]
      exact this
theorem CallK.ok.below {w w' : World} {K : CallK} (h : K.ok w) (hb : Below w.heap.size w w') : K.ok w' := by
  refine ⟨⟨h.ints.1, ?_⟩, h.len, h.byte, h.iw⟩
  rcases h.ints.2 with h0 | ⟨b, off, h1, h2, h3⟩
  · exact .inl h0
  · exact .inr ⟨b, off, h1, Nat.lt_of_lt_of_le h2 hb.size, fun i hi => by rw [hb.cell (by exact h2)]; exact h3 i hi⟩
theorem IsCalls.below {w w' : World} {a : Option Addr} {l : List CallK} (h : IsCalls w a l) (hb : Below w.heap.size w w') : IsCalls w' a l := by
  refine ⟨fun K hK => (h.ok K hK).below hb, ?_⟩
  rcases h.at_ with h0 | ⟨b, off, h1, h2, h3⟩
  · exact .inl h0
  · exact .inr ⟨b, off, h1, Nat.lt_of_lt_of_le h2 hb.size, fun i K hK j v hv => by rw [hb.cell (by exact h2)]; exact h3 i K hK j v hv⟩
theorem IsInts.below_ {w w' : World} {k : IntKind} {a : Option Addr} {l : List Int} (h : IsInts k w a l) (hb : Below w.heap.size w w') : IsInts k w' a l := by
  refine ⟨h.1, ?_⟩
  rcases h.2 with h0 | ⟨b, off, h1, h2, h3⟩
  · exact .inl h0
  · exact .inr ⟨b, off, h1, Nat.lt_of_lt_of_le h2 hb.size, fun i hi => by rw [hb.cell (by exact h2)]; exact h3 i hi⟩
end Go.Proofs.YtjmjfgbpjecgfaaDoor
