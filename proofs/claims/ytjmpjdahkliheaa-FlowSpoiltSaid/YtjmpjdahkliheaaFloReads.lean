/-
  flow: how the arguments read.
-/
import Derived.Test.YtjmpjdahkliheaaFloLight
namespace Go.Proofs.Ytjmpjdahkliheaa
set_option linter.unusedVariables false
set_option linter.unusedSimpArgs false
open Go.RowKit

theorem get8 {α : Type} {l : List α} {x0 x1 x2 x3 x4 x5 x6 x7 : α} (hl : l.length = 8) (h0 : l[0]? = some x0) (h1 : l[1]? = some x1) (h2 : l[2]? = some x2) (h3 : l[3]? = some x3) (h4 : l[4]? = some x4) (h5 : l[5]? = some x5) (h6 : l[6]? = some x6) (h7 : l[7]? = some x7) : l = [x0, x1, x2, x3, x4, x5, x6, x7] := by
  match l, hl with
  | [a, b, c, d, e, f, g, i], _ => simp_all
theorem i64_bd {x : Int} (h : (Lit.int .i64 x).wf = true) : -9223372036854775808 ≤ x ∧ x < 9223372036854775808 := by
  simp only [Lit.wf, IntKind.min, IntKind.max, IntKind.signed, IntKind.bits, Bool.and_eq_true] at h
  simp at h
  omega

/-- A deal's cells. -/
theorem rd_deal {w : World} {cs : List Value} {d : D} (h : Rd Try.prog w 32 cs d) : ∃ (d0 d3 burst first : Int) (d1 d2 ready tog : Bool), cs = [.int .i64 d0, .bool d1, .bool d2, .int .i64 d3, .int .i64 burst, .int .i64 first, .bool ready, .bool tog] := by
  have hi : Try.prog.cellsOf 3 = 1 := by kernel_rfl
  have hb : Try.prog.cellsOf 4 = 1 := by kernel_rfl
  have hl : cs.length = 8 := by
    obtain ⟨l, _, hc, _⟩ := h.struct_inv Try.underlying32
    rw [hc]; kernel_rfl
  obtain ⟨d0, k0, _⟩ := h.field_int Try.underlying32 0 _ rfl Try.underlying3 hi
  obtain ⟨d1, k1⟩ := h.field_bool Try.underlying32 1 _ rfl Try.underlying4 hb
  obtain ⟨d2, k2⟩ := h.field_bool Try.underlying32 2 _ rfl Try.underlying4 hb
  obtain ⟨d3, k3, _⟩ := h.field_int Try.underlying32 3 _ rfl Try.underlying3 hi
  obtain ⟨d4, k4, _⟩ := h.field_int Try.underlying32 4 _ rfl Try.underlying3 hi
  obtain ⟨d5, k5, _⟩ := h.field_int Try.underlying32 5 _ rfl Try.underlying3 hi
  obtain ⟨d6, k6⟩ := h.field_bool Try.underlying32 6 _ rfl Try.underlying4 hb
  obtain ⟨d7, k7⟩ := h.field_bool Try.underlying32 7 _ rfl Try.underlying4 hb
  exact ⟨d0, d3, d4, d5, d1, d2, d6, d7, get8 hl k0 k1 k2 k3 k4 k5 k6 k7⟩
theorem get5 {α : Type} {l : List α} {x0 x1 x2 x3 x4 : α} (hl : l.length = 5) (h0 : l[0]? = some x0) (h1 : l[1]? = some x1) (h2 : l[2]? = some x2) (h3 : l[3]? = some x3) (h4 : l[4]? = some x4) : l = [x0, x1, x2, x3, x4] := by
  match l, hl with
  | [a, b, c, d, e], _ => simp_all

/-- A call's cells. -/
theorem rd_call {w : World} {cs : List Value} {d : D} (h : Rd Try.prog w 46 cs d) : ∃ K : CallD, cs = [.int .i64 K.kd, .int .u32 K.sn, .int .i64 K.at_, .slice K.A K.m.length K.c, .bool K.fin] ∧
    IsBytes w K.A K.m ∧ (K.A = none → K.c = 0) ∧ K.m.length ≤ 140737488355328 ∧ (∀ x, K.A = some x → K.m ≠ [] → x.block < w.heap.size) := by
  have hi : Try.prog.cellsOf 3 = 1 := by kernel_rfl
  have hu : Try.prog.cellsOf 44 = 1 := by kernel_rfl
  have hb : Try.prog.cellsOf 4 = 1 := by kernel_rfl
  have hs : Try.prog.cellsOf 33 = 1 := by kernel_rfl
  have h8 : Try.prog.cellsOf 5 = 1 := by kernel_rfl
  have hy : Try.prog.bytesOf 5 = 1 := by kernel_rfl
  have hl : cs.length = 5 := by
    obtain ⟨l, _, hc, _⟩ := h.struct_inv Try.underlying46
    rw [hc]; kernel_rfl
  obtain ⟨d0, k0, _⟩ := h.field_int Try.underlying46 0 _ rfl Try.underlying3 hi
  obtain ⟨d1, k1, _⟩ := h.field_int Try.underlying46 1 _ rfl Try.underlying44 hu
  obtain ⟨d2, k2, _⟩ := h.field_int Try.underlying46 2 _ rfl Try.underlying3 hi
  obtain ⟨a, len, cap, zs, k3, z1, z2, z3, z4, z5, z6⟩ := h.field_ints Try.underlying46 3 _ rfl Try.underlying33 Try.underlying5 h8 hs
  obtain ⟨d4, k4⟩ := h.field_bool Try.underlying46 4 _ rfl Try.underlying4 hb
  obtain ⟨l, hl1, hl2, hl3⟩ := z6.bytes
  rw [hy] at z4
  simp only [reachBytes] at z4
  refine ⟨⟨d0, d1, d2, a, l, cap, d4⟩, ?_, hl2, z5, by simp; omega, hl3⟩
  have he : l.length = len := by omega
  rw [he]
  exact get5 hl k0 k1 k2 k3 k4
theorem rd_calls {W : World} {v : Value} {d : D} (r : RdV Try.prog W 36 v d) : ∃ a len cap K, v = .slice a len cap ∧ IsCalls W a len K ∧ len ≤ 140737488355328 ∧ (a = none → cap = 0) ∧ len ≤ cap ∧ cap ≤ maxLen := by
  have hce : Try.prog.cellsOf 46 = 5 := by kernel_rfl
  have hby : Try.prog.bytesOf 46 = 56 := by kernel_rfl
  obtain ⟨a, len, cap, rows, rfl, h1, h2, h3, h4, hlen, hrd, hat⟩ := r.rows Try.underlying36 (by rw [hce]; decide)
  rw [hce] at hlen hat
  rw [hby] at h3
  simp only [reachBytes] at h3
  have hK : ∀ i, ∃ K : CallD, i < len → rows i = [.int .i64 K.kd, .int .u32 K.sn, .int .i64 K.at_, .slice K.A K.m.length K.c, .bool K.fin] ∧
    IsBytes W K.A K.m ∧ (K.A = none → K.c = 0) ∧ K.m.length ≤ 140737488355328 ∧ (∀ x, K.A = some x → K.m ≠ [] → x.block < W.heap.size) := by
    intro i
    by_cases hi : i < len
    · obtain ⟨d, hd⟩ := hrd i hi
      obtain ⟨K, hK⟩ := rd_call hd
      exact ⟨K, fun _ => hK⟩
    · exact ⟨⟨0, 0, 0, none, [], 0, false⟩, fun h => absurd h hi⟩
  obtain ⟨K, hK⟩ := Classical.axiomOfChoice hK
  refine ⟨a, len, cap, K, rfl, ⟨fun i hi => (hK i hi).2, ?_⟩, by omega, h4, h1, h2⟩
  rcases hat with h0 | ⟨b, off, rfl, hbl, hc⟩
  · exact .inl h0
  · refine .inr ⟨b, off, rfl, hbl (by decide), fun i hi => ?_⟩
    have hr := (hK i hi).1
    refine ⟨(hc i hi 0 (by omega)).trans (by rw [hr]; rfl), (hc i hi 1 (by omega)).trans (by rw [hr]; rfl), (hc i hi 2 (by omega)).trans (by rw [hr]; rfl), (hc i hi 3 (by omega)).trans (by rw [hr]; rfl), (hc i hi 4 (by omega)).trans (by rw [hr]; rfl)⟩

theorem append4 {α : Type} {l : List α} {a : List α} {x y z : α} (ha : l.take 8 = a) (hl : l.length = 11) (h8 : l[8]? = some x) (h9 : l[9]? = some y) (h10 : l[10]? = some z) : l = a ++ [x, y, z] := by
  subst ha
  match l, hl with
  | [a, b, c, d, e, f, g, i, j, k, m], _ => simp_all
/-- A begin. -/
theorem rd_begin {W : World} {v : Value} {d : D} (r : RdV Try.prog W 35 v d) : ∃ (d0 d3 burst first need : Int) (d1 d2 ready tog fin : Bool) (zA : Option Addr) (zm : List Nat) (zc : Nat),
    v = .agg #[.int .i64 d0, .bool d1, .bool d2, .int .i64 d3, .int .i64 burst, .int .i64 first, .bool ready, .bool tog, .int .i64 need, .slice zA zm.length zc, .bool fin] ∧ IsBytes W zA zm ∧ (zA = none → zc = 0) ∧ zm.length ≤ 140737488355328 ∧
      (∀ x, zA = some x → zm ≠ [] → x.block < W.heap.size) ∧ need < 9223372036854775808 := by
  have hi : Try.prog.cellsOf 3 = 1 := by kernel_rfl
  have hb : Try.prog.cellsOf 4 = 1 := by kernel_rfl
  have hs : Try.prog.cellsOf 33 = 1 := by kernel_rfl
  have h8 : Try.prog.cellsOf 5 = 1 := by kernel_rfl
  have hy : Try.prog.bytesOf 5 = 1 := by kernel_rfl
  have hdl : Try.prog.cellsOf 32 = 8 := by kernel_rfl
  obtain ⟨cs, l, rfl, rfl, h⟩ := r.struct Try.underlying35
  have hl : cs.toList.length = 11 := by
    obtain ⟨l, _, hc, _⟩ := h.struct_inv Try.underlying35
    rw [hc]; kernel_rfl
  obtain ⟨dd, hd'⟩ := h.field Try.underlying35 0 _ rfl
  have hd : Rd Try.prog W 32 ((cs.toList.drop 0).take (Try.prog.cellsOf 32)) dd := hd'
  rw [hdl] at hd
  obtain ⟨d0, d3, d4, d5, d1, d2, d6, d7, hdc⟩ := rd_deal hd
  obtain ⟨nd, k1, hn⟩ := h.field_int Try.underlying35 1 _ rfl Try.underlying3 hi
  obtain ⟨a, len, cap, zs, k2, z1, z2, z3, z4, z5, z6⟩ := h.field_ints Try.underlying35 2 _ rfl Try.underlying33 Try.underlying5 h8 hs
  obtain ⟨f, k3⟩ := h.field_bool Try.underlying35 3 _ rfl Try.underlying4 hb
  obtain ⟨l2, hl1, hl2, hl3⟩ := z6.bytes
  rw [hy] at z4
  simp only [reachBytes] at z4
  have he : l2.length = len := by omega
  refine ⟨d0, d3, d4, d5, nd, d1, d2, d6, d7, f, a, l2, cap, ?_, hl2, z5, by omega, hl3, (i64_bd hn).2⟩
  rw [he]
  have := append4 (by simpa using hdc) hl k1 k2 k3
  exact congrArg Value.agg (Array.toList_inj.1 (by rw [this]; rfl))
end Go.Proofs.Ytjmpjdahkliheaa
