/-
  Slices of bytes that came in, cut: x[l:h], x[:h], x[l:], whatever the address.
-/
import Derived.Test.YtaehaclmagnncaaBlk
namespace Go.Proofs.Ytaehaclmagnncaa
set_option linter.unusedVariables false
set_option linter.unusedSimpArgs false
open Go.RowKit

/-- Where a slice lies that is cut at l. -/
def cutA (a : Option Addr) (cap l : Nat) : Option Addr := if cap = l then a else a.map (·.add l)
theorem cutA_zero (a : Option Addr) (cap : Nat) : cutA a cap 0 = a := by
  unfold cutA
  split
  · rfl
  · cases a <;> simp [Addr.add]
theorem cutA_block {a : Option Addr} {cap l : Nat} {x : Addr} (h : cutA a cap l = some x) : ∃ y, a = some y ∧ y.block = x.block := by
  unfold cutA at h
  split at h
  · exact ⟨x, h, rfl⟩
  · cases a with
    | none => cases h
    | some y =>
      simp at h
      refine ⟨y, rfl, ?_⟩
      rw [← h]; unfold Addr.add; split <;> simp
theorem cutA_none {a : Option Addr} {cap l : Nat} (hc0 : a = none → cap = 0) (h : cutA a cap l = none) : cap - l = 0 := by
  unfold cutA at h
  split at h
  · have := hc0 h; omega
  · cases a with
    | none => have := hc0 rfl; omega
    | some y => simp at h
/-- What a cut slice reads as. -/
theorem isBytes_cut {w : World} {a : Option Addr} {m : List Nat} (hm : IsBytes w a m) (cap l h : Nat) (hl : l ≤ h) (hh : h ≤ m.length) (hc : m.length ≤ cap) : IsBytes w (cutA a cap l) ((m.drop l).take (h - l)) := by
  refine ⟨fun c hc => hm.1 c (List.mem_of_mem_drop (List.mem_of_mem_take hc)), ?_⟩
  by_cases he : h = l
  · left; subst he; simp
  · obtain ⟨b, off, rfl, hcell⟩ := hm.2.resolve_left (by rintro rfl; simp at hh; omega)
    refine .inr ⟨b, off + l, ?_, fun i hi => ?_⟩
    · unfold cutA
      rw [if_neg (by omega)]
      simp [Go.WideShapes.add_plain]
    · rw [List.length_take, List.length_drop] at hi
      rw [Nat.add_assoc, hcell (l + i) (by omega)]
      simp [List.getD, List.getElem?_take, List.getElem?_drop, show i < h - l by omega]
theorem cut_length (m : List Nat) (l h : Nat) (hl : l ≤ h) (hh : h ≤ m.length) : ((m.drop l).take (h - l)).length = h - l := by
  rw [List.length_take, List.length_drop]; omega

section
variable {P : Program} {w : World} {t e : TypeId} {a : Option Addr} {len cap : Nat}
theorem run_cut (ht : P.underlying t = some (.slice e)) (hs : (P.info? e).map (·.size) = some 1) (low high : Option Value) (l h : Nat) (hb : (Instr.sliceBounds true len cap low high none).run P w = .ok (l, h, cap) w) :
    (Instr.slice t (.slice a len cap) low high none).run P w = .ok (.slice (cutA a cap l) (h - l) (cap - l)) w := by
  have h1 : ∀ w, (sizeOf e).run P w = .ok 1 w := by
    intro w
    cases hi : P.info? e with
    | none => rw [hi] at hs; cases hs
    | some i => rw [hi] at hs; simp at hs; simp [sizeOf, typeInfo, hi, hs]
  unfold Instr.slice
  simp only [Sem.run_bind, run_underlying ht, Result.andThen_ok, hb, h1, Sem.run_pure, Nat.mul_one]
  rfl
theorem bounds_lh (l h : Nat) (hl : l ≤ h) (hh : h ≤ cap) : (Instr.sliceBounds true len cap (some (.int .i64 (l : Int))) (some (.int .i64 (h : Int))) none).run P w = .ok (l, h, cap) w := by
  unfold Instr.sliceBounds
  simp [Instr.sliceBound, asIntOf, Sem.run_bind, Result.andThen_ok, hh, hl]
theorem bounds_h (h : Nat) (hh : h ≤ cap) : (Instr.sliceBounds true len cap none (some (.int .i64 (h : Int))) none).run P w = .ok (0, h, cap) w := by
  unfold Instr.sliceBounds
  simp [Instr.sliceBound, asIntOf, Sem.run_bind, Result.andThen_ok, hh]
theorem bounds_l (l : Nat) (hl : l ≤ len) : (Instr.sliceBounds true len cap (some (.int .i64 (l : Int))) none none).run P w = .ok (l, len, cap) w := by
  unfold Instr.sliceBounds
  simp [Instr.sliceBound, asIntOf, Sem.run_bind, Result.andThen_ok, hl]

/-- The bounds, spelled as the walk has them. -/
theorem bounds_lhi {L H : Int} (l h : Nat) (hL : L = (l : Int)) (hH : H = (h : Int)) (hl : l ≤ h) (hh : h ≤ cap) : (Instr.sliceBounds true len cap (some (.int .i64 L)) (some (.int .i64 H)) none).run P w = .ok (l, h, cap) w := by
  subst hL; subst hH; exact bounds_lh l h hl hh

/-- A cut, at a list of operations. -/
theorem wpList_cut {ops : Array Oper} {rest : List Oper} {o : Oper} {ac : Act} {Q : Exit → Act → World → Prop} (hgd : o.guard = none) (x : Operand) (lo hi : Option Operand) (ho : o.op = .slice t x lo hi none)
    (ht : P.underlying t = some (.slice e)) (hs : (P.info? e).map (·.size) = some 1) (hx : ac.eval x = .slice a len cap) (l h : Nat) (hb : (Instr.sliceBounds true len cap (lo.map ac.eval) (hi.map ac.eval) none).run P w = .ok (l, h, cap) w)
    (hk : wpList P ops Q rest (ac.put o.dst (.slice (cutA a cap l) (h - l) (cap - l))) w) : wpList P ops Q (o :: rest) ac w :=
  wpList_plain hgd fun _ hK => by
    have hr := run_cut (a := a) ht hs _ _ l h hb
    unfold Oper.wp execOp
    have hr2 : (Instr.sliceAt t (.slice a len cap) (lo.map ac.eval) (hi.map ac.eval) none).run P w = .ok (.slice (cutA a cap l) (h - l) (cap - l)) w := by
      unfold Instr.sliceAt
      simp only [Sem.run_bind, run_underlying ht, Result.andThen_ok]
      exact hr
    simp only [ho, hx, hr2, Option.map_none, Sem.run_bind, Result.andThen_ok, Sem.run_pure]
    exact hK _ _ hk
theorem wpList_cut' {ops : Array Oper} {rest : List Oper} {o : Oper} {ac : Act} {Q : Exit → Act → World → Prop} (hgd : o.guard = none) (x : Operand) (lo hi : Option Operand) (ho : o.op = .slice t x lo hi none)
    (ht : P.underlying t = some (.slice e)) (hs : (P.info? e).map (·.size) = some 1) (hx : ac.eval x = .slice a len cap) (l h n : Nat) (hn : h - l = n) (hb : (Instr.sliceBounds true len cap (lo.map ac.eval) (hi.map ac.eval) none).run P w = .ok (l, h, cap) w)
    (hk : wpList P ops Q rest (ac.put o.dst (.slice (cutA a cap l) n (cap - l))) w) : wpList P ops Q (o :: rest) ac w := by
  subst hn
  exact wpList_cut hgd x lo hi ho ht hs hx l h hb hk
end
end Go.Proofs.Ytaehaclmagnncaa
