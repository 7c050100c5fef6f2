/-
  Small laws that several layers share: equality of arrays of integers.
-/
import Derived.WalkKit
import Derived.WalkLawsBesides
namespace Go.Proofs.YtjmjfgbpjecgfaaDoor
set_option linter.unusedVariables false
set_option linter.unusedSimpArgs false
set_option linter.unnecessarySimpa false
open Go.RowKit

theorem run_part_int {P : Program} {e : TypeId} {k : IntKind} (he : P.underlying e = some (.int k)) (cs : Array Value) (i : Nat) (v : Value) (h : cs[i]? = some v) (w : World) : (part e cs i).run P w = .ok v w := by
  simp [part, isAgg, run_underlying he, h]

theorem run_equalIn_array {P : Program} {t e : TypeId} {n : Nat} {k : IntKind} (d : Nat) (ht : P.underlying t = some (.array n e)) (he : P.underlying e = some (.int k)) (hs : ∀ w, (sizeOf e).run P w = .ok 1 w)
    (xs ys : List Int) (hx : xs.length = n) (hy : ys.length = n) (w : World) :
    (Op.equalIn (d + 2) t (.agg (xs.map (Value.int k)).toArray) (.agg (ys.map (Value.int k)).toArray)).run P w = .ok (xs == ys) w := by
  rw [Op.equalIn]
  simp only [Sem.run_bind, run_underlying ht, Result.andThen_ok, hs]
  rw [Std.Legacy.Range.forIn_eq_forIn_range']
  simp only [Std.Legacy.Range.size, Nat.sub_zero, Nat.add_sub_cancel, Nat.div_one, Nat.mul_one]
  have key : ∀ m i, i + m = n → (Sem.run P
          (forIn (List.range' i m) ((none : Option Bool), ()) fun i __s => do
            let __do_lift ← part e (List.map (Value.int k) xs).toArray i
            let __do_lift_1 ← part e (List.map (Value.int k) ys).toArray i
            let __do_lift ← Op.equalIn (d + 1) e __do_lift __do_lift_1
            if (!__do_lift) = true then pure (ForInStep.done (some false, ())) else pure (ForInStep.yield (none, ())))
          w) = .ok (if xs.drop i = ys.drop i then none else some false, ()) w := by
    intro m
    induction m with
    | zero =>
      intro i hi
      rw [List.drop_eq_nil_of_le (by omega), List.drop_eq_nil_of_le (by omega)]
      simp
    | succ m ih =>
      intro i hi
      have hxi : (List.map (Value.int k) xs).toArray[i]? = some (.int k xs[i]) := by simp [show i < xs.length by omega]
      have hyi : (List.map (Value.int k) ys).toArray[i]? = some (.int k ys[i]) := by simp [show i < ys.length by omega]
      rw [List.range'_succ, List.forIn_cons]
      simp only [Sem.run_bind, run_part_int he _ _ _ hxi, run_part_int he _ _ _ hyi, Result.andThen_ok, run_equalIn_int w d e k k _ _ he]
      have hxd : xs.drop i = xs[i] :: xs.drop (i + 1) := List.drop_eq_getElem_cons (by omega)
      have hyd : ys.drop i = ys[i] :: ys.drop (i + 1) := List.drop_eq_getElem_cons (by omega)
      have hiff : xs.drop i = ys.drop i ↔ xs[i] = ys[i] ∧ xs.drop (i + 1) = ys.drop (i + 1) := by rw [hxd, hyd, List.cons.injEq]
      clear hxd hyd
      by_cases he1 : xs[i] = ys[i]
      · have hb : (xs[i] == ys[i]) = true := by simpa using he1
        simp only [hb, Bool.not_true, Bool.false_eq_true, if_false, Sem.run_pure, Result.andThen_ok]
        have h2 : (xs.drop i = ys.drop i) = (xs.drop (i + 1) = ys.drop (i + 1)) := propext (hiff.trans (and_iff_right he1))
        rw [ih (i + 1) (by omega)]
        simp only [h2]
      · have hb : (xs[i] == ys[i]) = false := by simpa using he1
        simp only [hb, Bool.not_false, if_true, Sem.run_pure, Result.andThen_ok]
        rw [if_neg (fun h => he1 (hiff.1 h).1)]
  rw [key n 0 (by omega)]
  simp only [Result.andThen_ok, List.drop_zero]
  by_cases hxy : xs = ys
  · simp [hxy]
  · simp [hxy]

end Go.Proofs.YtjmjfgbpjecgfaaDoor
