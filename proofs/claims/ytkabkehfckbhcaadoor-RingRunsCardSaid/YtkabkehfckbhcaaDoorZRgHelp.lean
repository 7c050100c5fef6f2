/-
  ring: what the laws call: changes, same, mark, few.
-/
import Derived.Test.YtkabkehfckbhcaaDoorZRgRows
import Derived.Laws.StructEq
import Derived.Laws.Bits64b
import Derived.Laws.BitsLemmas
import Derived.Deep.CutBlock
namespace Go.Proofs.YtkabkehfckbhcaaDoor
set_option linter.unusedVariables false
set_option linter.unusedSimpArgs false
open Go.RowKit

theorem and_24 (n : Int) : bits .and .i64 n 16777215 = n % 16777216 := by
  have h127 : (BitVec.ofInt 64 16777215).toNat = 2 ^ 24 - 1 := by decide
  have key : (BitVec.ofInt 64 n &&& BitVec.ofInt 64 16777215).toNat = (n % ((2 ^ 64 : Nat) : Int)).toNat % 2 ^ 24 := by
    rw [BitVec.toNat_and, BitVec.toNat_ofInt, h127, Nat.and_two_pow_sub_one_eq_mod]
  show IntKind.i64.wrap ((BitVec.ofInt 64 n &&& BitVec.ofInt 64 16777215).toNat : Nat) = n % 16777216
  rw [key, IntKind.wrap_i64]
  omega
set_option maxRecDepth 100000 in
theorem built_pg3 (a b c : Nat) : Tryd.prog.built 48 [(0, .int .u8 (a : Int)), (1, .int .u8 (b : Int)), (2, .int .u8 (c : Int))] = some (nv .u8 (pg3 a b c)) := by kernel_rfl
set_option maxRecDepth 100000 in
set_option maxHeartbeats 4000000 in
theorem changes_any (W : World) (n : Nat) (x : Int) (hn : n ≤ 64) : Calls Tryd.prog 14 #[.int .i64 (n : Int), .int .i64 x] W fun e w' => ∃ v, e = .returned v ∧ RowF w' W.heap.size 79 65 chF v (chg n x) ∧ Below W.heap.size W w' := by
  have hand := and_24 x
  obtain ⟨X, hX⟩ : ∃ X : Int, X = x % 16777216 := ⟨_, rfl⟩
  obtain ⟨A, hA⟩ : ∃ A : Nat, A = (x % 256).toNat := ⟨_, rfl⟩
  rw [← hX] at hand
  have hX0 : 0 ≤ X := by omega
  have hX1 : X < 16777216 := by omega
  have hu8 : IntKind.u8.wrap X = (A : Int) := by rw [IntKind.wrap_u8, hX, hA]; omega
  have hn8 : IntKind.u8.wrap (n : Int) = (n : Int) := by rw [IntKind.wrap_u8]; omega
  have HX := Lib.hid (And.intro hX hA)
  clear hX hA
  go_enter Tryd.func14, Tryd.ntmps14
  go_wp2
  go_loopw [5, 10] (fun v i wr => ∃ j : Nat, j ≤ n ∧ i = .int .i64 j ∧ Hid (RowF wr W.heap.size 79 65 chF v ((chg n x).take j) ∧ Below W.heap.size W wr)) (fun _ i _ => n - (intOf i).toNat)
  case atStart => exact ⟨0, by omega, rfl, by rw [List.take_zero]; exact RowF.nil _ _ _ _ _, Below.refl _ _⟩
  case round =>
    obtain ⟨j, hj, rfl, HR⟩ := hrel
    obtain ⟨pa, pc, e⟩ := HR.out.1.slice
    obtain ⟨pn, hpn⟩ : ∃ pn, pn = ((chg n x).take j).length := ⟨_, rfl⟩
    rw [← hpn] at e
    have HPN := Lib.hid hpn
    subst e
    have hpl : pn ≤ 1000 := by rw [hpn, List.length_take, chg_length]; omega
    clear hpn
    by_cases hjl : j < n
    · have hc := chg_get x hjl
      rw [← HX.out.1, ← HX.out.2] at hc
      have HC := Lib.hid hc
      have j1 : (j : Int) < (n : Int) := by omega
      have j8 : IntKind.u8.wrap (j : Int) = (j : Int) := by rw [IntKind.wrap_u8]; omega
      clear hc
      go_wp2_with (first
        | (refine wpList_build (by rfl) 48 #[(0, .tmp 19), (1, .tmp 21), (2, .tmp 23)] (by rfl) (nv .u8 (pg3 A j n)) (by exact built_pg3 A j n) ?_)
        | (refine wpList_build (by rfl) 79 #[(0, .tmp 17), (1, .tmp 24)] (by rfl) (chF (X + 3 * (j : Int), pg3 A j n)).toArray (by exact chg_built (X + 3 * (j : Int)) (pg3 A j n) (pg3_length _ _ _)) ?_)
        | (refine chg_wp_slice (by rfl) (.tmp 25) (by rfl) (X + 3 * (j : Int), pg3 A j n) (pg3_length _ _ _) (by rfl) ?_)
        | (refine chg_wp_app (by rfl) (.tmp 13) (.tmp 26) (by rfl) HR.out.1 HPN.out.symm (pg3_length _ _ _) (by rfl) (by rfl) (by omega) HR.out.2.size fun v' w7 q1 q2 => ?_; have H7 := Lib.hid (And.intro q1 (HR.out.2.trans q2)); clear q1 q2))
      go_round
      case rel => exact ⟨j + 1, by omega, by go_num, by rw [List.take_add_one, HC.out]; exact H7.out.1, H7.out.2⟩
      case measure => simp [intOf]; omega
    · obtain rfl : j = n := by omega
      have hfin := HR.out
      rw [List.take_of_length_le (by rw [chg_length]; exact Nat.le_refl _)] at hfin
      have HF := Lib.hid hfin
      clear hfin
      go_wp2_with fail
      go_ret
      exact ⟨_, rfl, HF.out⟩
theorem few_any (W : World) (a : Option Addr) (n c : Nat) (hn : (n : Int) ≤ 35184372088832) : Calls Tryd.prog 8 #[.slice a n c] W fun e w' => e = .returned (.bool (decide ((n : Int) ≤ 40))) ∧ w' = W := by
  go_enter Tryd.func8, Tryd.ntmps8
  go_wp2
  go_ret
  exact ⟨rfl, rfl⟩

/-! Structs compared with themselves. -/
def eqF (d : Nat) (xs ys : Array Value) : List (Bool × TypeId × Nat) → Sem Bool
  | [] => pure true
  | f :: fs => if f.1 = false then do
      let a ← part f.2.1 xs f.2.2
      let b ← part f.2.1 ys f.2.2
      let r ← Op.equalIn d f.2.1 a b
      if (!r) = true then pure false else eqF d xs ys fs
    else eqF d xs ys fs
theorem eqFields_eqF (d : Nat) (xs ys : Array Value) (fs : List Field) : Op.eqFields d xs ys fs = eqF d xs ys (fs.map fun f => (f.name == "_", f.type, f.offset)) := by
  induction fs with
  | nil => rfl
  | cons f fs ih =>
    unfold Op.eqFields eqF
    rw [List.map_cons, ih]
    by_cases h : f.name = "_"
    · simp [h]
    · simp [h]
theorem part_arr {P : Program} {t e : TypeId} {n : Nat} (ht : P.underlying t = some (.array n e)) (hi : (P.info? t).map (·.size) = some n) (cs : Array Value) (o : Nat) (w : World) : (part t cs o).run P w = .ok (.agg (cs.extract o (o + n))) w := by
  obtain ⟨it, h1, h2⟩ := Option.map_eq_some_iff.1 hi
  simp [part, isAgg, run_underlying ht, sizeOf, typeInfo, h1, h2]
theorem extract_app (l m r : List Value) : (l ++ (m ++ r)).toArray.extract l.length (l.length + m.length) = m.toArray := by
  rw [List.extract_toArray]
  simp [List.extract]
set_option maxRecDepth 100000 in
theorem chg_self (c : CH) (hc : c.2.length = 64) (w : World) : (Op.equalIn 10000 79 (.agg (chF c).toArray) (.agg (chF c).toArray)).run Tryd.prog w = .ok true w := by
  have hf : ((Tryd.prog.fieldsOf 79).toList.map fun f => (f.name == "_", f.type, f.offset)) = [(false, 3, 0), (false, 48, 1)] := by kernel_rfl
  have e0 : (chF c).toArray[0]? = some (.int .i64 c.1) := rfl
  have e1 : (chF c).toArray.extract 1 (1 + 64) = nv .u8 c.2 := by
    have := extract_app [.int .i64 c.1] (bv c.2) []
    rw [List.append_nil, bv_length, hc] at this
    exact this
  rw [run_equalIn_agg w 9999 _ _ _ (by kernel_rfl) (by kernel_rfl), eqFields_eqF, hf]
  simp only [eqF, if_true, Sem.run_bind, run_part_int Tryd.underlying3 _ _ _ e0, Result.andThen_ok, run_equalIn_int w 9998 _ _ _ _ _ Tryd.underlying3, beq_self_eq_true, Bool.not_true, Bool.false_eq_true, if_false, part_arr Tryd.underlying48 (show (Tryd.prog.info? 48).map (·.size) = some 64 by kernel_rfl), e1]
  have h := run_equalIn_array (P := Tryd.prog) (t := 48) (e := 5) (n := 64) (k := .u8) 9997 (by kernel_rfl) (by kernel_rfl) Tryd.sizeOf5
    (c.2.map fun (c : Nat) => (c : Int)) (c.2.map fun (c : Nat) => (c : Int)) (by rw [List.length_map, hc]) (by rw [List.length_map, hc]) w
  rw [nv_inj .u8, List.map_map, beq_self_eq_true] at h
  have h' : (Op.equalIn 9999 48 (.agg (nv .u8 c.2)) (.agg (nv .u8 c.2))).run Tryd.prog w = .ok true w := h
  rw [h']
  rfl
set_option maxRecDepth 100000 in
theorem rch_self (c : CH) (hc : c.2.length = 64) (w : World) : (Op.equalIn 10000 93 (.agg (chF c).toArray) (.agg (chF c).toArray)).run Tryd.prog w = .ok true w := by
  have hf : ((Tryd.prog.fieldsOf 93).toList.map fun f => (f.name == "_", f.type, f.offset)) = [(false, 3, 0), (false, 48, 1)] := by kernel_rfl
  have e0 : (chF c).toArray[0]? = some (.int .i64 c.1) := rfl
  have e1 : (chF c).toArray.extract 1 (1 + 64) = nv .u8 c.2 := by
    have := extract_app [.int .i64 c.1] (bv c.2) []
    rw [List.append_nil, bv_length, hc] at this
    exact this
  rw [run_equalIn_agg w 9999 _ _ _ (by kernel_rfl) (by kernel_rfl), eqFields_eqF, hf]
  simp only [eqF, if_true, Sem.run_bind, run_part_int Tryd.underlying3 _ _ _ e0, Result.andThen_ok, run_equalIn_int w 9998 _ _ _ _ _ Tryd.underlying3, beq_self_eq_true, Bool.not_true, Bool.false_eq_true, if_false, part_arr Tryd.underlying48 (show (Tryd.prog.info? 48).map (·.size) = some 64 by kernel_rfl), e1]
  have h := run_equalIn_array (P := Tryd.prog) (t := 48) (e := 5) (n := 64) (k := .u8) 9997 (by kernel_rfl) (by kernel_rfl) Tryd.sizeOf5
    (c.2.map fun (c : Nat) => (c : Int)) (c.2.map fun (c : Nat) => (c : Int)) (by rw [List.length_map, hc]) (by rw [List.length_map, hc]) w
  rw [nv_inj .u8, List.map_map, beq_self_eq_true] at h
  have h' : (Op.equalIn 9999 48 (.agg (nv .u8 c.2)) (.agg (nv .u8 c.2))).run Tryd.prog w = .ok true w := h
  rw [h']
  rfl
set_option maxRecDepth 100000 in
theorem mk_self (a b : Int) (m : List Nat) (hm : m.length = 32) (w : World) : (Op.equalIn 10000 25 (.agg (.int .i64 a :: .int .u64 b :: bv m).toArray) (.agg (.int .i64 a :: .int .u64 b :: bv m).toArray)).run Tryd.prog w = .ok true w := by
  have hf : ((Tryd.prog.fieldsOf 25).toList.map fun f => (f.name == "_", f.type, f.offset)) = [(false, 3, 0), (false, 22, 1), (false, 23, 2)] := by kernel_rfl
  have e0 : (.int .i64 a :: .int .u64 b :: bv m).toArray[0]? = some (.int .i64 a) := rfl
  have e2 : (.int .i64 a :: .int .u64 b :: bv m).toArray[1]? = some (.int .u64 b) := rfl
  have e1 : (.int .i64 a :: .int .u64 b :: bv m).toArray.extract 2 (2 + 32) = nv .u8 m := by
    have := extract_app [.int .i64 a, .int .u64 b] (bv m) []
    rw [List.append_nil, bv_length, hm] at this
    exact this
  rw [run_equalIn_agg w 9999 _ _ _ (by kernel_rfl) (by kernel_rfl), eqFields_eqF, hf]
  simp only [eqF, if_true, Sem.run_bind, run_part_int Tryd.underlying3 _ _ _ e0, run_part_int Tryd.underlying22 _ _ _ e2, Result.andThen_ok, run_equalIn_int w 9998 _ _ _ _ _ Tryd.underlying3, run_equalIn_int w 9998 _ _ _ _ _ Tryd.underlying22, beq_self_eq_true, Bool.not_true, Bool.false_eq_true, if_false, part_arr Tryd.underlying23 (show (Tryd.prog.info? 23).map (·.size) = some 32 by kernel_rfl), e1]
  have h := run_equalIn_array (P := Tryd.prog) (t := 23) (e := 5) (n := 32) (k := .u8) 9997 (by kernel_rfl) (by kernel_rfl) Tryd.sizeOf5
    (m.map fun (c : Nat) => (c : Int)) (m.map fun (c : Nat) => (c : Int)) (by rw [List.length_map, hm]) (by rw [List.length_map, hm]) w
  rw [nv_inj .u8, List.map_map, beq_self_eq_true] at h
  have h' : (Op.equalIn 9999 23 (.agg (nv .u8 m)) (.agg (nv .u8 m))).run Tryd.prog w = .ok true w := h
  rw [h']
  rfl
set_option maxRecDepth 100000 in
theorem rmk_self (a b : Int) (m : List Nat) (hm : m.length = 32) (w : World) : (Op.equalIn 10000 38 (.agg (.int .i64 a :: .int .u64 b :: bv m).toArray) (.agg (.int .i64 a :: .int .u64 b :: bv m).toArray)).run Tryd.prog w = .ok true w := by
  have hf : ((Tryd.prog.fieldsOf 38).toList.map fun f => (f.name == "_", f.type, f.offset)) = [(false, 3, 0), (false, 22, 1), (false, 23, 2)] := by kernel_rfl
  have e0 : (.int .i64 a :: .int .u64 b :: bv m).toArray[0]? = some (.int .i64 a) := rfl
  have e2 : (.int .i64 a :: .int .u64 b :: bv m).toArray[1]? = some (.int .u64 b) := rfl
  have e1 : (.int .i64 a :: .int .u64 b :: bv m).toArray.extract 2 (2 + 32) = nv .u8 m := by
    have := extract_app [.int .i64 a, .int .u64 b] (bv m) []
    rw [List.append_nil, bv_length, hm] at this
    exact this
  rw [run_equalIn_agg w 9999 _ _ _ (by kernel_rfl) (by kernel_rfl), eqFields_eqF, hf]
  simp only [eqF, if_true, Sem.run_bind, run_part_int Tryd.underlying3 _ _ _ e0, run_part_int Tryd.underlying22 _ _ _ e2, Result.andThen_ok, run_equalIn_int w 9998 _ _ _ _ _ Tryd.underlying3, run_equalIn_int w 9998 _ _ _ _ _ Tryd.underlying22, beq_self_eq_true, Bool.not_true, Bool.false_eq_true, if_false, part_arr Tryd.underlying23 (show (Tryd.prog.info? 23).map (·.size) = some 32 by kernel_rfl), e1]
  have h := run_equalIn_array (P := Tryd.prog) (t := 23) (e := 5) (n := 32) (k := .u8) 9997 (by kernel_rfl) (by kernel_rfl) Tryd.sizeOf5
    (m.map fun (c : Nat) => (c : Int)) (m.map fun (c : Nat) => (c : Int)) (by rw [List.length_map, hm]) (by rw [List.length_map, hm]) w
  rw [nv_inj .u8, List.map_map, beq_self_eq_true] at h
  have h' : (Op.equalIn 9999 23 (.agg (nv .u8 m)) (.agg (nv .u8 m))).run Tryd.prog w = .ok true w := h
  rw [h']
  rfl
/-- The operations, two values of one form. -/
theorem wp_eq_self {P : Program} {o : Oper} {a : Act} {w : World} {K : Act → World → Prop} {Q : Exit → Act → World → Prop} (t : TypeId) (x y : Operand) (ho : o.op = .binOp .eql t x y t) (cs : Array Value) (hm : P.eqGuardType P.depth t = false) (hx : a.eval x = .agg cs) (hy : a.eval y = .agg cs) (hs : (Op.equalIn 10000 t (.agg cs) (.agg cs)).run P w = .ok true w)
    (h : K (a.put o.dst (.bool true)) w) : o.wp P a w K Q := by
  unfold Oper.wp execOp
  simp only [ho, hx, hy, Sem.run_bind, run_eqGuard_agg w _ _ _ _ _ _ hm, Result.andThen_ok, run_eql_struct, hs, Sem.run_pure]
  exact h
theorem wp_ne_self {P : Program} {o : Oper} {a : Act} {w : World} {K : Act → World → Prop} {Q : Exit → Act → World → Prop} (t : TypeId) (x y : Operand) (ho : o.op = .binOp .neq t x y t) (cs : Array Value) (hm : P.eqGuardType P.depth t = false) (hx : a.eval x = .agg cs) (hy : a.eval y = .agg cs) (hs : (Op.equalIn 10000 t (.agg cs) (.agg cs)).run P w = .ok true w)
    (h : K (a.put o.dst (.bool false)) w) : o.wp P a w K Q := by
  unfold Oper.wp execOp
  simp only [ho, hx, hy, Sem.run_bind, run_eqGuard_agg w _ _ _ _ _ _ hm, Result.andThen_ok, run_neq_struct, hs, Bool.not_true, Sem.run_pure]
  exact h
end Go.Proofs.YtkabkehfckbhcaaDoor
