/-
  woe: closed facts on the model's entries for reflectlite at this program's types.
  woe: errors.As over a chain of places.
  woe: errors.as walked.
  woe: errors.As by its contracts.
  woe: In, Number.
-/
import Derived.Test.YtkabkehfckbhcaaDoorProg
import Derived.Test.YtkabkehfckbhcaaDoorRows
import Derived.WalkKit
import Derived.WalkSpells
import Derived.WalkLawsBesides
import Derived.LaidEql
import Derived.Stop.Asserts
import Derived.RowKitTokens
import Derived.Deep.LoopGhost
namespace Go.Proofs.YtkabkehfckbhcaaDoor
set_option linter.unusedVariables false
set_option linter.unusedSimpArgs false
open Go.RowKit Go.Extern.Stop Go.Stop Go.Extern

theorem rlm (z : Sem Value) (f : TypeId → Addr → Nat → Nat → Sem Value) (v : Value) :
    ReflectliteValue.method z f #[v] = (do match ← ReflectliteValue.parts v with | none => z | some (t, a, fl) => f t a fl (fl % 32)) := rfl
theorem rls (v x : Value) : ReflectliteValue.set #[v, x] = (do
    let (some (dst, a, fl), some (src, b, _)) := (← ReflectliteValue.parts v, ← ReflectliteValue.parts x)
      | unsupported (.noEntry "extern/(internal/reflectlite.Value).Set.zeroValue")
    if fl / ReflectliteValue.flagAddr % 2 == 0 then unsupported (.noEntry "extern/(internal/reflectlite.Value).Set.unaddressable")
    let val ← loadVar src b
    if ← Rtype.directlyAssignable dst src then storeVar dst a val
    else if ← Rtype.implements dst src then
      if (← Rtype.kind src) == 20 then
        match val with
        | .nilIface => unsupported (.noEntry "extern/reflectlite: a nil value of one interface type handed on as a value of another")
        | _ => storeVar dst a val
      else storeVar dst a (.iface src val)
    else panicString ("reflectlite.Set: value of type " ++ (← Rtype.spelt src) ++ " is not assignable to type " ++ (← Rtype.spelt dst))
    pure (.tuple #[])) := rfl
theorem ra_methodKind (h : Value) (w : World) : (Go.method 284 139 (.agg #[h]) "Kind").run Tryd.prog w = .ok (78, h) w := by kernel_rfl
theorem ra_methodElem (h : Value) (w : World) : (Go.method 284 139 (.agg #[h]) "Elem").run Tryd.prog w = .ok (92, .agg #[h]) w := by kernel_rfl
theorem ra_methodImplements (h : Value) (w : World) : (Go.method 284 139 (.agg #[h]) "Implements").run Tryd.prog w = .ok (93, .agg #[h]) w := by kernel_rfl
theorem ra_methodAssignableTo (h : Value) (w : World) : (Go.method 284 139 (.agg #[h]) "AssignableTo").run Tryd.prog w = .ok (90, .agg #[h]) w := by kernel_rfl
theorem ra_assignWN (w : World) : (ReflectliteType.relation "AssignableTo" ReflectliteType.assignableTo #[.agg #[.pointer (some ⟨1, 115, none⟩)], .iface 139 (.agg #[.pointer (some ⟨1, 83, none⟩)])]).run Tryd.prog w = .ok (.bool false) w := by kernel_rfl
theorem ra_typeOfW (v : Value) (w : World) : (ReflectliteType.typeOf #[.iface 115 v]).run Tryd.prog w = .ok (.iface 139 (.agg #[.pointer (some ⟨1, 115, none⟩)])) w := by kernel_rfl
theorem ra_valueOfPN (t : Addr) (w : World) : (ReflectliteValue.unpack (.iface 107 (.pointer (some t)))).run Tryd.prog w
    = .ok (.agg #[.pointer (some ⟨1, 107, none⟩), .pointer (some ⟨w.heap.size, 0, none⟩), .int .u64 150]) (w.alloc (.cells #[.pointer (some t)] 107)) := by kernel_rfl
theorem ra_typePN (a : Addr) (w : World) : (ReflectliteValue.methodAny (ReflectliteValue.valueError "reflectlite.Value.Type" 0) (fun t _ _ _ => ReflectliteType.toType t) #[.agg #[.pointer (some ⟨1, 107, none⟩), .pointer (some a), .int .u64 150]]).run Tryd.prog w
    = .ok (.iface 139 (.agg #[.pointer (some ⟨1, 107, none⟩)])) w := by kernel_rfl
theorem ra_kindPN (w : World) : ((ReflectliteType.abiMethod fun t => (fun a : Nat => Value.int IntKind.u8 (a : Int)) <$> Rtype.kind t) #[.pointer (some ⟨1, 107, none⟩)]).run Tryd.prog w = .ok (.int .u8 22) w := by kernel_rfl
theorem ra_kindEN (w : World) : ((ReflectliteType.abiMethod fun t => (fun a : Nat => Value.int IntKind.u8 (a : Int)) <$> Rtype.kind t) #[.pointer (some ⟨1, 83, none⟩)]).run Tryd.prog w = .ok (.int .u8 2) w := by kernel_rfl
theorem ra_partsPN (a : Addr) (w : World) : (ReflectliteValue.parts (.agg #[.pointer (some ⟨1, 107, none⟩), .pointer (some a), .int .u64 150])).run Tryd.prog w = .ok (some (107, a, 150)) w := by kernel_rfl
theorem ra_isNilN (a p : Addr) (W : World) (ha : W.cell? a = some (.pointer (some p))) :
    (ReflectliteValue.method (ReflectliteValue.valueError "reflectlite.Value.IsNil" 0) ReflectliteValue.isNil #[.agg #[.pointer (some ⟨1, 107, none⟩), .pointer (some a), .int .u64 150]]).run Tryd.prog W = .ok (.bool false) W := by
  rw [rlm]
  simp only [Sem.run_bind, ra_partsPN, Result.andThen]
  simp [ReflectliteValue.isNil, loadVar, isAgg, underlying, Tryd.underlying107, ha, Result.andThen]
theorem ra_elemTN (w : World) : (ReflectliteType.method ReflectliteType.elem #[.agg #[.pointer (some ⟨1, 107, none⟩)]]).run Tryd.prog w = .ok (.iface 139 (.agg #[.pointer (some ⟨1, 83, none⟩)])) w := by kernel_rfl
theorem ra_implementsN (w : World) : (ReflectliteType.relation "Implements" ReflectliteType.implements_ #[.agg #[.pointer (some ⟨1, 83, none⟩)], .iface 139 (.agg #[.pointer (some ⟨1, 32, none⟩)])]).run Tryd.prog w = .ok (.bool true) w := by kernel_rfl
theorem ra_typeOfN (v : Value) (w : World) : (ReflectliteType.typeOf #[.iface 83 v]).run Tryd.prog w = .ok (.iface 139 (.agg #[.pointer (some ⟨1, 83, none⟩)])) w := by kernel_rfl
theorem ra_assignN (w : World) : (ReflectliteType.relation "AssignableTo" ReflectliteType.assignableTo #[.agg #[.pointer (some ⟨1, 83, none⟩)], .iface 139 (.agg #[.pointer (some ⟨1, 83, none⟩)])]).run Tryd.prog w = .ok (.bool true) w := by kernel_rfl
theorem ra_valueOfEN (e : Int) (w : World) : (ReflectliteValue.unpack (.iface 83 (.int .i64 e))).run Tryd.prog w
    = .ok (.agg #[.pointer (some ⟨1, 83, none⟩), .pointer (some ⟨w.heap.size, 0, none⟩), .int .u64 130]) (w.alloc (.cells #[.int .i64 e] 83)) := by kernel_rfl
theorem ra_elemOfN (w : World) : (Rtype.elem? 107).run Tryd.prog w = .ok (some 83) w := by kernel_rfl
theorem ra_mkN (p : Addr) (w : World) : (ReflectliteValue.mk 83 p ReflectliteValue.flagAddr).run Tryd.prog w = .ok (.agg #[.pointer (some ⟨1, 83, none⟩), .pointer (some p), .int .u64 386]) w := by kernel_rfl
theorem ra_elemVN (a p : Addr) (W : World) (ha : W.cell? a = some (.pointer (some p))) :
    (ReflectliteValue.method (ReflectliteValue.valueError "reflectlite.Value.Elem" 0) ReflectliteValue.elem #[.agg #[.pointer (some ⟨1, 107, none⟩), .pointer (some a), .int .u64 150]]).run Tryd.prog W
      = .ok (.agg #[.pointer (some ⟨1, 83, none⟩), .pointer (some p), .int .u64 386]) W := by
  rw [rlm]
  simp only [Sem.run_bind, ra_partsPN, Result.andThen]
  simp [ReflectliteValue.elem, loadVar, isAgg, underlying, Tryd.underlying107, ha, Result.andThen, ra_elemOfN, ra_mkN]
theorem ra_partsAN (a : Addr) (w : World) : (ReflectliteValue.parts (.agg #[.pointer (some ⟨1, 83, none⟩), .pointer (some a), .int .u64 386])).run Tryd.prog w = .ok (some (83, a, 386)) w := by kernel_rfl
theorem ra_partsEN (a : Addr) (w : World) : (ReflectliteValue.parts (.agg #[.pointer (some ⟨1, 83, none⟩), .pointer (some a), .int .u64 130])).run Tryd.prog w = .ok (some (83, a, 130)) w := by kernel_rfl
theorem ra_directN (w : World) : (Rtype.directlyAssignable 83 83).run Tryd.prog w = .ok true w := by kernel_rfl
theorem ra_sizeN (w : World) : (sizeOf 83).run Tryd.prog w = .ok 1 w := by kernel_rfl
theorem ra_setN (ta b : Addr) (e : Int) (old : Value) (W : World) (hb : W.cell? b = some (.int .i64 e)) (ht : W.cell? ta = some old) (hf : W.frozen? ta = false) :
    (ReflectliteValue.set #[.agg #[.pointer (some ⟨1, 83, none⟩), .pointer (some ta), .int .u64 386], .agg #[.pointer (some ⟨1, 83, none⟩), .pointer (some b), .int .u64 130]]).run Tryd.prog W
      = .ok (.tuple #[]) (W.setCell ta (.int .i64 e)) := by
  rw [rls]
  simp only [Sem.run_bind, ra_partsAN, ra_partsEN, Result.andThen]
  simp [ReflectliteValue.flagAddr, loadVar, isAgg, underlying, Tryd.underlying83, hb, Result.andThen, ra_directN, storeVar, Value.cells, storeCells, Addr.add]
  rw [run_store Tryd.prog W ta _ _ (by rfl)]
  simp [ht, hf]
end Go.Proofs.YtkabkehfckbhcaaDoor

namespace Go.Proofs.YtkabkehfckbhcaaDoor
set_option linter.unusedVariables false
set_option linter.unusedSimpArgs false
open Go.RowKit Go.Extern.Stop Go.Stop Go.Extern

/-- An error in memory: what was met, and at which places, the outermost first. -/
def IsErr (W : World) : Value → List ByteArray → Int → Prop
  | e, [], n => e = .iface 83 (.int .i64 n)
  | e, s :: r, n => ∃ (b : Nat) (v : Value), e = .iface 115 (.pointer (some ⟨b, 0, none⟩)) ∧ W.cell? ⟨b, 0, none⟩ = some (.string s) ∧ W.cell? ⟨b, 1, none⟩ = some v ∧ IsErr W v r n

theorem IsErr.iface {W : World} : ∀ {l : List ByteArray} {e : Value} {n : Int}, IsErr W e l n → ∃ T x, e = .iface T x
  | [], _, _, h => ⟨_, _, h⟩
  | _ :: _, _, _, ⟨_, _, h, _⟩ => ⟨_, _, h⟩
theorem cell_lt {W : World} {a : Addr} {v : Value} (h : W.cell? a = some v) : a.block < W.heap.size := by
  rcases Nat.lt_or_ge a.block W.heap.size with h1 | h1
  · exact h1
  · simp [World.cell?, Array.getElem?_eq_none h1] at h

theorem IsErr.below {W w' : World} (hb : Below W.heap.size W w') : ∀ {l : List ByteArray} {e : Value} {n : Int}, IsErr W e l n → IsErr w' e l n
  | [], e, n, h => h
  | s :: r, e, n, ⟨b, v, h1, h2, h3, h4⟩ => ⟨b, v, h1, by rw [hb.cell (cell_lt h2)]; exact h2, by rw [hb.cell (cell_lt h3)]; exact h3, h4.below hb⟩

theorem ra_noAsW (v : Value) (xT : TypeId) (w : World) : (Instr.typeAssert (.iface 115 v) xT 144 true).run Tryd.prog w = .ok (.tuple #[.nilIface, .bool false]) w := run_typeAssert_lacksB Tryd.underlying144 (by kernel_rfl) (by kernel_rfl) v xT w
theorem ra_noAsN (v : Value) (xT : TypeId) (w : World) : (Instr.typeAssert (.iface 83 v) xT 144 true).run Tryd.prog w = .ok (.tuple #[.nilIface, .bool false]) w := run_typeAssert_lacksB Tryd.underlying144 (by kernel_rfl) (by kernel_rfl) v xT w
theorem ra_unwrapW (v : Value) (xT : TypeId) (w : World) : (Instr.typeAssert (.iface 115 v) xT 147 true).run Tryd.prog w = .ok (.tuple #[.iface 115 v, .bool true]) w := run_typeAssert_hasB Tryd.underlying147 (by kernel_rfl) v xT w
theorem ra_noUnwrapN (v : Value) (xT : TypeId) (w : World) : (Instr.typeAssert (.iface 83 v) xT 147 true).run Tryd.prog w = .ok (.tuple #[.nilIface, .bool false]) w := run_typeAssert_lacksB Tryd.underlying147 (by kernel_rfl) (by kernel_rfl) v xT w
theorem ra_noUnwrapsN (v : Value) (xT : TypeId) (w : World) : (Instr.typeAssert (.iface 83 v) xT 148 true).run Tryd.prog w = .ok (.tuple #[.nilIface, .bool false]) w := run_typeAssert_lacksB Tryd.underlying148 (by kernel_rfl) (by kernel_rfl) v xT w
theorem ra_methodUnwrap (v : Value) (w : World) : (Go.method 284 115 v "Unwrap").run Tryd.prog w = .ok (85, v) w := by kernel_rfl

/-- (*Woe).Unwrap at a place. -/
theorem unwrap_any (b : Nat) (v : Value) (W : World) (h : W.cell? ⟨b, 1, none⟩ = some v) :
    Calls Tryd.prog 85 #[.pointer (some ⟨b, 0, none⟩)] W fun e w' => e = .returned v ∧ w' = W := by
  go_enter Tryd.func85, Tryd.ntmps85
  go_wp2
  go_ret
  exact ⟨rfl, rfl⟩
theorem unwrap_nil (W : World) :
    Calls Tryd.prog 85 #[.pointer none] W fun e w' => e = .returned .nilIface ∧ w' = W := by
  go_enter Tryd.func85, Tryd.ntmps85
  go_wp2
  go_ret
  exact ⟨rfl, rfl⟩

theorem ra_h24 (args : Array Value) (w : World) : (callFunc 59 args).run Tryd.prog w = (((ReflectliteType.typeOf) args).run Tryd.prog w).andThen fun v w' => .ok (.value v) w' :=
  @run_callFunc_extern Tryd.prog 59 _ ReflectliteType.typeOf Tryd.func59 (by kernel_rfl) (by kernel_rfl) (by kernel_rfl) (by kernel_rfl) args w
theorem ra_h20 (args : Array Value) (w : World) : (callFunc 52 args).run Tryd.prog w = (((fun args => ReflectliteValue.unpack (args.getD 0 (.tuple #[]))) args).run Tryd.prog w).andThen fun v w' => .ok (.value v) w' :=
  @run_callFunc_extern Tryd.prog 52 _ (fun args => ReflectliteValue.unpack (args.getD 0 (.tuple #[]))) Tryd.func52 (by kernel_rfl) (by kernel_rfl) (by kernel_rfl) (by kernel_rfl) args w
theorem ra_h21 (args : Array Value) (w : World) : (callFunc 53 args).run Tryd.prog w = (((ReflectliteValue.methodAny (ReflectliteValue.valueError "reflectlite.Value.Type" 0) (fun t _ _ _ => ReflectliteType.toType t)) args).run Tryd.prog w).andThen fun v w' => .ok (.value v) w' :=
  @run_callFunc_extern Tryd.prog 53 _ (ReflectliteValue.methodAny (ReflectliteValue.valueError "reflectlite.Value.Type" 0) (fun t _ _ _ => ReflectliteType.toType t)) Tryd.func53 (by kernel_rfl) (by kernel_rfl) (by kernel_rfl) (by kernel_rfl) args w
theorem ra_h22 (args : Array Value) (w : World) : (callFunc 54 args).run Tryd.prog w = (((ReflectliteValue.method (ReflectliteValue.valueError "reflectlite.Value.IsNil" 0) ReflectliteValue.isNil) args).run Tryd.prog w).andThen fun v w' => .ok (.value v) w' :=
  @run_callFunc_extern Tryd.prog 54 _ (ReflectliteValue.method (ReflectliteValue.valueError "reflectlite.Value.IsNil" 0) ReflectliteValue.isNil) Tryd.func54 (by kernel_rfl) (by kernel_rfl) (by kernel_rfl) (by kernel_rfl) args w
theorem ra_h56 (args : Array Value) (w : World) : (callFunc 78 args).run Tryd.prog w = (((ReflectliteType.abiMethod fun t => do pure (.int .u8 (← Rtype.kind t))) args).run Tryd.prog w).andThen fun v w' => .ok (.value v) w' :=
  @run_callFunc_extern Tryd.prog 78 _ (ReflectliteType.abiMethod fun t => do pure (.int .u8 (← Rtype.kind t))) Tryd.func78 (by kernel_rfl) (by kernel_rfl) (by kernel_rfl) (by kernel_rfl) args w
theorem ra_h65 (args : Array Value) (w : World) : (callFunc 92 args).run Tryd.prog w = (((ReflectliteType.method ReflectliteType.elem) args).run Tryd.prog w).andThen fun v w' => .ok (.value v) w' :=
  @run_callFunc_extern Tryd.prog 92 _ (ReflectliteType.method ReflectliteType.elem) Tryd.func92 (by kernel_rfl) (by kernel_rfl) (by kernel_rfl) (by kernel_rfl) args w
theorem ra_h66 (args : Array Value) (w : World) : (callFunc 93 args).run Tryd.prog w = (((ReflectliteType.relation "Implements" ReflectliteType.implements_) args).run Tryd.prog w).andThen fun v w' => .ok (.value v) w' :=
  @run_callFunc_extern Tryd.prog 93 _ (ReflectliteType.relation "Implements" ReflectliteType.implements_) Tryd.func93 (by kernel_rfl) (by kernel_rfl) (by kernel_rfl) (by kernel_rfl) args w
theorem ra_h63 (args : Array Value) (w : World) : (callFunc 90 args).run Tryd.prog w = (((ReflectliteType.relation "AssignableTo" ReflectliteType.assignableTo) args).run Tryd.prog w).andThen fun v w' => .ok (.value v) w' :=
  @run_callFunc_extern Tryd.prog 90 _ (ReflectliteType.relation "AssignableTo" ReflectliteType.assignableTo) Tryd.func90 (by kernel_rfl) (by kernel_rfl) (by kernel_rfl) (by kernel_rfl) args w
theorem ra_h28 (args : Array Value) (w : World) : (callFunc 60 args).run Tryd.prog w = (((ReflectliteValue.method (ReflectliteValue.valueError "reflectlite.Value.Elem" 0) ReflectliteValue.elem) args).run Tryd.prog w).andThen fun v w' => .ok (.value v) w' :=
  @run_callFunc_extern Tryd.prog 60 _ (ReflectliteValue.method (ReflectliteValue.valueError "reflectlite.Value.Elem" 0) ReflectliteValue.elem) Tryd.func60 (by kernel_rfl) (by kernel_rfl) (by kernel_rfl) (by kernel_rfl) args w
theorem ra_h29 (args : Array Value) (w : World) : (callFunc 61 args).run Tryd.prog w = (((ReflectliteValue.set) args).run Tryd.prog w).andThen fun v w' => .ok (.value v) w' :=
  @run_callFunc_extern Tryd.prog 61 _ ReflectliteValue.set Tryd.func61 (by kernel_rfl) (by kernel_rfl) (by kernel_rfl) (by kernel_rfl) args w

end Go.Proofs.YtkabkehfckbhcaaDoor

namespace Go.Proofs.YtkabkehfckbhcaaDoor
set_option linter.unusedVariables false
set_option linter.unusedSimpArgs false
open Go.RowKit Go.Extern.Stop Go.Stop Go.Extern

set_option maxHeartbeats 4000000 in
/-- errors.as at a *api.Errno: it goes down all places. -/
theorem as2_num (e : Value) (ways : List ByteArray) (n : Int) (t a0 : Addr) (old : Value) (w : World) (he : IsErr w e ways n) (ha : w.cell? a0 = some (.pointer (some t))) (ht : w.cell? t = some old) (hf : w.frozen? t = false) :
    Calls Tryd.prog 55 #[e, .iface 107 (.pointer (some t)), .agg #[.pointer (some ⟨1, 107, none⟩), .pointer (some a0), .int .u64 150], .iface 139 (.agg #[.pointer (some ⟨1, 83, none⟩)])] w
      fun ev w' => ev = .returned (.bool true) ∧ ∃ w1, Below w.heap.size w w1 ∧ w' = w1.setCell t (.int .i64 n) := by
  have h24 := @ra_h24
  have h20 := @ra_h20
  have h63 := @ra_h63
  have h28 := @ra_h28
  have h29 := @ra_h29
  have q1 := ra_methodAssignableTo
  have q2 := ra_typeOfW
  have q3 := ra_typeOfN
  have q4 := ra_assignN
  have q5 := ra_assignWN
  have q6 := ra_noAsW
  have q7 := ra_unwrapW
  have q8 := ra_methodUnwrap
  have q9 := ra_valueOfEN
  go_enter Tryd.func55, Tryd.ntmps55
  go_wp2
  go_loopg [0] ways.length (fun g x wr => ∃ r, g = r.length ∧ IsErr w x r n ∧ wr = w.alloc (.cells #[.pointer (some ⟨1, 107, none⟩), .pointer (some a0), .int .u64 150] 124))
  case atStart => exact ⟨ways, rfl, he, rfl⟩
  case round =>
    obtain ⟨r, rfl, hr, rfl⟩ := hrel
    cases r with
    | nil =>
      obtain rfl : u0 = _ := hr
      have ta := cell_lt ht
      have aa := cell_lt ha
      have el := ra_elemVN a0 t (w.alloc (.cells #[.pointer (some ⟨1, 107, none⟩), .pointer (some a0), .int .u64 150] 124)) (by rw [World.cell?_alloc_lt _ _ a0 aa]; exact ha)
      have st := ra_setN t ⟨w.heap.size + 1, 0, none⟩ n old ((w.alloc (.cells #[.pointer (some ⟨1, 107, none⟩), .pointer (some a0), .int .u64 150] 124)).alloc (.cells #[.int .i64 n] 83))
        (by rw [World.cell?_alloc_at _ _ _ _ (by simp)]; rfl)
        (by rw [World.cell?_alloc_lt _ _ t (by simp; omega), World.cell?_alloc_lt _ _ t ta]; exact ht)
        (by rw [World.frozen?_alloc_old _ _ t (by simp; omega), World.frozen?_alloc_old _ _ t (Nat.ne_of_lt ta)]; exact hf)
      go_wp2
      go_ret
      exact ⟨rfl, _, ((Below.refl _ _).alloc (Nat.le_refl _) _).alloc (by simp) _, rfl⟩
    | cons s r =>
      obtain ⟨b, v, rfl, hs, hv, hr'⟩ := hr
      have hv' : (w.alloc (.cells #[.pointer (some ⟨1, 107, none⟩), .pointer (some a0), .int .u64 150] 124)).cell? ⟨b, 1, none⟩ = some v := by rw [World.cell?_alloc_lt _ _ ⟨b, 1, none⟩ (cell_lt hv)]; exact hv
      obtain ⟨T, x, rfl⟩ := hr'.iface
      go_wp2_with (go_at_call 85; refine (unwrap_any b _ _ hv').mono ?_; rintro e w' ⟨rfl, rfl⟩)
      go_roundg r.length
      case rel => exact ⟨r, rfl, hr', rfl⟩
      case measure => simp

end Go.Proofs.YtkabkehfckbhcaaDoor

namespace Go.Proofs.YtkabkehfckbhcaaDoor
set_option linter.unusedVariables false
set_option linter.unusedSimpArgs false
open Go.RowKit Go.Extern.Stop Go.Stop Go.Extern

/-- What errors.errorType holds. -/
def HasET (W : World) : Prop := W.cell? ⟨0, 0, none⟩ = some (.iface 139 (.agg #[.pointer (some ⟨1, 32, none⟩)]))
theorem HasET.below {W w' : World} (h : HasET W) (hb : Below W.heap.size W w') : HasET w' := by
  unfold HasET at *
  rw [hb.cell (cell_lt h)]
  exact h

theorem as_nil (t : Value) (w : World) :
    Calls Tryd.prog 42 #[.nilIface, t] w fun e w' => e = .returned (.bool false) ∧ w' = w := by
  go_enter Tryd.func42, Tryd.ntmps42
  go_wp2
  go_ret
  exact ⟨rfl, rfl⟩

set_option maxHeartbeats 4000000 in
/-- errors.As at a *api.Errno. -/
theorem as_num (e : Value) (ways : List ByteArray) (n : Int) (t : Addr) (old : Value) (w : World) (hg : HasET w) (ht : w.cell? t = some old) (hf : w.frozen? t = false) (he : IsErr w e ways n) :
    Calls Tryd.prog 42 #[e, .iface 107 (.pointer (some t))] w fun ev w' => ev = .returned (.bool true) ∧ ∃ w1, Below w.heap.size w w1 ∧ w' = w1.setCell t (.int .i64 n) := by
  have h20 := @ra_h20
  have h21 := @ra_h21
  have h22 := @ra_h22
  have h56 := @ra_h56
  have h65 := @ra_h65
  have h66 := @ra_h66
  have q1 := ra_valueOfPN
  have q2 := ra_typePN
  have q3 := ra_methodKind
  have q4 := ra_kindPN
  have q5 := ra_kindEN
  have q6 := ra_methodElem
  have q7 := ra_methodImplements
  have q8 := ra_elemTN
  have q9 := ra_implementsN
  have h0 := cell_lt hg
  have ta := cell_lt ht
  have qi := ra_isNilN ⟨w.heap.size, 0, none⟩ t ((w.alloc (.cells #[.pointer (some t)] 107)).alloc (.cells #[.pointer (some ⟨1, 107, none⟩), .pointer (some ⟨w.heap.size, 0, none⟩), .int .u64 150] 124)) (by simp)
  have hg2 : ((w.alloc (.cells #[.pointer (some t)] 107)).alloc (.cells #[.pointer (some ⟨1, 107, none⟩), .pointer (some ⟨w.heap.size, 0, none⟩), .int .u64 150] 124)).cell? ⟨0, 0, none⟩ = some (.iface 139 (.agg #[.pointer (some ⟨1, 32, none⟩)])) := by
    rw [World.cell?_alloc_lt _ _ ⟨0, 0, none⟩ (by simp), World.cell?_alloc_lt _ _ ⟨0, 0, none⟩ h0]; exact hg
  obtain ⟨T, x, rfl⟩ := he.iface
  have hc := as2_num _ ways n t ⟨w.heap.size, 0, none⟩ old ((w.alloc (.cells #[.pointer (some t)] 107)).alloc (.cells #[.pointer (some ⟨1, 107, none⟩), .pointer (some ⟨w.heap.size, 0, none⟩), .int .u64 150] 124)) (he.below (((Below.refl _ _).alloc (Nat.le_refl _) _).alloc (by simp) _)) (by rw [World.cell?_alloc_lt _ _ _ (by simp)]; simp) (by rw [World.cell?_alloc_lt _ _ t (by simp; omega), World.cell?_alloc_lt _ _ t ta]; exact ht) (by rw [World.frozen?_alloc_old _ _ t (by simp; omega), World.frozen?_alloc_old _ _ t (Nat.ne_of_lt ta)]; exact hf)
  go_enter Tryd.func42, Tryd.ntmps42
  go_wp2_with (go_at_call 55; refine hc.mono ?_; rintro e w' ⟨rfl, w1, hb, rfl⟩)
  go_ret
  exact ⟨rfl, _, (((Below.refl _ _).alloc (Nat.le_refl _) _).alloc (by simp) _).trans (hb.mono (by simp; omega)), rfl⟩

end Go.Proofs.YtkabkehfckbhcaaDoor

namespace Go.Proofs.YtkabkehfckbhcaaDoor
set_option linter.unusedVariables false
set_option linter.unusedSimpArgs false
open Go.RowKit Go.Extern.Stop Go.Stop Go.Extern

/-- errors.As has laid v at t; below t all is as it was. -/
structure AsSet (w w' : World) (t : Addr) (v : Value) : Prop where
  got : w'.cell? t = some v
  rest : Below t.block w w'
theorem asSet_of {w w1 : World} {t : Addr} {old v : Value} (ht : w.cell? t = some old) (hb : Below w.heap.size w w1) : AsSet w (w1.setCell t v) t v :=
  ⟨World.cell?_setCell_same _ _ _ (u := old) (by rw [hb.cell (cell_lt ht)]; exact ht), (hb.mono (Nat.le_of_lt (cell_lt ht))).setCell (Nat.le_refl _) _⟩

theorem as_num' (e : Value) (ways : List ByteArray) (n : Int) (t : Addr) (old : Value) (w : World) (hg : HasET w) (ht : w.cell? t = some old) (hf : w.frozen? t = false) (he : IsErr w e ways n) :
    Calls Tryd.prog 42 #[e, .iface 107 (.pointer (some t))] w fun ev w' => ev = .returned (.bool true) ∧ AsSet w w' t (.int .i64 n) :=
  (as_num e ways n t old w hg ht hf he).mono fun ev w' ⟨h, w1, hb, hw⟩ => ⟨h, by rw [hw]; exact asSet_of ht hb⟩
theorem in_nil (s : ByteArray) (W : World) : Calls Tryd.prog 32 #[.string s, .nilIface] W fun e w' => e = .returned .nilIface ∧ w' = W := by
  go_enter Tryd.func32, Tryd.ntmps32
  go_wp2
  go_ret
  exact ⟨rfl, rfl⟩
theorem in_some (s : ByteArray) (T : TypeId) (x : Value) (W : World) : Calls Tryd.prog 32 #[.string s, .iface T x] W fun e w' => e = .returned (.iface 115 (.pointer (some ⟨W.heap.size, 0, none⟩))) ∧ w' = W.alloc (.cells #[.string s, .iface T x] 117) := by
  go_enter Tryd.func32, Tryd.ntmps32
  go_wp2
  go_ret
  exact ⟨rfl, rfl⟩
theorem IsErr.push {W : World} {l : List ByteArray} {T : TypeId} {x : Value} {n : Int} (h : IsErr W (.iface T x) l n) (s : ByteArray) : IsErr (W.alloc (.cells #[.string s, .iface T x] 117)) (.iface 115 (.pointer (some ⟨W.heap.size, 0, none⟩))) (s :: l) n :=
  ⟨W.heap.size, .iface T x, rfl, by simp, by rw [World.cell?_alloc_at _ _ _ _ (by simp)]; rfl, h.below ((Below.refl _ _).alloc (Nat.le_refl _) _)⟩
/-- In, of an error. -/
theorem in_err (s : ByteArray) (e : Value) (l : List ByteArray) (n : Int) (W : World) (h : IsErr W e l n) : Calls Tryd.prog 32 #[.string s, e] W fun ev w' => ∃ T x, ev = .returned (.iface T x) ∧ IsErr w' (.iface T x) (s :: l) n ∧ Below W.heap.size W w' := by
  obtain ⟨T, x, rfl⟩ := h.iface
  exact (in_some s T x W).mono fun ev w' ⟨h1, h2⟩ => ⟨_, _, h1, by rw [h2]; exact h.push s, by rw [h2]; exact (Below.refl _ _).alloc (Nat.le_refl _) _⟩

end Go.Proofs.YtkabkehfckbhcaaDoor
