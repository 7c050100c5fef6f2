/-
  woe: errors.Is over a chain, at an Errno.
-/
import Derived.Test.YtgoddepgdgdacaaDoorWoeAs3
import Derived.Lib.IfaceEq
namespace Go.Proofs.YtgoddepgdgdacaaDoor
set_option linter.unusedVariables false
set_option linter.unusedSimpArgs false
open Go.RowKit Go.Extern.Stop Go.Stop Go.Extern

def cmpF : TypeId → Sem Value := fun t => do Rtype.noPackHeld "Comparable" t; pure (.bool (← typeInfo t).comparable)
theorem ra_comparable (w : World) : ((Extern.ReflectliteType.method cmpF) #[.agg #[.pointer (some ⟨4, 22, none⟩)]]).run Tryd.prog w = .ok (.bool true) w := by kernel_rfl
theorem ra_methodComparable (v : Value) (w : World) : (Go.method 220 60 v "Comparable").run Tryd.prog w = .ok (64, v) w := by kernel_rfl
theorem ra_compN : (Tryd.prog.info? 22).map (·.comparable) = some true := by kernel_rfl
theorem ra_noIsW (v : Value) (xT : TypeId) (w : World) : (Instr.typeAssert (.iface 29 v) xT 71 true).run Tryd.prog w = .ok (.tuple #[.nilIface, .bool false]) w := run_typeAssert_lacksB Tryd.underlying71 (by kernel_rfl) (by kernel_rfl) v xT w
theorem ra_noIsN (v : Value) (xT : TypeId) (w : World) : (Instr.typeAssert (.iface 22 v) xT 71 true).run Tryd.prog w = .ok (.tuple #[.nilIface, .bool false]) w := run_typeAssert_lacksB Tryd.underlying71 (by kernel_rfl) (by kernel_rfl) v xT w

set_option maxHeartbeats 4000000 in
theorem is2_num (e : Value) (ways : List ByteArray) (n m : Int) (w : World) (he : IsErr w e ways n) :
    Calls Tryd.prog 25 #[e, .iface 22 (.int .i64 m), .bool true] w fun ev w' => ev = .returned (.bool (n == m)) ∧ w' = w := by
  have q6 := ra_noIsW
  have q6' := ra_noIsN
  have q7 := ra_unwrapW
  have q7' := ra_noUnwrapN
  have q7'' := ra_noUnwrapsN
  have q8 := ra_methodUnwrap
  have qe := fun w : World => Go.Lib.run_eql_iface_int (P := Tryd.prog) (k := .i64) w n m Tryd.underlying27 ra_compN Tryd.underlying22
  have qt := fun (v : Value) (w : World) => run_eql_iface_types (P := Tryd.prog) 29 22 v (.int .i64 m) Tryd.underlying27 (by decide) w
  go_enter Tryd.func25, Tryd.ntmps25
  go_wp2
  go_loopg [0] ways.length (fun g x wr => ∃ r, g = r.length ∧ IsErr w x r n ∧ wr = w)
  case atStart => exact ⟨ways, rfl, he, rfl⟩
  case round =>
    obtain ⟨r, rfl, hr, rfl⟩ := hrel
    cases r with
    | nil =>
      obtain rfl : u0 = _ := hr
      by_cases hnm : n = m
      · subst hnm
        have ht : (n == n) = true := by simp
        go_wp2
        go_ret
        exact ⟨by simp, rfl⟩
      · have ht : (n == m) = false := by simpa using hnm
        go_wp2
        go_ret
        exact ⟨congrArg (fun b => Ending.returned (.bool b)) ht.symm, rfl⟩
    | cons s r =>
      obtain ⟨b, v, rfl, hs, hv, hr'⟩ := hr
      obtain ⟨T, x, rfl⟩ := hr'.iface
      go_wp2_with (go_at_call 13; refine (unwrap_any b _ _ hv).mono ?_; rintro e w' ⟨rfl, rfl⟩)
      go_roundg r.length
      case rel => exact ⟨r, rfl, hr', rfl⟩
      case measure => simp

set_option maxHeartbeats 4000000 in
theorem is_num (e : Value) (ways : List ByteArray) (n m : Int) (w : World) (he : IsErr w e ways n) :
    Calls Tryd.prog 14 #[e, .iface 22 (.int .i64 m)] w fun ev w' => ev = .returned (.bool (n == m)) ∧ w' = w := by
  have h24 := @ra_h24
  have h64 := @run_callFunc_extern Tryd.prog 64 _ (Extern.ReflectliteType.method cmpF) Tryd.func64 (by kernel_rfl) (by kernel_rfl) (by kernel_rfl) (by kernel_rfl)
  have q1 := ra_typeOfN
  have q2 := ra_comparable
  have q3 := ra_methodComparable
  have hc := is2_num e ways n m w he
  obtain ⟨T, x, rfl⟩ := he.iface
  go_enter Tryd.func14, Tryd.ntmps14
  go_wp2_with (go_at_call 25; refine hc.mono ?_; rintro e w' ⟨rfl, rfl⟩)
  go_ret
  exact ⟨rfl, rfl⟩
theorem is_nil (m : Int) (w : World) :
    Calls Tryd.prog 14 #[.nilIface, .iface 22 (.int .i64 m)] w fun ev w' => ev = .returned (.bool false) ∧ w' = w := by
  have hn := run_eql_iface_nil_left (P := Tryd.prog) w 22 (.int .i64 m) Tryd.underlying27
  go_enter Tryd.func14, Tryd.ntmps14
  go_wp2
  go_ret
  exact ⟨rfl, rfl⟩
end Go.Proofs.YtgoddepgdgdacaaDoor
