/-
  Bytes as strings, and strings as bytes: conversions, equality, append of a string.
-/
import Derived.Test.YtkabkehfckbhcaaDoorMgA
import Derived.Laws.BytesArg
import Derived.Lib.AppendStr
namespace Go.Proofs.YtkabkehfckbhcaaDoor
set_option linter.unusedVariables false
set_option linter.unusedSimpArgs false
open Go.RowKit

/-- Bytes as a string. -/
def strB (l : List Nat) : ByteArray := strOfNums (l.map fun (c : Nat) => (c : Int))
/-- A string as bytes. -/
def byB (s : ByteArray) : List Nat := s.data.toList.map UInt8.toNat
theorem byB_length (s : ByteArray) : (byB s).length = s.size := by unfold byB; rw [List.length_map, Array.length_toList]; rfl
theorem byB_lt (s : ByteArray) : ∀ c ∈ byB s, c < 256 := by
  intro c hc
  obtain ⟨u, _, rfl⟩ := List.mem_map.1 hc
  exact UInt8.toNat_lt u
theorem byB_strB (l : List Nat) (h : ∀ c ∈ l, c < 256) : byB (strB l) = l := by
  unfold byB strB
  rw [strOfNums_data, List.map_map, List.map_map]
  conv => rhs; rw [← List.map_id l]
  apply List.map_congr_left
  intro c hc
  have := h c hc
  show (UInt8.ofNat ((c : Int)).toNat).toNat = c
  rw [Int.toNat_natCast, UInt8.toNat_ofNat', Nat.mod_eq_of_lt (by omega)]
theorem strB_size (l : List Nat) : (strB l).size = l.length := by rw [strB, strOfNums_size]; simp
theorem strB_beq (l m : List Nat) (hl : ∀ c ∈ l, c < 256) (hm : ∀ c ∈ m, c < 256) : ((strB l).toList == (strB m).toList) = decide (l = m) := by
  by_cases h : l = m
  · subst h; simp
  · have : (strB l).toList ≠ (strB m).toList := fun e => h (by rw [← byB_strB l hl, ← byB_strB m hm]; unfold byB; rw [← ByteArray.toList_eq, ← ByteArray.toList_eq, e])
    simp [h, this]
theorem conv_bytes {w : World} {a : Option Addr} {l : List Nat} {n cap : Nat} (h : IsBytes w a l) (hn : n = l.length) : (convert 91 9 (.slice a n cap)).run Tryd.prog w = .ok (.string (strB l)) w := by
  subst hn
  rcases h.2 with rfl | ⟨b, off, rfl, hc⟩
  · cases a with
    | none => exact run_convert_bytes_nil w 91 5 Tryd.underlying91 Tryd.underlying5 0 cap 9 Tryd.underlying9
    | some ad =>
      rw [run_convert_bytes_string w 91 9 5 _ _ cap Tryd.underlying91 Tryd.underlying5 Tryd.underlying9]
      exact run_bytesToString w ad 0 cap [] (run_loadCells_list w ad [] (by simp))
  · refine run_convert_bytes_arg w 91 5 Tryd.underlying91 Tryd.underlying5 b off l.length cap (l.map fun (c : Nat) => (c : Int)) (by simp) (fun i hi => ?_) 9 Tryd.underlying9
    rw [hc i hi]
    simp [List.getD, hi]

/-- A block's type is one. -/
theorem Own.ne_blk {w : World} {base : Nat} {v : Value} {l : List Nat} (h : Own w base v l) {b : Nat} {cs : Array Value} {t : TypeId} (hb : IsBlk w b cs t) (ht : t ≠ 5) : v.ownBlock ≠ some b := by
  intro e
  rcases h.1.2 with ⟨rfl, _⟩ | ⟨g, cap, cur, rfl, _, hh, _⟩
  · simp [Value.ownBlock] at e
  · simp [Value.ownBlock] at e
    subst e
    have hb' : w.heap[g]? = some (.cells cs t) := hb
    rw [hh] at hb'
    injection hb' with hb'
    injection hb' with _ h2
    exact ht h2.symm
theorem strCells_bv (s : ByteArray) : Lib.strCells s = bv (byB s) := by
  simp [Lib.strCells, bv, byB, List.map_map]
/-- append of a string's bytes, at a list of operations. -/
theorem wpList_appS {ops : Array Oper} {rest : List Oper} {o : Oper} {a : Act} {w : World} {Q : Exit → Act → World → Prop} (hgd : o.guard = none) (s x : Operand)
    (ho : o.op = .call { callee := .builtin .append, args := #[s, x], argTypes := #[91, 9] })
    (base : Nat) (v : Value) (l : List Nat) (hs : a.eval s = v) (hown : Own w base v l) (t : ByteArray) (hx : a.eval x = .string t)
    (hlen : l.length + t.size ≤ 140737488355328) (hbase : base ≤ w.heap.size)
    (h : ∀ v' w', Own w' base v' (l ++ byB t) → Below base w w' → w.grownBy w' v.ownBlock → wpList Tryd.prog ops Q rest (a.put o.dst v') w') :
    wpList Tryd.prog ops Q (o :: rest) a w := by
  obtain ⟨i0, hi, hz0, hz1, hz2⟩ := info_parts Tryd.info8
  refine Lib.wpList_append_own_string w hgd s x 91 9 ho base 5 i0 Tryd.underlying91 Tryd.underlying9 hi hz0 hz1 hz2 v l.length (bv l) hs hown.1 t hx (by unfold maxLen; omega) hlen hbase fun v' w' h2 h3 _ => ?_
  refine h v' w' ⟨by rw [bv_append, List.length_append, byB_length]; rw [strCells_bv] at h2; exact h2, ?_⟩ ((Below.refl base w).grown h3 hbase hown.base_le) h3
  intro c hc
  rcases List.mem_append.1 hc with hc | hc
  · exact hown.2 c hc
  · exact byB_lt t c hc
end Go.Proofs.YtkabkehfckbhcaaDoor
