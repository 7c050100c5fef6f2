/-
  serial: the walks of Less, Within, and of a window's methods.
-/
import Derived.Test.YtokogbkldgeeeaaProg
import Derived.Test.YtokogbkldgeeeaaIntMap
import Derived.WalkKit
import Derived.WalkLawsBesides
import Derived.Lib.Hide
import Derived.Deep.QuietTactic
import Derived.BigQuiet
import Derived.Deep.RegionLaw
namespace Go.Proofs.Ytokogbkldgeeeaa
set_option linter.unusedVariables false
set_option linter.unusedSimpArgs false
open Go.RowKit

def lessB (a b : Int) : Bool := decide (a ≠ b) && decide ((b - a) % 4294967296 < 2147483648)
def withinB (x f l : Int) : Bool := decide ((l - f) % 4294967296 < 2147483648) && decide ((x - f) % 4294967296 ≤ (l - f) % 4294967296)

theorem less_any (a b : Int) (w : World) (ha : 0 ≤ a ∧ a < 4294967296) (hb : 0 ≤ b ∧ b < 4294967296) :
    Calls Try.prog 9 #[.int .u32 a, .int .u32 b] w fun e w' => e = .returned (.bool (lessB a b)) ∧ w = w' := by
  by_cases h : a = b
  · have h1 : (a != b) = false := by simp [h]
    have h2 : lessB a b = false := by simp [lessB, h]
    have H2 := Lib.hid h2
    clear h h2
    go_enter Try.func9, Try.ntmps9
    go_wp2
    go_ret
    exact ⟨by rw [H2.out]; rfl, rfl⟩
  · have h1 : (a != b) = true := by simp [h]
    have h2 : lessB a b = decide ((b - a) % 4294967296 < 2147483648) := by simp [lessB, h]
    have H2 := Lib.hid h2
    clear h h2
    go_enter Try.func9, Try.ntmps9
    go_wp2
    go_ret
    exact ⟨by rw [H2.out]; rfl, rfl⟩

theorem within_any (x f l : Int) (w : World) :
    Calls Try.prog 10 #[.int .u32 x, .int .u32 f, .int .u32 l] w fun e w' => e = .returned (.bool (withinB x f l)) ∧ w = w' := by
  by_cases h : (l - f) % 4294967296 < 2147483648
  · have h1 : decide ((l - f) % 4294967296 < 2147483648) = true := by simp [h]
    have h2 : withinB x f l = decide ((x - f) % 4294967296 ≤ (l - f) % 4294967296) := by simp [withinB, h]
    have H2 := Lib.hid h2
    clear h h2
    go_enter Try.func10, Try.ntmps10
    go_wp2
    go_ret
    exact ⟨by rw [H2.out]; rfl, rfl⟩
  · have h1 : decide ((l - f) % 4294967296 < 2147483648) = false := by simp [h]
    have h2 : withinB x f l = false := by simp [withinB, h]
    have H2 := Lib.hid h2
    clear h h2
    go_enter Try.func10, Try.ntmps10
    go_wp2
    go_ret
    exact ⟨by rw [H2.out]; rfl, rfl⟩

/-- A set of numbers as a map's entries. -/
def setF (S : Int → Bool) : Int → Option Value := fun n => if S n then some (.bool true) else none
theorem setF_get (S : Int → Bool) (n : Int) : (setF S n).getD (.bool false) = .bool (S n) := by
  unfold setF; cases S n <;> rfl
def addS (S : Int → Bool) (x : Int) : Int → Bool := fun n => n == x || S n
def delS (S : Int → Bool) (x : Int) : Int → Bool := fun n => n != x && S n
theorem setF_add (S : Int → Bool) (x : Int) : (fun m => if m = x then some (Value.bool true) else setF S m) = setF (addS S x) := by
  funext m
  unfold setF addS
  by_cases h : m = x <;> simp [h]
theorem setF_del (S : Int → Bool) (x : Int) : (fun m => if m = x then none else setF S m) = setF (delS S x) := by
  funext m
  unfold setF delS
  by_cases h : m = x <;> simp [h]

/-- A window at block wb, its map at mb: the next number, the room, the numbers that came. -/
structure IsWin (w : World) (wb mb : Nat) (nx rm : Int) (S : Int → Bool) : Prop where
  cells : w.heap[wb]? = some (.cells #[.int .u32 nx, .int .i64 rm, .map (some mb)] 37)
  map : IntMap w mb .u32 (setF S)
  nx0 : 0 ≤ nx
  nx1 : nx < 4294967296
  rm0 : 0 ≤ rm
  rm1 : rm ≤ 65536
  ne : wb ≠ mb

section
variable {w : World} {wb mb : Nat} {nx rm : Int} {S : Int → Bool}
theorem IsWin.c0 (h : IsWin w wb mb nx rm S) : w.cell? ⟨wb, 0, none⟩ = some (.int .u32 nx) := by unfold World.cell?; rw [h.cells]; rfl
theorem IsWin.c1 (h : IsWin w wb mb nx rm S) : w.cell? ⟨wb, 1, none⟩ = some (.int .i64 rm) := by unfold World.cell?; rw [h.cells]; rfl
theorem IsWin.c2 (h : IsWin w wb mb nx rm S) : w.cell? ⟨wb, 2, none⟩ = some (.map (some mb)) := by unfold World.cell?; rw [h.cells]; rfl
theorem IsWin.fz (h : IsWin w wb mb nx rm S) (i : Nat) : w.frozen? ⟨wb, i, none⟩ = false := by unfold World.frozen?; rw [h.cells]; simp
theorem IsWin.lt (h : IsWin w wb mb nx rm S) : wb < w.heap.size := by
  by_cases hb : wb < w.heap.size
  · exact hb
  · have := h.cells; rw [Array.getElem?_eq_none (by omega)] at this; cases this
theorem IsWin.of_blocks {w' : World} (h : IsWin w wb mb nx rm S) (h1 : w'.heap[wb]? = w.heap[wb]?) (h2 : w'.heap[mb]? = w.heap[mb]?) : IsWin w' wb mb nx rm S :=
  ⟨h1.trans h.cells, h.map.of_block h2, h.nx0, h.nx1, h.rm0, h.rm1, h.ne⟩
theorem IsWin.drewN (h : IsWin w wb mb nx rm S) (n : Nat) : IsWin (w.drewN n) wb mb nx rm S := h.of_blocks rfl rfl
theorem IsWin.look (h : IsWin w wb mb nx rm S) (x : Int) (W : World) (hW : W.heap = w.heap) : (Instr.lookup 30 (.map (some mb)) (.int .u32 x) false).run Try.prog W = .ok (.bool (S x)) W := by
  have hm : IntMap W mb .u32 (setF S) := h.map.of_block (by rw [hW])
  have := run_lookup_intMap (P := Try.prog) (t := 30) (kt := 22) (e := 4) Try.underlying30 Try.underlying22 hm (z := .bool false) (by kernel_rfl) x
  rw [setF_get] at this
  exact this
end

/-- What was at w is as it was but for the blocks b and c. -/
def But2 (w w' : World) (b c : Nat) : Prop := w'.os = w.os ∧ w'.tape = w.tape ∧ w'.output = w.output ∧ w.heap.size ≤ w'.heap.size ∧ ∀ j, j < w.heap.size → j ≠ b → j ≠ c → w'.heap[j]? = w.heap[j]?
theorem But2.refl (w : World) (b c : Nat) : But2 w w b c := ⟨rfl, rfl, rfl, Nat.le_refl _, fun _ _ _ _ => rfl⟩
theorem But2.drewN (w : World) (n b c : Nat) : But2 w (w.drewN n) b c := ⟨rfl, rfl, rfl, Nat.le_refl _, fun _ _ _ _ => rfl⟩
theorem But2.trans {w w' w'' : World} {b c : Nat} (h : But2 w w' b c) (k : But2 w' w'' b c) : But2 w w'' b c :=
  ⟨k.1.trans h.1, k.2.1.trans h.2.1, k.2.2.1.trans h.2.2.1, Nat.le_trans h.2.2.2.1 k.2.2.2.1, fun j hj hb hc => (k.2.2.2.2 j (Nat.lt_of_lt_of_le hj h.2.2.2.1) hb hc).trans (h.2.2.2.2 j hj hb hc)⟩
theorem But2.below {w w' : World} {b c B : Nat} (h : But2 w w' b c) (hB : B ≤ w.heap.size) (hb : B ≤ b) (hc : B ≤ c) : Below B w w' :=
  ⟨h.1, h.2.1, h.2.2.1, h.2.2.2.1, fun k hk => h.2.2.2.2 k (by omega) (by omega) (by omega)⟩
theorem But2.turned {w w' : World} {b c : Nat} (h : MapTurned w w' c) : But2 w w' b c := ⟨h.1, h.2.1, h.2.2.1, Nat.le_of_eq h.2.2.2.1.symm, fun j _ _ hc => h.2.2.2.2 j hc⟩
theorem But2.setCell (w : World) (b o c : Nat) (v : Value) : But2 w (w.setCell ⟨b, o, none⟩ v) b c := ⟨rfl, rfl, rfl, by simp [World.setCell], fun j _ hb _ => Below.heap_setCell w _ v j hb⟩

theorem last_any {w : World} {wb mb : Nat} {nx rm : Int} {S : Int → Bool} (h : IsWin w wb mb nx rm S) :
    Calls Try.prog 16 #[.pointer (some ⟨wb, 0, none⟩)] w fun e w' => e = .returned (.int .u32 ((nx + rm - 1) % 4294967296)) ∧ ∃ m, w' = w.drewN m := by
  have c0 := h.c0
  have c1 := h.c1
  have h1 := h.rm0
  have h2 := h.rm1
  have h3 := h.nx0
  have h4 := h.nx1
  have he : ((nx + rm) % 4294967296 - 1) % 4294967296 = (nx + rm - 1) % 4294967296 := by omega
  have HE := Lib.hid he
  clear he
  go_enter Try.func16, Try.ntmps16
  go_wp2
  go_quiet (fail)
  go_wp2
  go_ret
  exact ⟨by rw [← HE.out]; rfl, _, rfl⟩

end Go.Proofs.Ytokogbkldgeeeaa
