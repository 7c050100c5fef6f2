/-
  cdb: what sixteen bytes ask for, in plain numbers.
-/
import Derived.Test.YtpcgnffkhkdkhaaCdbNum
namespace Go.Proofs.Ytpcgnffkhkdkhaa
set_option linter.unusedVariables false
set_option linter.unusedSimpArgs false

/-- What is asked for. -/
structure TK where
  act : Nat := 0
  lba : Nat := 0
  n : Nat := 0
  fua : Bool := false
  unmap : Bool := false
  action : Nat := 0
  scope : Nat := 0
  type : Nat := 0
  alloc : Nat := 0
  length : Nat := 0
  page : Nat := 0
  vital : Bool := false
deriving DecidableEq
/-- Its cells. -/
def TK.cells (t : TK) : Array Value := #[.int .i64 t.act, .int .u64 t.lba, .int .u64 t.n, .bool t.fua, .bool t.unmap, .int .i64 t.action, .int .i64 t.scope, .int .i64 t.type, .int .i64 t.alloc, .int .i64 t.length, .int .i64 t.page, .bool t.vital]
/-- Nothing, for a reason. -/
def no (code : Nat) : TK × Nat := ({}, code)

/-- Bit 3. -/
def bit3 (f : Nat) : Bool := f / 8 % 2 == 1
/-- The other bits. -/
def rest3 (f : Nat) : Nat := f - f / 8 % 2 * 8
/-- A command that names blocks: op its kind, f its flags, l and n the blocks. -/
def blkP (op f l n : Nat) : TK × Nat :=
  if op = 40 ∨ op = 136 then (if rest3 f ≠ 0 then no 9216 else if 8 < n then no 9216 else ({ act := 6, lba := l, n := n, fua := bit3 f, alloc := 64 * n }, 0))
  else if op = 42 ∨ op = 138 then (if rest3 f ≠ 0 then no 9216 else if 8 < n then no 9216 else ({ act := 7, lba := l, n := n, fua := bit3 f, length := 64 * n }, 0))
  else if op = 65 ∨ op = 147 then (if rest3 f ≠ 0 then no 9216 else if n = 0 ∨ 8 < n then no 9216 else ({ act := 8, lba := l, n := n, unmap := bit3 f, length := 64 }, 0))
  else if op = 137 then (if rest3 f ≠ 0 then no 9216 else if n = 0 ∨ 8 < n then no 9216 else ({ act := 10, lba := l, n := n, fua := bit3 f, length := 128 * n }, 0))
  else if op = 53 ∨ op = 145 then (if f ≠ 0 then no 9216 else ({ act := 11, lba := l, n := n }, 0))
  else no 8192
def at_ (b : List Nat) (o n : Nat) : Nat := numOf ((b.drop o).take n)
/-- The blocks that a command names. -/
def lbaP (b : List Nat) : Nat := if b.getD 0 0 = 136 ∨ b.getD 0 0 = 138 ∨ b.getD 0 0 = 147 ∨ b.getD 0 0 = 145 ∨ b.getD 0 0 = 137 then at_ b 2 8 else at_ b 2 4
def nP (b : List Nat) : Nat := if b.getD 0 0 = 136 ∨ b.getD 0 0 = 138 ∨ b.getD 0 0 = 147 ∨ b.getD 0 0 = 145 then at_ b 10 4 else if b.getD 0 0 = 137 then b.getD 13 0 else at_ b 7 2
def blocksP (b : List Nat) : TK × Nat := blkP (b.getD 0 0) (b.getD 1 0) (lbaP b) (nP b)
/-- What a command asks for. -/
def decP (b : List Nat) : TK × Nat :=
  if b.getD 0 0 = 0 then ({ act := 1 }, 0)
  else if b.getD 0 0 = 18 then (if b.getD 1 0 / 2 ≠ 0 ∨ (b.getD 1 0 % 2 = 0 ∧ b.getD 2 0 ≠ 0) then no 9216 else ({ act := 2, vital := b.getD 1 0 % 2 == 1, page := b.getD 2 0, alloc := at_ b 3 2 }, 0))
  else if b.getD 0 0 = 37 then ({ act := 3, alloc := 8 }, 0)
  else if b.getD 0 0 = 158 then (if b.getD 1 0 ≠ 16 then no 9216 else ({ act := 4, alloc := at_ b 10 4 }, 0))
  else if b.getD 0 0 = 160 then (if 2 < b.getD 2 0 then no 9216 else ({ act := 5, alloc := at_ b 6 4 }, 0))
  else if b.getD 0 0 = 94 then (if 1 < b.getD 1 0 then no 9216 else ({ act := 12, action := b.getD 1 0, alloc := at_ b 7 2 }, 0))
  else if b.getD 0 0 = 95 then (if 6 < b.getD 1 0 ∨ b.getD 2 0 / 16 ≠ 0 then no 9216 else if at_ b 5 4 ≠ 24 then no 6656 else ({ act := 13, action := b.getD 1 0, scope := b.getD 2 0 / 16, type := b.getD 2 0 % 16, length := at_ b 5 4 }, 0))
  else if b.getD 0 0 = 66 then (if at_ b 7 2 ≠ 24 ∧ at_ b 7 2 ≠ 0 then no 6656 else ({ act := 9, length := at_ b 7 2 }, 0))
  else blocksP b

theorem and8 (f : Nat) (h : f < 256) : Go.bits .and .u8 (f : Int) 8 = ((f / 8 % 2 * 8 : Nat) : Int) := by
  have : ∀ f : Fin 256, Go.bits .and .u8 (f.1 : Int) 8 = ((f.1 / 8 % 2 * 8 : Nat) : Int) := by decide +kernel
  exact this ⟨f, h⟩
theorem andNot8 (f : Nat) (h : f < 256) : Go.bits .andNot .u8 (f : Int) 8 = ((rest3 f : Nat) : Int) := by
  have : ∀ f : Fin 256, Go.bits .andNot .u8 (f.1 : Int) 8 = ((f.1 - f.1 / 8 % 2 * 8 : Nat) : Int) := by decide +kernel
  exact this ⟨f, h⟩
theorem and1 (f : Nat) (h : f < 256) : Go.bits .and .u8 (f : Int) 1 = ((f % 2 : Nat) : Int) := by
  have : ∀ f : Fin 256, Go.bits .and .u8 (f.1 : Int) 1 = ((f.1 % 2 : Nat) : Int) := by decide +kernel
  exact this ⟨f, h⟩
theorem andNot1 (f : Nat) (h : f < 256) : Go.bits .andNot .u8 (f : Int) 1 = ((f / 2 * 2 : Nat) : Int) := by
  have : ∀ f : Fin 256, Go.bits .andNot .u8 (f.1 : Int) 1 = ((f.1 / 2 * 2 : Nat) : Int) := by decide +kernel
  exact this ⟨f, h⟩
theorem and15 (f : Nat) (h : f < 256) : Go.bits .and .u8 (f : Int) 15 = ((f % 16 : Nat) : Int) := by
  have : ∀ f : Fin 256, Go.bits .and .u8 (f.1 : Int) 15 = ((f.1 % 16 : Nat) : Int) := by decide +kernel
  exact this ⟨f, h⟩
theorem at_lt (b : List Nat) (hb : ∀ c ∈ b, c < 256) (o n : Nat) : at_ b o n < 256 ^ n := by
  unfold at_
  have hl : ((b.drop o).take n).length ≤ n := by rw [List.length_take]; omega
  have h := numOf_lt ((b.drop o).take n) (fun c hc => hb c (List.mem_of_mem_drop (List.mem_of_mem_take hc))) _ (Nat.le_refl _)
  rw [List.take_length] at h
  exact Nat.lt_of_lt_of_le h (Nat.pow_le_pow_right (by decide) hl)
end Go.Proofs.Ytpcgnffkhkdkhaa
