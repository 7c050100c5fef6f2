/-
  pdu: the document's answer in lists of numbers.
-/
import Derived.Test.YtaehaclmagnncaaPcFits
namespace Go.Proofs.Ytaehaclmagnncaa
set_option linter.unusedVariables false
set_option linter.unusedSimpArgs false

/-- A PDU. -/
structure PD where
  op : Int := 0
  imm : Bool := false
  flags : Nat := 0
  s0 : Nat := 0
  s1 : Nat := 0
  ahs : List Nat := []
  lun : Nat := 0
  tag : Nat := 0
  words : List Nat := [0, 0, 0, 0, 0, 0, 0]
  data : List Nat := []
deriving DecidableEq
/-- Its numbers are within their types. -/
structure PD.Ok (p : PD) : Prop where
  flags : p.flags < 256
  s0 : p.s0 < 256
  s1 : p.s1 < 256
  ahs : ∀ c ∈ p.ahs, c < 256
  lun : p.lun < 18446744073709551616
  tag : p.tag < 4294967296
  wl : p.words.length = 7
  words : ∀ c ∈ p.words, c < 4294967296
  data : ∀ c ∈ p.data, c < 256
def PD.may (p : PD) : Bool := decide (0 ≤ p.op ∧ p.op < 64 ∧ p.ahs.length ≤ 32 ∧ p.ahs.length % 4 = 0 ∧ p.data.length ≤ 256)
def be4 (x : Nat) : List Nat := [x / 16777216 % 256, x / 65536 % 256, x / 256 % 256, x % 256]
def be8 (x : Nat) : List Nat := be4 (x / 4294967296) ++ be4 (x % 4294967296)
def opByte (p : PD) : Nat := p.op.toNat + (if p.imm then 64 else 0)
/-- The first 48 bytes. -/
def headP (p : PD) : List Nat := [opByte p, p.flags, p.s0, p.s1, p.ahs.length / 4, 0, p.data.length / 256, p.data.length % 256] ++ be8 p.lun ++ be4 p.tag ++ p.words.flatMap be4
def sumd (l : List Nat) : List Nat := four (sumPlain l)
def pad (l : List Nat) : List Nat := l ++ List.replicate ((4 - l.length % 4) % 4) 0
def headsP (p : PD) (h : Bool) : List Nat := (headP p ++ p.ahs) ++ (if h then sumd (headP p ++ p.ahs) else [])
def dataP (p : PD) (d : Bool) : List Nat := if p.data = [] then [] else pad p.data ++ (if d then sumd (pad p.data) else [])
def encP (p : PD) (h d : Bool) : List Nat := if p.may then headsP p h ++ dataP p d else []

/-- Bytes as a number, the highest first. -/
def numB (l : List Nat) : Nat := l.foldl (fun x c => x * 256 + c) 0
def sub (b : List Nat) (o n : Nat) : List Nat := (b.drop o).take n
def wordsP (b : List Nat) : List Nat := (List.range 7).map fun i => numB (sub b (20 + 4 * i) 4)
def ahsN (b : List Nat) : Nat := 4 * b.getD 4 0
def dataN (b : List Nat) : Nat := numB (sub b 5 3)
def atN (b : List Nat) (h : Bool) : Nat := 48 + ahsN b + (if h then 4 else 0)
def endN (b : List Nat) (h d : Bool) : Nat := atN b h + (dataN b + 3) / 4 * 4 + (if d && decide (0 < dataN b) then 4 else 0)
def badHead (b : List Nat) : Bool := decide (128 ≤ b.getD 0 0) || decide (32 < ahsN b) || decide (256 < dataN b)
/-- What is read, but for the data. -/
def readP (b : List Nat) : PD where
  op := (b.getD 0 0 % 64 : Nat)
  imm := decide (64 ≤ b.getD 0 0)
  flags := b.getD 1 0
  s0 := b.getD 2 0
  s1 := b.getD 3 0
  ahs := sub b 48 (ahsN b)
  lun := numB (sub b 8 8)
  tag := numB (sub b 16 4)
  words := wordsP b
  data := []
/-- What a reader finds: 0 nothing, 1 a whole one, 2 bad data, 3 broken; the PDU; what waits then. -/
inductive Fd where
  | nothing | broken | bad | whole
deriving DecidableEq
def Fd.code : Fd → Nat
  | .nothing => 0 | .whole => 1 | .bad => 2 | .broken => 3
def findP (b : List Nat) (h d : Bool) : Fd :=
  if b.length < 48 then .nothing
  else if badHead b then .broken
  else if h && decide (b.length < atN b true) then .nothing
  else if h && !fitsB (b.take (atN b true)) then .broken
  else if b.length < endN b h d then .nothing
  else if d && decide (0 < dataN b) && !fitsB (sub b (atN b h) (endN b h d - atN b h)) then .bad
  else .whole
def pduP (b : List Nat) (h d : Bool) : PD := match findP b h d with
  | .nothing | .broken => {}
  | .bad => readP b
  | .whole => { readP b with data := sub b (atN b h) (dataN b) }
def restP (b : List Nat) (h d : Bool) : List Nat := match findP b h d with
  | .nothing => b
  | .broken => []
  | .bad | .whole => b.drop (endN b h d)
end Go.Proofs.Ytaehaclmagnncaa
