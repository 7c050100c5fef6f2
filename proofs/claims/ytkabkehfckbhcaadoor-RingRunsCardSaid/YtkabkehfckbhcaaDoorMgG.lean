/-
  ring: the document's answer in lists of numbers.
  ring: a ring in memory; sectors, at, Room, Fits, Head, Cut.
  ring: put and get: numbers in a page.
  ring: Head, Cut; what of a ring's struct turns.
  ring: Add in plain lists; the changes that come in.
  ring: a mark, built.
-/
import Derived.Test.YtkabkehfckbhcaaDoorMgC
import Derived.Test.YtkabkehfckbhcaaDoorMgF
import Derived.Test.YtkabkehfckbhcaaDoorMgD
import Derived.Test.YtkabkehfckbhcaaDoorMgA
import Derived.Deep.QuietTactic
import Derived.Lib.EndianBits
import Derived.Test.YtkabkehfckbhcaaDoorMgE
namespace Go.Proofs.YtkabkehfckbhcaaDoor
set_option linter.unusedVariables false
set_option linter.unusedSimpArgs false

/-- A change: a page's number (as it came) and its bytes. -/
abbrev CH := Int × List Nat
/-- A ring: where it lies, the head's mark, how much is taken. -/
structure RS where
  first : Nat
  n : Nat
  place : Nat
  num : Nat
  last : List Nat
  used : Nat
def takes (k : Nat) : Nat := 1 + (k + 15) / 16 + k
/-- The n lowest bytes of a number, the lowest first. -/
def leB (n x : Nat) : List Nat := (List.range n).map fun i => x / 2 ^ (8 * i) % 256
theorem leB_length (n x : Nat) : (leB n x).length = n := by simp [leB]
theorem leB_lt (n x : Nat) : ∀ c ∈ leB n x, c < 256 := by
  intro c hc
  obtain ⟨i, _, rfl⟩ := List.mem_map.1 hc
  exact Nat.mod_lt _ (by decide)
/-- A change's number in four bytes. -/
def atB (z : Int) : List Nat := leB 4 (z % 4294967296).toNat
theorem atB_length (z : Int) : (atB z).length = 4 := leB_length _ _
/-- Bytes, filled up to a sector. -/
def padPg (l : List Nat) : List Nat := l ++ List.replicate (64 - l.length) 0
theorem padPg_length (l : List Nat) (h : l.length ≤ 64) : (padPg l).length = 64 := by simp [padPg]; omega
/-- What a record's first sector begins with. -/
def headB (num k : Nat) : List Nat := 84 :: leB 8 num ++ [k % 256]
theorem headB_length (num k : Nat) : (headB num k).length = 10 := by simp [headB, leB_length]
/-- The sector of the numbers i .. i + 15. -/
def idxPg (l : List CH) (i : Nat) : List Nat := padPg (((l.drop (16 * i)).take 16).flatMap fun c => atB c.1)
theorem idx_length (l : List CH) : (l.flatMap fun c => atB c.1).length = 4 * l.length := by
  induction l with
  | nil => rfl
  | cons x r ih => rw [List.flatMap_cons, List.length_append, ih, atB_length, List.length_cons]; omega
theorem idxPg_length (l : List CH) (i : Nat) : (idxPg l i).length = 64 := padPg_length _ (by rw [idx_length, List.length_take]; omega)
/-- The sectors behind the first one. -/
def bodyPgs (l : List CH) : List (List Nat) := (List.range ((l.length + 15) / 16)).map (idxPg l) ++ l.map (·.2)
theorem bodyPgs_length (l : List CH) : (bodyPgs l).length + 1 = takes l.length := by simp [bodyPgs, takes]; omega
/-- What a record's digest is made of. -/
def sumIn (last : List Nat) (num : Nat) (l : List CH) : List Nat := last ++ headB num l.length ++ (bodyPgs l).flatten
def recSum (last : List Nat) (num : Nat) (l : List CH) : List Nat := digest (sumIn last num l)
def headPg (last : List Nat) (num : Nat) (l : List CH) : List Nat := padPg (headB num l.length ++ recSum last num l)
theorem headPg_length (last : List Nat) (num : Nat) (l : List CH) : (headPg last num l).length = 64 := padPg_length _ (by rw [List.length_append, headB_length]; unfold recSum; rw [digest_length]; omega)
/-- A record's sectors. -/
def recPgs (last : List Nat) (num : Nat) (l : List CH) : List (List Nat) := headPg last num l :: bodyPgs l
theorem recPgs_length (last : List Nat) (num : Nat) (l : List CH) : (recPgs last num l).length = takes l.length := by rw [← bodyPgs_length]; rfl
/-- The head behind a record of k changes. -/
def RS.behind (s : RS) (k : Nat) (sum : List Nat) : RS := { s with place := (s.place + takes k) % s.n, num := (s.num + 1) % 18446744073709551616, last := sum, used := s.used + takes k }
def RS.fits (s : RS) (k : Nat) : Bool := decide (1 ≤ k) && decide (k ≤ 60) && decide (takes k ≤ s.n - s.used)
def RS.addE (s : RS) (k : Nat) : Nat := if k < 1 ∨ 60 < k then 11 else if s.n - s.used < takes k then 20 else 0
/-- Sectors written, one behind the other, around. -/
def putAll (s : RS) : List (List Nat) → Nat → DK → DK
  | [], _, d => d
  | p :: r, i, d => putAll s r (i + 1) (d.write ((s.first + (s.place + i) % s.n : Nat) : Int) p)
def RS.add (s : RS) (l : List CH) (d : DK) : RS × DK :=
  if s.addE l.length = 0 then (s.behind l.length (recSum s.last s.num l), putAll s (recPgs s.last s.num l) 0 d) else (s, d)
/-- A number of bytes, the lowest first. -/
def leN : List Nat → Nat
  | [] => 0
  | c :: r => c + 256 * leN r
/-- The sectors of a record of k changes at the head. -/
def RS.sector (s : RS) (d : DK) (i : Nat) : List Nat := d.read ((s.first + (s.place + i) % s.n : Nat) : Int)
def chAt (s : RS) (d : DK) (k c : Nat) : CH := ((leN (((s.sector d (1 + c / 16)).drop (4 * (c % 16))).take 4) : Nat), s.sector d (1 + (k + 15) / 16 + c))
def RS.look (s : RS) (d : DK) : List CH × List Nat :=
  let p := s.sector d 0
  let k := p.getD 9 0
  let l := (List.range k).map (chAt s d k)
  let sum := digest (s.last ++ p.take 10 ++ ((List.range (takes k - 1)).map fun i => s.sector d (i + 1)).flatten)
  if p.getD 0 0 = 84 ∧ leN ((p.drop 1).take 8) = s.num ∧ 1 ≤ k ∧ k ≤ 60 ∧ takes k ≤ s.n - s.used ∧ sum = (p.drop 10).take 32 then (l, sum) else ([], [])
/-- The ring that is opened at a mark, and the records; fuel bounds the steps. -/
def openP (d : DK) : Nat → RS → RS × List (List CH)
  | 0, s => (s, [])
  | f + 1, s => let r := s.look d
    if r.1 = [] then (s, []) else
      let q := openP d f (s.behind r.1.length r.2)
      (q.1, r.1 :: q.2)
structure RSok (s : RS) (size : Nat) : Prop where
  n1 : 96 ≤ s.n
  n2 : s.n ≤ 4096
  fit : s.first + s.n ≤ size
  place : s.place < s.n
  num : s.num < 18446744073709551616
  len : s.last.length = 32
  byte : ∀ c ∈ s.last, c < 256
  used : s.used ≤ s.n
theorem digest_lt (l : List Nat) : ∀ c ∈ digest l, c < 256 := by
  intro c hc
  unfold digest outOf at hc
  obtain ⟨i, _, rfl⟩ := List.mem_map.1 hc
  exact Nat.mod_lt _ (by decide)
theorem RSok.behind {s : RS} {size : Nat} (h : RSok s size) (k : Nat) (hk : takes k ≤ s.n - s.used) (l : List Nat) : RSok (s.behind k (digest l)) size :=
  ⟨h.n1, h.n2, h.fit, Nat.mod_lt _ (by have := h.n1; omega), Nat.mod_lt _ (by decide), digest_length _, digest_lt _, by show s.used + takes k ≤ s.n; have := h.used; omega⟩
end Go.Proofs.YtkabkehfckbhcaaDoor

namespace Go.Proofs.YtkabkehfckbhcaaDoor
set_option linter.unusedVariables false
set_option linter.unusedSimpArgs false
open Go.RowKit

def markL (s : RS) : List Value := [.int .i64 ((s.place : Nat) : Int), .int .u64 ((s.num : Nat) : Int)] ++ bv s.last
def ringL (db : Nat) (s : RS) : List Value := [.pointer (some ⟨db, 0, none⟩), .int .i64 ((s.first : Nat) : Int), .int .i64 ((s.n : Nat) : Int)] ++ (markL s ++ [.int .i64 ((s.used : Nat) : Int)])
/-- A ring's struct: its disk's block, its numbers. -/
def IsRg (t : TypeId) (w : World) (rg db : Nat) (s : RS) : Prop := IsBlk w rg (ringL db s).toArray t
section
variable {t : TypeId} {w : World} {rg db : Nat} {s : RS} {size : Nat}
theorem ringL_used (h : s.last.length = 32) : (ringL db s).toArray[37]? = some (.int .i64 ((s.used : Nat) : Int)) := by
  rw [List.getElem?_toArray]
  unfold ringL markL
  simp [bv_length, h]
theorem IsRg.c0 (h : IsRg t w rg db s) : w.cell? ⟨rg, 0, none⟩ = some (.pointer (some ⟨db, 0, none⟩)) := h.cell 0 rfl
theorem IsRg.c1 (h : IsRg t w rg db s) : w.cell? ⟨rg, 1, none⟩ = some (.int .i64 ((s.first : Nat) : Int)) := h.cell 1 rfl
theorem IsRg.c2 (h : IsRg t w rg db s) : w.cell? ⟨rg, 2, none⟩ = some (.int .i64 ((s.n : Nat) : Int)) := h.cell 2 rfl
theorem IsRg.c3 (h : IsRg t w rg db s) : w.cell? ⟨rg, 3, none⟩ = some (.int .i64 ((s.place : Nat) : Int)) := h.cell 3 rfl
theorem IsRg.c4 (h : IsRg t w rg db s) : w.cell? ⟨rg, 4, none⟩ = some (.int .u64 ((s.num : Nat) : Int)) := h.cell 4 rfl
theorem IsRg.c37 (h : IsRg t w rg db s) (hl : s.last.length = 32) : w.cell? ⟨rg, 37, none⟩ = some (.int .i64 ((s.used : Nat) : Int)) := h.cell 37 (ringL_used hl)
theorem IsRg.last (h : IsRg t w rg db s) : w.rangeAt rg 5 (bv s.last) := fun j v hv => by
  refine h.cell (5 + j) ?_
  rw [List.getElem?_toArray]
  unfold ringL markL
  have hj : j < (bv s.last).length := (List.getElem?_eq_some_iff.1 hv).1
  rw [List.getElem?_append_right (by simp; omega), List.getElem?_append_left (by simp; omega), List.getElem?_append_right (by simp; omega)]
  have e : 5 + j - 3 - 2 = j := by omega
  simpa [e] using hv
theorem IsRg.mark (h : IsRg t w rg db s) : w.rangeAt rg 3 (markL s) := fun j v hv => by
  refine h.cell (3 + j) ?_
  rw [List.getElem?_toArray]
  unfold ringL
  have hj : j < (markL s).length := (List.getElem?_eq_some_iff.1 hv).1
  rw [List.getElem?_append_right (by simp), List.getElem?_append_left (by simp; omega)]
  simpa using hv
theorem markL_length (h : s.last.length = 32) : (markL s).length = 34 := by simp [markL, bv_length, h]
theorem ringL_length (h : s.last.length = 32) : (ringL db s).length = 38 := by simp [ringL, markL, bv_length, h]
theorem tdiv16 (k : Nat) : ((k : Int) + 15).tdiv 16 = (((k + 15) / 16 : Nat) : Int) := by
  rw [Int.tdiv_eq_ediv_of_nonneg (by omega)]
  omega

theorem sectors_any (k : Nat) (hk : k ≤ 1000000) (w : World) : Calls Tryd.prog 43 #[.int .i64 (k : Int)] w fun e w' => e = .returned (.int .i64 ((takes k : Nat) : Int)) ∧ w' = w := by
  have e := tdiv16 k
  have e2 : ((takes k : Nat) : Int) = 1 + (((k + 15) / 16 : Nat) : Int) + (k : Int) := by unfold takes; omega
  rw [e2]
  have hq : (((k + 15) / 16 : Nat) : Int) ≤ 1000000 := by omega
  generalize ((k + 15) / 16 : Nat) = q at *
  clear e2
  go_enter Tryd.func43, Tryd.ntmps43
  go_wp2
  go_ret
  exact ⟨by simp, rfl⟩
theorem takes_any (k : Nat) (hk : k ≤ 1000000) (w : World) : Calls Tryd.prog 23 #[.int .i64 (k : Int)] w fun e w' => e = .returned (.int .i64 ((takes k : Nat) : Int)) ∧ w' = w := by
  have e := tdiv16 k
  have e2 : ((takes k : Nat) : Int) = 1 + (((k + 15) / 16 : Nat) : Int) + (k : Int) := by unfold takes; omega
  rw [e2]
  have hq : (((k + 15) / 16 : Nat) : Int) ≤ 1000000 := by omega
  generalize ((k + 15) / 16 : Nat) = q at *
  clear e2
  go_enter Tryd.func23, Tryd.ntmps23
  go_wp2
  go_ret
  exact ⟨by simp, rfl⟩
theorem rem_nat (a b : Nat) : ((a : Int)).tmod (b : Int) = ((a % b : Nat) : Int) := by
  rw [Int.tmod_eq_emod_of_nonneg (by omega)]
  exact (Int.natCast_emod a b).symm
/-- at: a sector of the ring. -/
theorem at_any (h : IsRg 100 w rg db s) (hn : 1 ≤ s.n) (hn2 : s.n ≤ 4096) (hf : s.first ≤ 1000000) (i : Nat) : Calls Tryd.prog 48 #[.pointer (some ⟨rg, 0, none⟩), .int .i64 (i : Int)] w fun e w' => e = .returned (.int .i64 ((s.first + i % s.n : Nat) : Int)) ∧ ∃ n, w' = w.drewN n := by
  have c1 := h.c1
  have c2 := h.c2
  have e := rem_nat i s.n
  have e2 : ((s.first + i % s.n : Nat) : Int) = (s.first : Int) + ((i % s.n : Nat) : Int) := by omega
  have hm : i % s.n < s.n := Nat.mod_lt _ (by omega)
  have hn0 : ¬ ((s.n : Int) = 0) := by omega
  have hn0b : ((s.n : Int) == 0) = false := by simp; omega
  rw [e2]
  generalize (i % s.n) = q at *
  generalize s.n = n at *
  generalize s.first = f at *
  clear h e2
  go_enter Tryd.func48, Tryd.ntmps48
  go_wp2
  go_quiet (fail)
  go_wp2
  go_ret
  exact ⟨by simp, _, rfl⟩
theorem room_any (h : IsRg 100 w rg db s) (hk : RSok s size) : Calls Tryd.prog 27 #[.pointer (some ⟨rg, 0, none⟩)] w fun e w' => e = .returned (.int .i64 ((s.n - s.used : Nat) : Int)) ∧ ∃ n, w' = w.drewN n := by
  have c2 := h.c2
  have c37 := h.c37 hk.len
  have e2 : ((s.n - s.used : Nat) : Int) = (s.n : Int) - (s.used : Int) := by have := hk.used; omega
  have h2 := hk.n2
  have h3 := hk.used
  rw [e2]
  generalize s.n = n at *
  generalize s.used = u at *
  clear h hk e2
  go_enter Tryd.func27, Tryd.ntmps27
  go_upto_region 3 with fail
  go_quiet (fail)
  go_wp2
  go_ret
  exact ⟨by simp, _, rfl⟩
theorem room_nil (w : World) : Calls Tryd.prog 27 #[.pointer none] w fun e w' => e = .returned (.int .i64 0) ∧ w' = w := by
  go_enter Tryd.func27, Tryd.ntmps27
  go_wp2
  go_ret
  exact ⟨rfl, rfl⟩
theorem fits_any (h : IsRg 100 w rg db s) (hk : RSok s size) (k : Nat) (hkk : k ≤ 1000000) : Calls Tryd.prog 22 #[.pointer (some ⟨rg, 0, none⟩), .int .i64 (k : Int)] w fun e w' => e = .returned (.bool (s.fits k)) ∧ ∃ n, w' = w.drewN n := by
  have hroom := room_any h hk
  have hsec := fun w => sectors_any k hkk w
  clear h hk
  by_cases h1 : 1 ≤ k
  · by_cases h2 : k ≤ 60
    · have i1 : (1 : Int) ≤ (k : Int) := by omega
      have i2 : (k : Int) ≤ 60 := by omega
      have e : s.fits k = decide (((takes k : Nat) : Int) ≤ ((s.n - s.used : Nat) : Int)) := by
        unfold RS.fits
        simp only [h1, h2, decide_true, Bool.true_and]
        rw [decide_eq_decide]
        omega
      rw [e]
      clear e h1 h2
      go_enter Tryd.func22, Tryd.ntmps22
      go_wp2_with (first
        | (go_at_call 43; (with_reducible refine (hsec _).mono ?_); rintro e w' ⟨rfl, hw'⟩; obtain rfl := hw'.symm)
        | (go_at_call 27; (with_reducible refine hroom.mono ?_); rintro e w' ⟨rfl, m, rfl⟩))
      go_ret
      exact ⟨by simp, _, rfl⟩
    · have i1 : (1 : Int) ≤ (k : Int) := by omega
      have i2 : ¬ (k : Int) ≤ 60 := by omega
      have e : s.fits k = false := by simp [RS.fits, h2]
      rw [e]
      go_enter Tryd.func22, Tryd.ntmps22
      go_wp2
      go_ret
      exact ⟨by simp, 0, rfl⟩
  · have i1 : ¬ (1 : Int) ≤ (k : Int) := by omega
    have e : s.fits k = false := by simp [RS.fits, h1]
    rw [e]
    go_enter Tryd.func22, Tryd.ntmps22
    go_wp2
    go_ret
    exact ⟨by simp, 0, rfl⟩
theorem fits_nil (w : World) : Calls Tryd.prog 22 #[.pointer none, .int .i64 1] w fun e w' => e = .returned (.bool false) ∧ w' = w := by
  have hsec := fun w => sectors_any 1 (by decide) w
  go_enter Tryd.func22, Tryd.ntmps22
  go_wp2_with (first
    | (go_at_call 43; refine (hsec _).mono ?_; rintro e w' ⟨rfl, hw'⟩; obtain rfl := hw'.symm)
    | (go_at_call 27; (with_reducible refine (room_nil _).mono ?_); rintro e w' ⟨rfl, hw'⟩; obtain rfl := hw'.symm))
  go_ret
  exact ⟨by simp [takes], rfl⟩
end
end Go.Proofs.YtkabkehfckbhcaaDoor

namespace Go.Proofs.YtkabkehfckbhcaaDoor
set_option linter.unusedVariables false
set_option linter.unusedSimpArgs false
open Go.RowKit

/-- Bytes laid into a page. -/
def putL (l : List Nat) (o : Nat) (bs : List Nat) : List Nat := l.take o ++ bs ++ l.drop (o + bs.length)
theorem putL_length {l : List Nat} {o : Nat} {bs : List Nat} (h : o + bs.length ≤ l.length) : (putL l o bs).length = l.length := by
  simp [putL]; omega
theorem leB_succ (n x : Nat) : leB (n + 1) x = leB n x ++ [x / 2 ^ (8 * n) % 256] := by simp [leB, List.range_succ]
theorem putL_get {l : List Nat} {o : Nat} {bs : List Nat} (h : o + bs.length ≤ l.length) (i : Nat) : (putL l o bs)[i]? = if o ≤ i ∧ i < o + bs.length then bs[i - o]? else l[i]? := by
  have h1 : (l.take o).length = o := by rw [List.length_take]; omega
  unfold putL
  by_cases h2 : i < o
  · rw [if_neg (by omega), List.append_assoc, List.getElem?_append_left (by omega), List.getElem?_take, if_pos h2]
  · by_cases h3 : i < o + bs.length
    · rw [if_pos ⟨by omega, h3⟩, List.getElem?_append_left (by rw [List.length_append]; omega), List.getElem?_append_right (by omega), h1]
    · rw [if_neg (by omega), List.getElem?_append_right (by rw [List.length_append]; omega), List.length_append, h1, List.getElem?_drop]
      congr 1
      omega
theorem putL_snoc {l : List Nat} {o n x : Nat} (h : o + n < l.length) : (putL l o (leB n x)).set (o + n) (x / 2 ^ (8 * n) % 256) = putL l o (leB (n + 1) x) := by
  have h2 : (leB n x).length = n := leB_length n x
  have h3 : (leB (n + 1) x).length = n + 1 := leB_length (n + 1) x
  apply List.ext_getElem?
  intro i
  rw [List.getElem?_set, putL_get (by omega), putL_get (by omega), putL_length (by omega), h2, h3, leB_succ]
  by_cases e : o + n = i
  · subst e
    rw [if_pos rfl, if_pos h, if_pos (by omega), List.getElem?_append_right (by omega), h2, show o + n - o - n = 0 by omega]
    rfl
  · rw [if_neg e]
    by_cases h4 : o ≤ i ∧ i < o + n
    · rw [if_pos h4, if_pos (by omega), List.getElem?_append_left (by omega)]
    · rw [if_neg h4, if_neg (by omega)]
set_option maxRecDepth 100000 in
set_option maxHeartbeats 2000000 in
theorem put_any {w : World} {pb : Nat} {l : List Nat} (h : IsBlk w pb (nv .u8 l) 48) (hl : l.length = 64) (o n x : Nat) (hn : o + n ≤ 64) (hn8 : n ≤ 8) (hx : x < 18446744073709551616) : Calls Tryd.prog 44 #[.pointer (some ⟨pb, 0, none⟩), .int .i64 (o : Int), .int .i64 (n : Int), .int .u64 (x : Int)] w fun e w' => (∃ v, e = .returned v) ∧ IsBlk w' pb (nv .u8 (putL l o (leB n x))) 48 ∧ But (fun k => k = pb) w w' := by
  have HH := Lib.hid (And.intro h hl)
  clear h hl
  go_enter Tryd.func44, Tryd.ntmps44
  go_wp2
  go_loopw [10] (fun i wr => ∃ k : Nat, k ≤ n ∧ i = .int .i64 k ∧ Hid (IsBlk wr pb (nv .u8 (putL l o (leB k x))) 48 ∧ But (fun j => j = pb) w wr)) (fun i _ => n - (intOf i).toNat)
  case atStart => exact ⟨0, by omega, rfl, by simpa [putL, leB] using HH.out.1, But.refl _ _⟩
  case round =>
    obtain ⟨k, hk, rfl, HR⟩ := hrel
    by_cases hlt : k < n
    · have i1 : (k : Int) < (n : Int) := by omega
      have i2 : (o : Int) + (k : Int) < 64 := by omega
      have i3 : 0 ≤ (o : Int) + (k : Int) := by omega
      have i4 : (k : Int) < 8 := by omega
      have hpl : (putL l o (leB k x)).length = 64 := by rw [putL_length (by rw [leB_length, HH.out.2]; omega), HH.out.2]
      have hcell := HR.out.1.cell (o + k) (nv_get .u8 _ (o + k) (by omega))
      have hfz := HR.out.1.fz (o + k)
      have hval : (x : Int) / 2 ^ (8 * k) % 256 = ((x / 2 ^ (8 * k) % 256 : Nat) : Int) := by simp
      have hst : IsBlk (wr.drew.setCell ⟨pb, o + k, none⟩ (.int .u8 ((x : Int) / 2 ^ (8 * k) % 256))) pb (nv .u8 (putL l o (leB (k + 1) x))) 48 := by
        have := (HR.out.1.drew).set (o + k) (.int .u8 ((x : Int) / 2 ^ (8 * k) % 256))
        rw [hval, nv_set, putL_snoc (by rw [HH.out.2]; omega)] at this
        rw [hval]
        exact this
      have hbt : But (fun j => j = pb) w (wr.drew.setCell ⟨pb, o + k, none⟩ (.int .u8 ((x : Int) / 2 ^ (8 * k) % 256))) := (HR.out.2.drew).setCell (p := ⟨pb, o + k, none⟩) rfl _
      have HS := Lib.hid (And.intro hst hbt)
      clear hst hbt hval hpl
      go_upto_region 3 with fail
      go_region
      go_wp2
      go_roundw
      case rel => exact ⟨k + 1, by omega, by go_num, HS.out⟩
      case measure => simp [intOf]; omega
    · obtain rfl : k = n := by omega
      go_wp2
      go_end0
      exact ⟨⟨_, rfl⟩, HR.out⟩

/-- The number of some bytes of a page. -/
theorem leN_leB (n x : Nat) : leN (leB n x) = x % 256 ^ n := by
  induction n generalizing x with
  | zero => simp [leB, leN, Nat.mod_one]
  | succ n ih =>
    have e : leB (n + 1) x = (x % 256) :: leB n (x / 256) := by
      unfold leB
      rw [List.range_succ_eq_map, List.map_cons, List.map_map]
      congr 1
      · simp
      · apply List.map_congr_left
        intro i _
        show x / 2 ^ (8 * (i + 1)) % 256 = x / 256 / 2 ^ (8 * i) % 256
        rw [Nat.div_div_eq_div_mul, show 8 * (i + 1) = 8 + 8 * i by omega, Nat.pow_add]
    rw [e, leN, ih, Nat.pow_succ, Nat.mul_comm (256 ^ n) 256, Nat.mod_mul]
theorem leN_snoc (l : List Nat) (c : Nat) : leN (l ++ [c]) = leN l + c * 256 ^ l.length := by
  induction l with
  | nil => simp [leN]
  | cons x r ih =>
    rw [List.cons_append, leN, ih, leN, List.length_cons, Nat.pow_succ, Nat.mul_add]
    have : 256 * (c * 256 ^ r.length) = c * (256 ^ r.length * 256) := by rw [Nat.mul_comm (256 ^ r.length) 256, ← Nat.mul_assoc, Nat.mul_comm 256 c, Nat.mul_assoc]
    omega
theorem leN_lt (l : List Nat) (h : ∀ c ∈ l, c < 256) : leN l < 256 ^ l.length := by
  induction l with
  | nil => simp [leN]
  | cons x r ih =>
    have h1 := h x (by simp)
    have h2 := ih (fun c hc => h c (by simp [hc]))
    rw [leN, List.length_cons, Nat.pow_succ]
    omega
theorem or_byte (A c k : Nat) (hA : A < 2 ^ (8 * k)) (hc : c < 256) (hk : k < 8) : bits .or .u64 (A : Int) (IntKind.u64.wrap (IntKind.u64.wrap (c : Int) * 2 ^ (8 * k))) = ((A + c * 256 ^ k : Nat) : Int) := by
  have hp : (256 : Nat) ^ k = 2 ^ (8 * k) := by rw [Nat.pow_mul]
  have h1 : 2 ^ (8 * k) ≤ 2 ^ 56 := Nat.pow_le_pow_right (by decide) (by omega)
  have h2 : c * 2 ^ (8 * k) ≤ 255 * 2 ^ 56 := Nat.mul_le_mul (by omega) h1
  have h3 : A < 2 ^ 64 := Nat.lt_of_lt_of_le hA (Nat.le_trans h1 (by decide))
  have e1 : IntKind.u64.wrap (c : Int) = (c : Int) := wraps_u64 _ (by omega) (by omega)
  have e2 : (c : Int) * 2 ^ (8 * k) = ((c * 2 ^ (8 * k) : Nat) : Int) := by simp
  have h4 : c * 2 ^ (8 * k) < 2 ^ 64 := Nat.lt_of_le_of_lt h2 (by decide)
  have e3 : IntKind.u64.wrap ((c * 2 ^ (8 * k) : Nat) : Int) = ((c * 2 ^ (8 * k) : Nat) : Int) := wraps_u64 _ (by omega) (by exact_mod_cast h4)
  rw [e1, e2, e3, bits_join_low .u64 64 (by decide) wraps_u64 (8 * k) _ _ (by omega) (by exact_mod_cast hA) (by exact_mod_cast h3) (by omega) ?_ (by exact_mod_cast h4), hp]
  · omega
  · have : (c * 2 ^ (8 * k)) % 2 ^ (8 * k) = 0 := Nat.mul_mod_left _ _
    exact_mod_cast this
set_option maxRecDepth 100000 in
set_option maxHeartbeats 2000000 in
theorem get_any (w : World) (p : List Nat) (hp : p.length = 64) (hpb : ∀ c ∈ p, c < 256) (o n : Nat) (hn : o + n ≤ 64) (hn8 : n ≤ 8) : Calls Tryd.prog 50 #[pgV p, .int .i64 (o : Int), .int .i64 (n : Int)] w fun e w' => e = .returned (.int .u64 ((leN ((p.drop o).take n) : Nat) : Int)) ∧ Below w.heap.size w w' := by
  go_enter Tryd.func50, Tryd.ntmps50
  unfold pgV
  go_upto_region 1 with fail
  change Code.wp _ _ _ _ (w.alloc (.cells (nv .u8 p) 48))
  have hw : NewPg w (w.alloc (.cells (nv .u8 p) 48)) p := ⟨IsBlk.new _ _ _, (Below.refl _ _).alloc (Nat.le_refl _) _, by simp⟩
  generalize w.alloc (.cells (nv .u8 p) 48) = w1 at hw ⊢
  have HW := Lib.hid (And.intro hw (And.intro hp hpb))
  generalize hpb0 : w.heap.size = pb at *
  clear hw hp hpb
  go_wp2
  go_loopw [7, 10] (fun v i wr => ∃ k : Nat, k ≤ n ∧ i = .int .i64 k ∧ v = .int .u64 ((leN ((p.drop o).take k) : Nat) : Int) ∧ wr = w1) (fun _ i _ => n - (intOf i).toNat)
  case atStart => exact ⟨0, by omega, rfl, rfl, rfl⟩
  case round =>
    obtain ⟨k, hk, rfl, rfl, rfl⟩ := hrel
    by_cases hlt : k < n
    · have i1 : (k : Int) < (n : Int) := by omega
      have i2 : (o : Int) + (k : Int) < 64 := by omega
      have i3 : 0 ≤ (o : Int) + (k : Int) := by omega
      have i4 : (k : Int) < 8 := by omega
      have hcell := HW.out.1.blk.cell (o + k) (nv_get .u8 _ (o + k) (by have := HW.out.2.1; omega))
      rw [hpb0] at hcell
      have HOR : Hid (bits .or .u64 ((leN ((p.drop o).take k) : Nat) : Int) (IntKind.u64.wrap (IntKind.u64.wrap ((p[o + k]?.getD 0 : Nat) : Int) * 2 ^ (8 * k))) = ((leN ((p.drop o).take (k + 1)) : Nat) : Int)) := Lib.hid (by
        have hl : ((p.drop o).take k).length = k := by rw [List.length_take, List.length_drop, HW.out.2.1]; omega
        have hs : o + k < p.length := by rw [HW.out.2.1]; omega
        have he : (p.drop o)[k]? = some (p[o + k]?.getD 0) := by rw [List.getElem?_drop, List.getElem?_eq_getElem hs]; rfl
        have hlt : leN ((p.drop o).take k) < 2 ^ (8 * k) := by
          have := leN_lt ((p.drop o).take k) (fun c hc => HW.out.2.2 c (List.mem_of_mem_drop (List.mem_of_mem_take hc)))
          rwa [hl, show (256 : Nat) ^ k = 2 ^ (8 * k) by rw [Nat.pow_mul]] at this
        have hc : p[o + k]?.getD 0 < 256 := by rw [List.getElem?_eq_getElem hs]; exact HW.out.2.2 _ (List.getElem_mem hs)
        rw [or_byte _ _ _ hlt hc (by omega), List.take_add_one, he]
        show _ = ((leN ((p.drop o).take k ++ [p[o + k]?.getD 0]) : Nat) : Int)
        rw [leN_snoc, hl])
      go_wp2
      go_round
      case rel => exact ⟨k + 1, by omega, by go_num, by rw [HOR.out], trivial⟩
      case measure => simp [intOf]; omega
    · obtain rfl : k = n := by omega
      go_wp2
      go_ret
      exact ⟨rfl, HW.out.1.below⟩
end Go.Proofs.YtkabkehfckbhcaaDoor

namespace Go.Proofs.YtkabkehfckbhcaaDoor
set_option linter.unusedVariables false
set_option linter.unusedSimpArgs false
open Go.RowKit

/-- Some cells of a block laid anew. -/
theorem isBlk_setCells {w : World} {g o : Nat} {cs cs' vs : List Value} {t : TypeId} (h : IsBlk w g cs.toArray t) (hi : ∀ i, cs'[i]? = if i < cs.length ∧ o ≤ i ∧ i < o + vs.length then vs[i - o]? else cs[i]?) : IsBlk (w.setCells g o vs) g cs'.toArray t := by
  obtain ⟨_, _, h3⟩ := heap_setCells g vs o w
  obtain ⟨cur, h4, h5, h6⟩ := h3 _ _ h
  have e : cur.toList = cs' := by
    apply List.ext_getElem?
    intro i
    rw [Array.getElem?_toList, h6, hi]
    simp
  show (w.setCells g o vs).heap[g]? = _
  rw [h4, ← e]
theorem isBlk_there {w : World} {g : Nat} {cs : List Value} {t : TypeId} (h : IsBlk w g cs.toArray t) (o n : Nat) (hn : o + n ≤ cs.length) : w.there g o n := fun j hj =>
  ⟨by rw [h.cell (o + j) (v := cs[o + j]'(by omega)) (by rw [List.getElem?_toArray]; exact List.getElem?_eq_getElem _)]; rfl, h.fz _⟩
theorem isBlk_range {w : World} {g : Nat} {cs vs : List Value} {t : TypeId} (h : IsBlk w g cs.toArray t) (o : Nat) (hv : ∀ j v, vs[j]? = some v → cs[o + j]? = some v) : w.rangeAt g o vs := fun j v hj => h.cell (o + j) (by rw [List.getElem?_toArray]; exact hv j v hj)

section
variable {t : TypeId} {w : World} {rg db : Nat} {s : RS} {size : Nat}
theorem markL_get (s : RS) (i : Nat) : (markL s)[i]? = if i = 0 then some (.int .i64 ((s.place : Nat) : Int)) else if i = 1 then some (.int .u64 ((s.num : Nat) : Int)) else (bv s.last)[i - 2]? := by
  rcases i with _ | _ | i
  · rfl
  · rfl
  · rw [if_neg (by omega), if_neg (by omega)]; rfl
theorem ringL_get (h : s.last.length = 32) (i : Nat) : (ringL db s)[i]? = if i < 3 then [Value.pointer (some ⟨db, 0, none⟩), .int .i64 ((s.first : Nat) : Int), .int .i64 ((s.n : Nat) : Int)][i]? else if i < 37 then (markL s)[i - 3]? else if i = 37 then some (.int .i64 ((s.used : Nat) : Int)) else none := by
  unfold ringL
  by_cases h1 : i < 3
  · rw [if_pos h1, List.getElem?_append_left (by simpa using h1)]
  · rw [if_neg h1, List.getElem?_append_right (by simp; omega)]
    have hm := markL_length h
    by_cases h2 : i < 37
    · rw [if_pos h2, List.getElem?_append_left (by simp; omega)]
      rfl
    · rw [if_neg h2, List.getElem?_append_right (by simp; omega)]
      by_cases h3 : i = 37
      · subst h3
        simp [hm]
      · rw [if_neg h3, List.getElem?_eq_none]
        simp
        omega
theorem IsRg.setMark (h : IsRg t w rg db s) (hl : s.last.length = 32) {m : RS} (hm : m.last.length = 32) : IsRg t (w.setCells rg 3 (markL m)) rg db { s with place := m.place, num := m.num, last := m.last } := by
  refine isBlk_setCells h (fun i => ?_)
  rw [ringL_get (s := { s with place := m.place, num := m.num, last := m.last }) hm, ringL_get hl, ringL_length hl, markL_length hm]
  by_cases h1 : i < 3
  · have c : ¬ (i < 38 ∧ 3 ≤ i ∧ i < 3 + 34) := by omega
    simp only [h1, c, if_true, if_false]
  · by_cases h2 : i < 37
    · have c : i < 38 ∧ 3 ≤ i ∧ i < 3 + 34 := by omega
      simp only [h1, h2, c, if_true, if_false]
      rfl
    · have c : ¬ (i < 38 ∧ 3 ≤ i ∧ i < 3 + 34) := by omega
      rw [if_neg c]
      simp only [h1, h2, if_false]
theorem IsRg.setLast (h : IsRg t w rg db s) (hl : s.last.length = 32) {m : List Nat} (hm : m.length = 32) : IsRg t (w.setCells rg 5 (bv m)) rg db { s with last := m } := by
  refine isBlk_setCells h (fun i => ?_)
  rw [ringL_get (s := { s with last := m }) hm, ringL_get hl, ringL_length hl, bv_length, hm]
  by_cases h1 : i < 3
  · have c : ¬ (i < 38 ∧ 5 ≤ i ∧ i < 5 + 32) := by omega
    simp only [h1, c, if_true, if_false]
  · by_cases h2 : i < 37
    · simp only [h1, h2, if_true, if_false, markL_get]
      by_cases h3 : i < 5
      · have c : ¬ (i < 38 ∧ 5 ≤ i ∧ i < 5 + 32) := by omega
        obtain rfl | rfl : i = 3 ∨ i = 4 := by omega
        · rfl
        · rfl
      · have c : i < 38 ∧ 5 ≤ i ∧ i < 5 + 32 := by omega
        have c1 : ¬ (i - 3 = 0) := by omega
        have c2 : ¬ (i - 3 = 1) := by omega
        have c3 : i - 3 - 2 = i - 5 := by omega
        have c4 : 5 ≤ i := by omega
        have c5 : i < 38 := by omega
        simp only [c4, c5, c1, c2, c3, if_true, if_false, and_self]
    · have c : ¬ (i < 38 ∧ 5 ≤ i ∧ i < 5 + 32) := by omega
      rw [if_neg c]
      simp only [h1, h2, if_false]
theorem IsRg.setUsed (h : IsRg t w rg db s) (hl : s.last.length = 32) (u : Nat) : IsRg t (w.setCell ⟨rg, 37, none⟩ (.int .i64 ((u : Nat) : Int))) rg db { s with used := u } := by
  have h1 := IsBlk.set h 37 (.int .i64 ((u : Nat) : Int))
  have e : (ringL db s).toArray.setIfInBounds 37 (.int .i64 ((u : Nat) : Int)) = (ringL db { s with used := u }).toArray := by
    rw [List.setIfInBounds_toArray]
    congr 1
    apply List.ext_getElem?
    intro i
    rw [List.getElem?_set, ringL_get hl, ringL_get (s := { s with used := u }) hl, ringL_length hl]
    by_cases h1 : 37 = i
    · subst h1; simp
    · have c : ¬ i = 37 := fun e => h1 e.symm
      simp only [h1, c, if_false]
      rfl
  rw [e] at h1
  exact h1
theorem IsRg.but {S : Nat → Prop} {w' : World} (h : IsRg t w rg db s) (hb : But S w w') (hs : ¬ S rg) : IsRg t w' rg db s := hb.blk h hs
theorem IsRg.below {w' : World} (h : IsRg t w rg db s) (hb : Below w.heap.size w w') : IsRg t w' rg db s := IsBlk.below h hb h.lt
def zeroM : RS := ⟨0, 0, 0, 0, List.replicate 32 0, 0⟩
theorem markL_one (s : RS) : (markL s).toArray.all (·.oneCell') = true := all_oneCell_toArray (by
  intro v hv
  simp only [markL, List.mem_append, List.mem_cons, List.not_mem_nil, or_false] at hv
  rcases hv with (rfl | rfl) | hv
  · rfl
  · rfl
  · exact bv_one _ v hv)
theorem mark_info (h : s.last.length = 32) : (Tryd.prog.info? 25).map (·.size) = some (markL s).toArray.size := by
  rw [List.size_toArray, markL_length h]; kernel_rfl

set_option maxRecDepth 100000 in
set_option maxHeartbeats 2000000 in
theorem head_any (h : IsRg 100 w rg db s) (hl : s.last.length = 32) : Calls Tryd.prog 26 #[.pointer (some ⟨rg, 0, none⟩)] w fun e w' => e = .returned (.agg (markL s).toArray) ∧ Below w.heap.size w w' := by
  have hne : rg < w.heap.size := IsBlk.lt h
  have HH := Lib.hid (And.intro h hl)
  clear h hl
  go_enter Tryd.func26, Tryd.ntmps26
  go_upto_region 1 with (refine wpList_alloc_info (by rfl) 25 (by rfl) (.agg (markL zeroM).toArray) (markL zeroM).toArray (by kernel_rfl) rfl ?_)
  change Code.wp _ _ _ _ (w.alloc (.cells (markL zeroM).toArray 25))
  have hn : IsBlk (w.alloc (.cells (markL zeroM).toArray 25)) w.heap.size (markL zeroM).toArray 25 := IsBlk.new _ _ _
  have hb : Below w.heap.size w (w.alloc (.cells (markL zeroM).toArray 25)) := (Below.refl _ _).alloc (Nat.le_refl _) _
  generalize w.alloc (.cells (markL zeroM).toArray 25) = w1 at hn hb ⊢
  have H1 := Lib.hid (And.intro hn (And.intro hb (HH.out.1.below hb).mark))
  clear hn hb
  go_wp2_with (first
    | (refine wpList_load_mid (by rfl) 25 (.tmp 8) (by rfl) rg 3 (by rfl) (markL s) _ H1.out.2.2 Tryd.underlying25 rfl (by rw [markL_length HH.out.2]; kernel_rfl) ?_)
    | (refine wpList_store_row (by rfl) 25 (.tmp 2) (.tmp 9) (by rfl) w.heap.size (markL s).toArray (by rfl) (by rfl) 25 (markL zeroM).toArray (by exact H1.out.1) (mark_info HH.out.2) (by rw [List.size_toArray, List.size_toArray, markL_length HH.out.2]; rfl) (markL_one _) ?_))
  refine bodyPost_ret (v := .agg (markL s).toArray) (results_cell_row Tryd.results26 _ _ w.heap.size 25 (markL s).toArray (0, 0) _ (by rfl) ?_ Tryd.underlying25 rfl (mark_info HH.out.2)) rfl ⟨rfl, ?_⟩
  · exact isBlk_setRow H1.out.1 _
  · exact below_setRow H1.out.2.1 _ (Nat.le_refl _) _
set_option maxRecDepth 100000 in
set_option maxHeartbeats 2000000 in
theorem head_nil (w : World) : Calls Tryd.prog 26 #[.pointer none] w fun e w' => e = .returned (.agg (markL zeroM).toArray) ∧ Below w.heap.size w w' := by
  go_enter Tryd.func26, Tryd.ntmps26
  go_upto_region 1 with (refine wpList_alloc_info (by rfl) 25 (by rfl) (.agg (markL zeroM).toArray) (markL zeroM).toArray (by kernel_rfl) rfl ?_)
  change Code.wp _ _ _ _ (w.alloc (.cells (markL zeroM).toArray 25))
  have hn : IsBlk (w.alloc (.cells (markL zeroM).toArray 25)) w.heap.size (markL zeroM).toArray 25 := IsBlk.new _ _ _
  have hb : Below w.heap.size w (w.alloc (.cells (markL zeroM).toArray 25)) := (Below.refl _ _).alloc (Nat.le_refl _) _
  generalize w.alloc (.cells (markL zeroM).toArray 25) = w1 at hn hb ⊢
  have H1 := Lib.hid (And.intro hn hb)
  clear hn hb
  go_wp2_with (refine wpList_store_row (by rfl) 25 (.tmp 2) (.tmp 5) (by rfl) w.heap.size (markL zeroM).toArray (by rfl) (by rfl) 25 (markL zeroM).toArray (by exact H1.out.1) (mark_info (s := zeroM) rfl) (by rfl) (markL_one _) ?_)
  refine bodyPost_ret (v := .agg (markL zeroM).toArray) (results_cell_row Tryd.results26 _ _ w.heap.size 25 (markL zeroM).toArray (0, 0) _ (by rfl) ?_ Tryd.underlying25 rfl (mark_info (s := zeroM) rfl)) rfl ⟨rfl, ?_⟩
  · exact isBlk_setRow H1.out.1 _
  · exact below_setRow H1.out.2 _ (Nat.le_refl _) _
set_option maxRecDepth 100000 in
set_option maxHeartbeats 2000000 in
theorem cut_any (h : IsRg 100 w rg db s) (hl : s.last.length = 32) (m : List Nat) (hm : m.length = 32) : Calls Tryd.prog 28 #[.pointer (some ⟨rg, 0, none⟩), .agg (nv .u8 m)] w fun e w' => (∃ v, e = .returned v) ∧ IsRg 100 w' rg db { s with last := m, used := 0 } ∧ But (fun k => k = rg) w w' := by
  have hne : rg < w.heap.size := IsBlk.lt h
  go_enter Tryd.func28, Tryd.ntmps28
  go_upto_region 1 with fail
  change Code.wp _ _ _ _ (w.alloc (.cells (nv .u8 m) 23))
  have hn : IsBlk (w.alloc (.cells (nv .u8 m) 23)) w.heap.size (nv .u8 m) 23 := IsBlk.new _ _ _
  have hb : Below w.heap.size w (w.alloc (.cells (nv .u8 m) 23)) := (Below.refl _ _).alloc (Nat.le_refl _) _
  generalize w.alloc (.cells (nv .u8 m) 23) = w1 at hn hb ⊢
  have h1 := h.below hb
  have hs := h1.setLast hl hm
  have hb1 : But (fun k => k = rg) w1 (w1.setCells rg 5 (bv m)) := (But.refl (fun k => k = rg) w1).setCells (g := rg) rfl _ _
  have hu := hs.setUsed hm 0
  have c37 := hs.c37 hm
  have z37 := IsBlk.fz hs 37
  have hb2 : But (fun k => k = rg) (w1.setCells rg 5 (bv m)) ((w1.setCells rg 5 (bv m)).setCell ⟨rg, 37, none⟩ (.int .i64 0)) := (But.refl (fun k => k = rg) _).setCell (p := ⟨rg, 37, none⟩) rfl _
  have hth : w1.there rg 5 32 := isBlk_there h1 5 32 (by rw [ringL_length hl]; decide)
  have H1 := Lib.hid (And.intro hn (And.intro hb (And.intro hu (And.intro (hb1.trans hb2) hth))))
  clear h h1 hs hb1 hb2 hu hn hb hth
  go_wp2_with (first
    | (refine wpList_load_row (by rfl) 23 (.tmp 3) (by rfl) w.heap.size (by rfl) 23 (nv .u8 m) (0, 0) _ H1.out.1 Tryd.underlying23 rfl (by rw [nv_size, hm]; kernel_rfl) ?_)
    | (refine wpList_store_mid (by rfl) 23 (.tmp 10) (.tmp 7) (by rfl) rg 5 (bv m).toArray (by rfl) (by rfl) (by rw [List.size_toArray, bv_length, hm]; exact H1.out.2.2.2.2) (by rw [List.size_toArray, bv_length, hm]; kernel_rfl) (all_oneCell_toArray (bv_one _)) ?_))
  go_end0
  exact ⟨⟨_, rfl⟩, H1.out.2.2.1, (But.of_below H1.out.2.1 (Nat.le_refl _)).trans H1.out.2.2.2.1⟩
theorem cut_nil (m : List Nat) (hm : m.length = 32) (w : World) : Calls Tryd.prog 28 #[.pointer none, .agg (nv .u8 m)] w fun e w' => (∃ v, e = .returned v) ∧ Below w.heap.size w w' := by
  go_enter Tryd.func28, Tryd.ntmps28
  go_upto_region 1 with fail
  change Code.wp _ _ _ _ (w.alloc (.cells (nv .u8 m) 23))
  have hb : Below w.heap.size w (w.alloc (.cells (nv .u8 m) 23)) := (Below.refl _ _).alloc (Nat.le_refl _) _
  generalize w.alloc (.cells (nv .u8 m) 23) = w1 at hb ⊢
  have HB := Lib.hid hb
  clear hb
  go_wp2
  go_end0
  exact ⟨⟨_, rfl⟩, HB.out⟩
end
end Go.Proofs.YtkabkehfckbhcaaDoor

namespace Go.Proofs.YtkabkehfckbhcaaDoor
set_option linter.unusedVariables false
set_option linter.unusedSimpArgs false
open Go.RowKit

theorem padPg_get (X : List Nat) (i : Nat) : (padPg X)[i]? = if i < X.length then X[i]? else if i < 64 then some 0 else none := by
  unfold padPg
  by_cases h : i < X.length
  · rw [if_pos h, List.getElem?_append_left h]
  · rw [if_neg h, List.getElem?_append_right (by omega), List.getElem?_replicate]
    by_cases h2 : i < 64
    · rw [if_pos h2, if_pos (by omega)]
    · rw [if_neg h2, if_neg (by omega)]
theorem padPg_put {X Y : List Nat} (h : X.length + Y.length ≤ 64) : putL (padPg X) X.length Y = padPg (X ++ Y) := by
  apply List.ext_getElem?
  intro i
  rw [putL_get (by rw [padPg_length _ (by omega)]; exact h), padPg_get, padPg_get, List.length_append]
  by_cases h1 : i < X.length
  · rw [if_neg (by omega), if_pos h1, if_pos (by omega), List.getElem?_append_left h1]
  · by_cases h2 : i < X.length + Y.length
    · rw [if_pos (by omega), if_pos h2, List.getElem?_append_right (by omega)]
    · rw [if_neg (by omega), if_neg h1, if_neg h2]
theorem padPg_nil : padPg [] = zeroPg := rfl
/-- The numbers of some changes, in bytes. -/
def atBs (l : List CH) : List Nat := l.flatMap fun c => atB c.1
theorem atBs_snoc (l : List CH) (c : CH) : atBs (l ++ [c]) = atBs l ++ atB c.1 := by simp [atBs]
theorem idx_step {l : List CH} {q j : Nat} {c : CH} (h : l[16 * q + j]? = some c) : atBs ((l.drop (16 * q)).take (j + 1)) = atBs ((l.drop (16 * q)).take j) ++ atB c.1 := by
  rw [List.take_add_one, List.getElem?_drop, h]
  exact atBs_snoc _ _
theorem leB_mod (n x m : Nat) (h : n ≤ m) : leB n (x % 256 ^ m) = leB n x := by
  unfold leB
  apply List.map_congr_left
  intro i hi
  have hi' := List.mem_range.1 hi
  have e : (256 : Nat) ^ m = 2 ^ (8 * i) * (2 ^ (8 * (m - i))) := by
    rw [← Nat.pow_add, show (256 : Nat) = 2 ^ 8 by rfl, ← Nat.pow_mul]
    congr 1
    omega
  have e2 : (2 : Nat) ^ (8 * (m - i)) = 256 * 2 ^ (8 * (m - i - 1)) := by
    rw [show 8 * (m - i) = 8 + 8 * (m - i - 1) by omega, Nat.pow_add]
  rw [e, Nat.mod_mul_right_div_self, e2, Nat.mod_mul_right_mod]
theorem atB_u64 (z : Int) : leB 4 (z % 18446744073709551616).toNat = atB z := by
  unfold atB
  have h1 : (z % 4294967296).toNat = (z % 18446744073709551616).toNat % 256 ^ 4 := by
    show (z % 4294967296).toNat = (z % 18446744073709551616).toNat % 4294967296
    omega
  rw [h1, leB_mod 4 _ 4 (Nat.le_refl _)]
theorem headB_put (num k : Nat) (hk : k < 256) : putL ((zeroPg.set 0 84).set 9 k) 1 (leB 8 num) = padPg (headB num k) := by
  have hl : (leB 8 num).length = 8 := leB_length 8 num
  apply List.ext_getElem?
  intro i
  rw [putL_get (by simp [hl, zeroPg]), padPg_get, headB_length, hl]
  unfold headB
  by_cases h1 : i < 10
  · rw [if_pos h1]
    rcases i with _ | i
    · rfl
    · by_cases h2 : i < 8
      · rw [if_pos (by omega), List.cons_append, List.getElem?_cons_succ, List.getElem?_append_left (by omega)]
        rfl
      · have : i = 8 := by omega
        subst this
        rw [if_neg (by omega), List.cons_append, List.getElem?_cons_succ, List.getElem?_append_right (by omega), hl, Nat.mod_eq_of_lt hk]
        rfl
  · rw [if_neg (by omega), if_neg h1, List.getElem?_set, List.getElem?_set, if_neg (by omega), if_neg (by omega)]
    unfold zeroPg
    rw [List.getElem?_replicate]
/-- A change's cells. -/
def chF (c : CH) : List Value := .int .i64 c.1 :: bv c.2
theorem chF_length (c : CH) (h : c.2.length = 64) : (chF c).length = 65 := by simp [chF, bv_length, h]
theorem chF_one (c : CH) : ∀ u ∈ chF c, u.oneCell' = true := by
  intro u hu
  simp only [chF, List.mem_cons] at hu
  rcases hu with rfl | hu
  · rfl
  · exact bv_one _ u hu
/-- A change as it should be. -/
structure CHok (c : CH) : Prop where
  len : c.2.length = 64
  byte : ∀ x ∈ c.2, x < 256
  lo : -9223372036854775808 ≤ c.1
  hi : c.1 ≤ 9223372036854775807
/-- Changes that came in. -/
structure IsChs (w : World) (a : Option Addr) (l : List CH) : Prop where
  ok : ∀ c ∈ l, CHok c
  at_ : l = [] ∨ ∃ b off, a = some ⟨b, off, none⟩ ∧ b < w.heap.size ∧ ∀ i c, l[i]? = some c → w.rangeAt b (off + i * 65) (chF c)
theorem IsChs.below {w w' : World} {a : Option Addr} {l : List CH} (h : IsChs w a l) (hb : Below w.heap.size w w') : IsChs w' a l := by
  refine ⟨h.ok, h.at_.imp id ?_⟩
  rintro ⟨b, off, h1, h2, h3⟩
  exact ⟨b, off, h1, Nat.lt_of_lt_of_le h2 hb.size, fun i c hc j v hv => by rw [hb.cell (by exact h2)]; exact h3 i c hc j v hv⟩
theorem IsChs.of_row {w : World} {base n cap : Nat} {t : TypeId} {a : Option Addr} {l : List CH} (h : RowF w base t 65 chF (.slice a n cap) l) (hok : ∀ c ∈ l, CHok c) : IsChs w a l := by
  refine ⟨hok, ?_⟩
  by_cases hne : l = []
  · exact .inl hne
  · right
    obtain ⟨g, c', cur, e, _⟩ := h.block hne
    injection e with e1 _ _
    subst e1
    refine ⟨g, 0, rfl, h.lt g rfl, fun i c hc => ?_⟩
    obtain ⟨g2, c2, e, hr, _⟩ := h.range (by decide) hc
    injection e with e1 _ _
    injection e1 with e1
    injection e1 with e1
    subst e1
    rw [Nat.zero_add]
    exact hr
theorem range_chAt {w : World} {b o : Nat} {c : CH} (h : w.rangeAt b o (chF c)) : w.cell? ⟨b, o, none⟩ = some (.int .i64 c.1) := by
  have := h 0 _ rfl
  rwa [Nat.add_zero] at this
theorem range_chWhat {w : World} {b o : Nat} {c : CH} (h : w.rangeAt b o (chF c)) : w.rangeAt b (o + 1) (bv c.2) := fun j v hj => by
  have := h (j + 1) v (by simpa [chF] using hj)
  rw [show o + 1 + j = o + (j + 1) by omega]
  exact this

/-- The disk's sectors are bytes; it is on, its fuel without end. -/
structure OnB (n k : Nat) (d : DK) : Prop where
  len : d.firm.length = n
  pl : d.pend.length ≤ k
  off : d.off = false
  fuel : d.fuel = -1
  firm : ∀ p ∈ d.firm, p.length = 64 ∧ ∀ c ∈ p, c < 256
  pend : ∀ x ∈ d.pend, x.1 < n ∧ x.2.length = 64 ∧ ∀ c ∈ x.2, c < 256
theorem OnB.more {n k m : Nat} {d : DK} (h : OnB n k d) (hk : k ≤ m) : OnB n m d := ⟨h.len, Nat.le_trans h.pl hk, h.off, h.fuel, h.firm, h.pend⟩
theorem onB_new (n : Nat) : OnB n 0 (DK.new n) := ⟨by simp [DK.new], Nat.le_refl _, rfl, rfl, fun p hp => by
  obtain rfl := List.eq_of_mem_replicate hp
  exact ⟨rfl, fun c hc => by rw [List.eq_of_mem_replicate hc]; decide⟩, fun x hx => by cases hx⟩
theorem onB_step {n k : Nat} {d : DK} (h : OnB n k d) : d.step = d ∧ d.may = true := by
  constructor
  · unfold DK.step; rw [h.off, h.fuel]; rfl
  · simp [DK.may, h.off, h.fuel]
theorem onB_write {n k : Nat} {d : DK} (h : OnB n k d) (i : Nat) (hi : i < n) (p : List Nat) : d.write (i : Int) p = { d with pend := d.pend ++ [(i, p)] } ∧ d.writeE (i : Int) = 0 := by
  have hb : d.bad (i : Int) = false := by simp only [DK.bad, h.len, Bool.or_eq_false_iff, decide_eq_false_iff_not]; omega
  obtain ⟨h1, h2⟩ := onB_step h
  constructor
  · simp [DK.write, h.off, hb, h2, h1]
  · simp [DK.writeE, h.off, hb, h2]
theorem onB_written {n k : Nat} {d : DK} (h : OnB n k d) (i : Nat) (hi : i < n) (p : List Nat) (hp : p.length = 64) (hb : ∀ c ∈ p, c < 256) : OnB n (k + 1) (d.write (i : Int) p) := by
  rw [(onB_write h i hi p).1]
  refine ⟨h.len, by simp; exact h.pl, h.off, h.fuel, h.firm, fun x hx => ?_⟩
  rcases List.mem_append.1 hx with h0 | h0
  · exact h.pend x h0
  · simp at h0; subst h0; exact ⟨hi, hp, hb⟩
theorem applyP_all {Q : List Nat → Prop} {l : List (Nat × List Nat)} : ∀ {f : List (List Nat)}, (∀ p ∈ f, Q p) → (∀ x ∈ l, Q x.2) → ∀ p ∈ applyP f l, Q p := by
  induction l with
  | nil => intro f hf _; exact hf
  | cons x r ih =>
    intro f hf hl
    rw [applyP_cons]
    refine ih (fun p hp => ?_) (fun y hy => hl y (List.mem_cons_of_mem _ hy))
    rcases List.mem_or_eq_of_mem_set hp with h | rfl
    · exact hf p h
    · exact hl x (by simp)
theorem onB_read {n k : Nat} {d : DK} (h : OnB n k d) {i : Nat} (hi : i < n) : d.readE (i : Int) = 0 ∧ (d.read (i : Int)).length = 64 ∧ ∀ c ∈ d.read (i : Int), c < 256 := by
  have hb : d.bad (i : Int) = false := by simp only [DK.bad, h.len, Bool.or_eq_false_iff, decide_eq_false_iff_not]; omega
  have he : d.readE (i : Int) = 0 := by unfold DK.readE; rw [h.off, hb]; rfl
  have hr : d.read (i : Int) = d.cur.getD i zeroPg := by unfold DK.read; rw [if_pos he]; rfl
  have hi2 : i < d.cur.length := by rw [cur_length, h.len]; exact hi
  have hm : d.cur.getD i zeroPg ∈ d.cur := by
    have : d.cur.getD i zeroPg = d.cur[i] := by simp [List.getD, List.getElem?_eq_getElem hi2]
    rw [this]; exact List.getElem_mem hi2
  have := applyP_all (Q := fun p => p.length = 64 ∧ ∀ c ∈ p, c < 256) h.firm (fun x hx => (h.pend x hx).2) _ hm
  rw [hr]
  exact ⟨he, this.1, this.2⟩
/-- The sectors of a record are bytes. -/
theorem padPg_byte {X : List Nat} (h : ∀ c ∈ X, c < 256) : ∀ c ∈ padPg X, c < 256 := by
  intro c hc
  rcases List.mem_append.1 hc with hc | hc
  · exact h c hc
  · rw [List.eq_of_mem_replicate hc]; decide
theorem bodyPgs_ok {l : List CH} (h : ∀ c ∈ l, CHok c) : ∀ p ∈ bodyPgs l, p.length = 64 ∧ ∀ c ∈ p, c < 256 := by
  intro p hp
  rcases List.mem_append.1 hp with hp | hp
  · obtain ⟨i, _, rfl⟩ := List.mem_map.1 hp
    refine ⟨idxPg_length l i, padPg_byte (fun c hc => ?_)⟩
    obtain ⟨x, _, hx⟩ := List.mem_flatMap.1 hc
    exact leB_lt _ _ c hx
  · obtain ⟨c, hc, rfl⟩ := List.mem_map.1 hp
    exact ⟨(h c hc).len, (h c hc).byte⟩
theorem headB_byte (num k : Nat) : ∀ c ∈ headB num k, c < 256 := by
  intro c hc
  simp only [headB, List.cons_append, List.mem_cons, List.mem_append, List.not_mem_nil, or_false] at hc
  rcases hc with rfl | hc | rfl
  · decide
  · exact leB_lt _ _ c hc
  · exact Nat.mod_lt _ (by decide)
theorem recPgs_ok {last : List Nat} {num : Nat} {l : List CH} (h : ∀ c ∈ l, CHok c) : ∀ p ∈ recPgs last num l, p.length = 64 ∧ ∀ c ∈ p, c < 256 := by
  intro p hp
  rcases List.mem_cons.1 hp with rfl | hp
  · refine ⟨headPg_length _ _ _, padPg_byte (fun c hc => ?_)⟩
    rcases List.mem_append.1 hc with hc | hc
    · exact headB_byte _ _ c hc
    · exact digest_lt _ c hc
  · exact bodyPgs_ok h p hp
theorem putAll_on {s : RS} {n : Nat} (hs : RSok s n) : ∀ (L : List (List Nat)) (i k : Nat) (d : DK), OnB n k d → (∀ p ∈ L, p.length = 64 ∧ ∀ c ∈ p, c < 256) → OnB n (k + L.length) (putAll s L i d) := by
  intro L
  induction L with
  | nil => intro i k d h _; exact h
  | cons p r ih =>
    intro i k d h hL
    have hlt : s.first + (s.place + i) % s.n < n := by
      have := Nat.mod_lt (s.place + i) (show 0 < s.n by have := hs.n1; omega)
      have := hs.fit
      omega
    have h1 := onB_written h _ hlt p (hL p (by simp)).1 (hL p (by simp)).2
    have h2 := ih (i + 1) (k + 1) _ h1 (fun q hq => hL q (by simp [hq]))
    rw [List.length_cons, show k + (r.length + 1) = k + 1 + r.length by omega]
    exact h2
end Go.Proofs.YtkabkehfckbhcaaDoor

namespace Go.Proofs.YtkabkehfckbhcaaDoor
set_option linter.unusedVariables false
set_option linter.unusedSimpArgs false
open Go.RowKit

/-- Two cells ahead of an array's. -/
theorem fill_three (place : Nat → Option (Nat × Nat)) (cells : Array Value) (v u : Value) (hv : v.cells = #[v]) (hu : u.cells = #[u]) (cs : Array Value) (h0 : place 0 = some (0, 1)) (h1 : place 1 = some (1, 1)) (h2 : place 2 = some (2, cs.size)) (hs : cells.size = cs.size + 2) :
    Instr.fill place cells [(0, v), (1, u), (2, .agg cs)] = some ((v :: u :: cs.toList).toArray) := by
  have hc : (Value.agg cs).cells = cs := rfl
  have hz : ∀ cells : Array Value, (v.cells.zipIdx.foldl (fun (cs : Array Value) (x : Value × Nat) => cs.setIfInBounds (0 + x.2) x.1) cells) = cells.setIfInBounds 0 v := fun cells => by
    rw [hv, fold_array]; rfl
  have hw : ∀ cells : Array Value, (u.cells.zipIdx.foldl (fun (cs : Array Value) (x : Value × Nat) => cs.setIfInBounds (1 + x.2) x.1) cells) = cells.setIfInBounds 1 u := fun cells => by
    rw [hu, fold_array]; rfl
  rw [fill_step h0 (by rw [hv]; rfl) (by omega), hz, fill_step h1 (by rw [hu]; rfl) (by simp; omega), hw, fill_step h2 (by rw [hc]) (by simp; omega), hc, Instr.fill]
  congr 1
  rw [fold_array]
  obtain ⟨_, h3⟩ := fold_set 2 cs.toList 0 ((cells.setIfInBounds 0 v).setIfInBounds 1 u)
  apply Array.ext_getElem?
  intro i
  have hr : (v :: u :: cs.toList).toArray[i]? = (v :: u :: cs.toList)[i]? := by simp
  rw [h3 i, hr]
  simp only [Array.size_setIfInBounds, Array.getElem?_setIfInBounds, Array.length_toList]
  rcases i with _ | _ | i
  · rw [if_neg (by omega), if_neg (by omega), if_pos rfl, if_pos (by omega)]; rfl
  · rw [if_neg (by omega), if_pos rfl, if_pos (by omega)]; rfl
  · rw [if_neg (show ¬ (1 = i + 1 + 1) by omega), if_neg (show ¬ (0 = i + 1 + 1) by omega)]
    show _ = cs.toList[i]?
    by_cases hi : i < cs.size
    · rw [if_pos (by omega), show i + 1 + 1 - (2 + 0) = i by omega]
    · rw [if_neg (by omega), List.getElem?_eq_none (by simp; omega), Array.getElem?_eq_none (by omega)]
theorem built_of {P : Program} {t : TypeId} {n : Nat} {ps : List (Nat × Nat)} {parts : List (Nat × Value)} {cs : Array Value} (hA : (P.info? t).bind (fun it => it.zero.map fun z => z.cells.size) = some n)
    (hB : (match P.underlying t with | some (.struct fields) => fields.toList.mapM (fun f => (P.info? f.type).map fun i => (f.offset, i.size)) | _ => none) = some ps)
    (hF : ∀ cells : Array Value, cells.size = n → Instr.fill (fun i => ps.toArray[i]?) cells parts = some cs) : P.built t parts = some cs := by
  obtain ⟨it, h1, hA⟩ := Option.bind_eq_some_iff.1 hA
  obtain ⟨z, h2, h5⟩ := Option.map_eq_some_iff.1 hA
  unfold Program.built
  cases hu : P.underlying t with
  | none => rw [hu] at hB; cases hB
  | some ds =>
  rw [hu] at hB
  cases ds with
  | struct fields =>
  simp only at hB
  simp only [h1, h2, hB]
  exact hF _ h5
  | _ => simp at hB
theorem built_mark (place num : Int) (D : List Nat) (hD : D.length = 32) : Tryd.prog.built 25 [(0, .int .i64 place), (1, .int .u64 num), (2, .agg (nv .u8 D))] = some (.int .i64 place :: .int .u64 num :: bv D).toArray :=
  built_of (n := 34) (ps := [(0, 1), (1, 1), (2, 32)]) (by kernel_rfl) (by kernel_rfl) fun cells hc => by
    have hn : (nv .u8 D).size = 32 := by rw [nv_size]; exact hD
    exact fill_three _ _ _ _ rfl rfl (nv .u8 D) rfl rfl (by rw [hn]; rfl) (by rw [hn]; exact hc)
theorem built_rmark (place num : Int) (D : List Nat) (hD : D.length = 32) : Tryd.prog.built 38 [(0, .int .i64 place), (1, .int .u64 num), (2, .agg (nv .u8 D))] = some (.int .i64 place :: .int .u64 num :: bv D).toArray :=
  built_of (n := 34) (ps := [(0, 1), (1, 1), (2, 32)]) (by kernel_rfl) (by kernel_rfl) fun cells hc => by
    have hn : (nv .u8 D).size = 32 := by rw [nv_size]; exact hD
    exact fill_three _ _ _ _ rfl rfl (nv .u8 D) rfl rfl (by rw [hn]; rfl) (by rw [hn]; exact hc)
end Go.Proofs.YtkabkehfckbhcaaDoor
