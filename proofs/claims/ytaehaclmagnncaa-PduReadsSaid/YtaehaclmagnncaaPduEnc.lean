/-
  pdu: Encode, the first eight bytes.
-/
import Derived.Test.YtaehaclmagnncaaPduRows
import Derived.Deep.RegionHeld3
import Derived.Deep.DeepCutAuto
import Derived.Deep.CutBlock
import Derived.Outline
namespace Go.Proofs.Ytaehaclmagnncaa
set_option linter.unusedVariables false
set_option linter.unusedSimpArgs false
open Go.RowKit
attribute [local go_sem ↓] Go.wp_at_zero Go.wp_at_succ

/-- The cells of a PDU's value. -/
def pdC (p : PD) (aa : Option Addr) (ac : Nat) (da : Option Addr) (dc : Nat) : Array Value := #[.int .i64 p.op, .bool p.imm, .int .u8 p.flags, .int .u8 p.s0, .int .u8 p.s1, .slice aa p.ahs.length ac, .int .u64 p.lun, .int .u32 p.tag, .int .u32 (p.words.getD 0 0 : Nat), .int .u32 (p.words.getD 1 0 : Nat), .int .u32 (p.words.getD 2 0 : Nat), .int .u32 (p.words.getD 3 0 : Nat), .int .u32 (p.words.getD 4 0 : Nat), .int .u32 (p.words.getD 5 0 : Nat), .int .u32 (p.words.getD 6 0 : Nat), .slice da p.data.length dc]
/-- What Encode leaves. -/
def Encd (w : World) (l : List Nat) (e : Ending) (w' : World) : Prop := ∃ v, e = .returned v ∧ Own w' w.heap.size v l ∧ Below w.heap.size w w'

/-- Encode's state: the PDU's row and the row of its bytes. -/
structure EncS (w W : World) (B g : Nat) (P : Array Value) (l : List Nat) : Prop where
  p : IsBlk W B P 28
  r : IsBlk W g (nv .u8 l) 5
  bel : Below w.heap.size w W
  hB : w.heap.size ≤ B
  hg : w.heap.size ≤ g
  ne : B ≠ g
theorem EncS.store {w W : World} {B g : Nat} {P : Array Value} {l : List Nat} (h : EncS w W B g P l) (i v : Nat) : EncS w (W.setCell ⟨g, i, none⟩ (.int .u8 (v : Int))) B g P (l.set i v) :=
  ⟨h.p.setOther _ _ h.ne, nv_set .u8 l i v ▸ h.r.set i _, h.bel.setCell (p := ⟨g, i, none⟩) h.hg _, h.hB, h.hg, h.ne⟩

theorem made (n : Nat) : madeCells (Value.int .u8 0).cells (n * 1) = nv .u8 (List.replicate n 0) := by
  unfold madeCells nv
  apply Array.ext_getElem?
  intro i
  by_cases hi : i < n
  · simp [Value.cells, hi, Nat.mod_one]
  · simp [Value.cells, hi]
theorem rep_getD (n i : Nat) : (List.replicate n 0).getD i 0 = 0 := by
  simp only [List.getD, List.getElem?_replicate]
  split <;> rfl
theorem or64 (x : Nat) (h : x < 64) : Go.bits .or .u8 (x : Int) 64 = ((x + 64 : Nat) : Int) := by
  have : ∀ x : Fin 64, Go.bits .or .u8 (x.1 : Int) 64 = ((x.1 + 64 : Nat) : Int) := by decide +kernel
  exact this ⟨x, h⟩
/-- The row behind the first stores. -/
def firstL (cap a b c d e x y : Nat) : List Nat := ((((((((List.replicate cap 0).set 0 a).set 1 b).set 2 c).set 3 d).set 4 e).set 6 x).set 7 y)
theorem firstL_take (cap a b c d e x y : Nat) (h : 8 ≤ cap) : (firstL cap a b c d e x y).take 8 = [a, b, c, d, e, 0, x, y] := by
  obtain ⟨k, rfl⟩ : ∃ k, cap = k + 8 := ⟨cap - 8, by omega⟩
  simp [firstL, List.replicate_succ]
theorem firstL_length (cap a b c d e x y : Nat) : (firstL cap a b c d e x y).length = cap := by simp [firstL]
theorem take_set_succ {l H : List Nat} {n v : Nat} (h : l.take n = H.take n) (hn : n < l.length) (hv : H[n]? = some v) : (l.set n v).take (n + 1) = H.take (n + 1) := by
  have h2 : n < H.length := (List.getElem?_eq_some_iff.1 hv).1
  rw [List.take_succ_eq_append_getElem (by rw [List.length_set]; exact hn), List.take_succ_eq_append_getElem h2, List.getElem_set_self, List.take_set_of_le (Nat.le_refl n), h]
  rw [List.getElem?_eq_getElem h2] at hv
  injection hv with hv
  rw [hv]
theorem head_lun (p : PD) (hl : p.lun < 18446744073709551616) (k : Nat) (hk : k < 8) : (headP p)[8 + k]? = some (p.lun / 2 ^ (56 - 8 * k) % 256) := by
  rcases (by omega : k = 0 ∨ k = 1 ∨ k = 2 ∨ k = 3 ∨ k = 4 ∨ k = 5 ∨ k = 6 ∨ k = 7) with rfl | rfl | rfl | rfl | rfl | rfl | rfl | rfl <;> simp [headP, be8, be4] <;> omega
theorem word_lt {op : Int} {imm : Bool} {fl s0 s1 : Nat} {ahs : List Nat} {lun tag w0 w1 w2 w3 w4 w5 w6 : Nat} {data : List Nat} (h : PD.Ok ⟨op, imm, fl, s0, s1, ahs, lun, tag, [w0, w1, w2, w3, w4, w5, w6], data⟩) (k : Nat) (hk : k < 8) : [tag, w0, w1, w2, w3, w4, w5, w6].getD k 0 < 4294967296 := by
  have h1 := h.tag
  have h2 := h.words
  simp only [List.mem_cons, List.not_mem_nil, or_false, forall_eq_or_imp, forall_eq] at h1 h2
  rcases (by omega : k = 0 ∨ k = 1 ∨ k = 2 ∨ k = 3 ∨ k = 4 ∨ k = 5 ∨ k = 6 ∨ k = 7) with rfl | rfl | rfl | rfl | rfl | rfl | rfl | rfl <;> simp <;> omega
theorem head_word {op : Int} {imm : Bool} {fl s0 s1 : Nat} {ahs : List Nat} {lun tag w0 w1 w2 w3 w4 w5 w6 : Nat} {data : List Nat} (k : Nat) (hk : k < 8) (H : List Nat) (hH : H = headP ⟨op, imm, fl, s0, s1, ahs, lun, tag, [w0, w1, w2, w3, w4, w5, w6], data⟩) (x : Nat) (hx : x = [tag, w0, w1, w2, w3, w4, w5, w6].getD k 0) (hx2 : x < 4294967296) :
    H[16 + 4 * k]? = some (x / 16777216) ∧ H[17 + 4 * k]? = some (x / 65536 % 256) ∧ H[18 + 4 * k]? = some (x / 256 % 256) ∧ H[19 + 4 * k]? = some (x % 256) := by
  subst hH
  rcases (by omega : k = 0 ∨ k = 1 ∨ k = 2 ∨ k = 3 ∨ k = 4 ∨ k = 5 ∨ k = 6 ∨ k = 7) with rfl | rfl | rfl | rfl | rfl | rfl | rfl | rfl <;> simp at hx <;> subst hx <;> simp [headP, be8, be4] <;> omega
theorem headP_lt (p : PD) (hp : p.Ok) (hm : p.may = true) : ∀ c ∈ headP p, c < 256 := by
  obtain ⟨a, b, c, d, e, f, g, hw⟩ := seven hp.wl
  obtain ⟨h1, h2, h3, h4, h5⟩ := may_iff.1 hm
  have g1 := hp.flags
  have g2 := hp.s0
  have g3 := hp.s1
  have g4 : opByte p < 256 := by unfold opByte; cases p.imm <;> simp <;> omega
  simp only [headP, hw, be8, be4, List.flatMap_cons, List.flatMap_nil, List.append_nil, List.cons_append, List.nil_append, List.mem_cons, List.not_mem_nil, or_false, forall_eq_or_imp, forall_eq]
  omega
/-- A PDU's numbers, one by one. -/
abbrev PDn (op : Nat) (imm : Bool) (fl s0 s1 : Nat) (ahs : List Nat) (lun tag w0 w1 w2 w3 w4 w5 w6 : Nat) (data : List Nat) : PD := ⟨op, imm, fl, s0, s1, ahs, lun, tag, [w0, w1, w2, w3, w4, w5, w6], data⟩

set_option maxRecDepth 100000 in
set_option maxHeartbeats 4000000 in
theorem enc_yes (op : Nat) (imm : Bool) (fl s0 s1 : Nat) (ahs : List Nat) (lun tag w0 w1 w2 w3 w4 w5 w6 : Nat) (data : List Nat) (hp : (PDn op imm fl s0 s1 ahs lun tag w0 w1 w2 w3 w4 w5 w6 data : PD).Ok) (hm : (PDn op imm fl s0 s1 ahs lun tag w0 w1 w2 w3 w4 w5 w6 data : PD).may = true) (aa da : Option Addr) (ac dc : Nat) (w : World) (haa : IsBytes w aa ahs) (hda : IsBytes w da data) (hac : aa = none → ac = 0) (hdc : da = none → dc = 0)
    (hal : ahs.length ≤ 9223372036854775807) (hdl : data.length ≤ 9223372036854775807) (h d : Bool) :
    Calls Try.prog 11 #[.agg #[.int .i64 (op : Nat), .bool imm, .int .u8 (fl : Nat), .int .u8 (s0 : Nat), .int .u8 (s1 : Nat), .slice aa ahs.length ac, .int .u64 (lun : Nat), .int .u32 (tag : Nat), .int .u32 (w0 : Nat), .int .u32 (w1 : Nat), .int .u32 (w2 : Nat), .int .u32 (w3 : Nat), .int .u32 (w4 : Nat), .int .u32 (w5 : Nat), .int .u32 (w6 : Nat), .slice da data.length dc], .bool h, .bool d] w (Encd w (encP (PDn op imm fl s0 s1 ahs lun tag w0 w1 w2 w3 w4 w5 w6 data) h d)) := by
  have HMay := Lib.hid (fun W => may_any (op : Nat) (.bool imm) (.int .u8 (fl : Nat)) (.int .u8 (s0 : Nat)) (.int .u8 (s1 : Nat)) (.int .u64 (lun : Nat)) (.int .u32 (tag : Nat)) (.int .u32 (w0 : Nat)) (.int .u32 (w1 : Nat)) (.int .u32 (w2 : Nat)) (.int .u32 (w3 : Nat)) (.int .u32 (w4 : Nat)) (.int .u32 (w5 : Nat)) (.int .u32 (w6 : Nat)) aa da ahs.length ac data.length dc W hal hdl)
  rw [show mayB (op : Int) ahs.length data.length = true from hm] at HMay
  have K0 := Lib.hid (IsBlk.new w #[.int .i64 (op : Nat), .bool imm, .int .u8 (fl : Nat), .int .u8 (s0 : Nat), .int .u8 (s1 : Nat), .slice aa ahs.length ac, .int .u64 (lun : Nat), .int .u32 (tag : Nat), .int .u32 (w0 : Nat), .int .u32 (w1 : Nat), .int .u32 (w2 : Nat), .int .u32 (w3 : Nat), .int .u32 (w4 : Nat), .int .u32 (w5 : Nat), .int .u32 (w6 : Nat), .slice da data.length dc] 28)
  obtain ⟨q1, q2, q3, q4, q5⟩ := may_iff.1 hm
  simp only at q1 q2 q3 q4 q5
  have HP := Lib.hid (And.intro hp (And.intro haa (And.intro hda (And.intro hac (And.intro hdc hm)))))
  have q6 : op < 64 := by omega
  clear hm hp haa hda hac hdc q1 q2
  go_enter Try.func11, Try.ntmps11
  go_wp2_with fail
  refine (HMay.out _).mono ?_
  rintro e W1 ⟨rfl, hb1⟩
  have K1 : Hid (IsBlk W1 w.heap.size #[.int .i64 (op : Nat), .bool imm, .int .u8 (fl : Nat), .int .u8 (s0 : Nat), .int .u8 (s1 : Nat), .slice aa ahs.length ac, .int .u64 (lun : Nat), .int .u32 (tag : Nat), .int .u32 (w0 : Nat), .int .u32 (w1 : Nat), .int .u32 (w2 : Nat), .int .u32 (w3 : Nat), .int .u32 (w4 : Nat), .int .u32 (w5 : Nat), .int .u32 (w6 : Nat), .slice da data.length dc] 28 ∧ Below w.heap.size w W1) := Lib.hid ⟨K0.out.below hb1 K0.out.lt, ((Below.refl _ _).alloc (Nat.le_refl _) _).trans (hb1.mono (by simp))⟩
  clear hb1 K0 HMay
  obtain ⟨cap, hcap⟩ : ∃ cap : Nat, (48 + (ahs.length : Int) + (data.length : Int) + 11) = (cap : Int) := ⟨48 + ahs.length + data.length + 11, by omega⟩
  have hcap3 : 59 ≤ cap := by omega
  have hcap4 : cap ≤ 400 := by omega
  have HQ4 := Lib.hid q4
  clear q4
  obtain ⟨i0, hi, hz0, hz1, hz2⟩ := info_parts Try.info8
  have hmk : ∀ w, (Instr.makeSlice 23 (.int .i64 48) (.int .i64 (cap : Int))).run Try.prog w = .ok (.slice (some ⟨w.heap.size, 0, none⟩) 48 cap) (w.alloc (.cells (nv .u8 (List.replicate cap 0)) 5)) := fun w => by
    have := run_makeSlice (P := Try.prog) w 23 5 i0 (.int .u8 0) Try.underlying23 hi hz0 .i64 .i64 48 cap (by omega) (by omega) (by rw [hz1]; omega) (by rw [hz2]; omega) (by omega)
    rw [hz1, Int.toNat_natCast, made] at this
    exact this
  clear hi hz0 hz1 hz2 i0
  have hlt := K1.out.1.lt
  have c0 := K1.out.1.cell 0 (v := .int .i64 (op : Nat)) rfl
  have c1 := K1.out.1.cell 1 (v := .bool imm) rfl
  have c2 := K1.out.1.cell 2 (v := .int .u8 (fl : Nat)) rfl
  have c3 := K1.out.1.cell 3 (v := .int .u8 (s0 : Nat)) rfl
  have c4 := K1.out.1.cell 4 (v := .int .u8 (s1 : Nat)) rfl
  have c5 := K1.out.1.cell 5 (v := .slice aa ahs.length ac) rfl
  have c15 := K1.out.1.cell 15 (v := .slice da data.length dc) rfl
  go_upto_region 4 with fail
  have K4 : Hid (EncS w (W1.alloc (.cells (nv .u8 (List.replicate cap 0)) 5)) w.heap.size W1.heap.size #[.int .i64 (op : Nat), .bool imm, .int .u8 (fl : Nat), .int .u8 (s0 : Nat), .int .u8 (s1 : Nat), .slice aa ahs.length ac, .int .u64 (lun : Nat), .int .u32 (tag : Nat), .int .u32 (w0 : Nat), .int .u32 (w1 : Nat), .int .u32 (w2 : Nat), .int .u32 (w3 : Nat), .int .u32 (w4 : Nat), .int .u32 (w5 : Nat), .int .u32 (w6 : Nat), .slice da data.length dc] (List.replicate cap 0)) :=
    Lib.hid ⟨K1.out.1.alloc _, IsBlk.new _ _ _, K1.out.2.alloc K1.out.2.size _, Nat.le_refl _, K1.out.2.size, by omega⟩
  generalize (W1.alloc (.cells (nv .u8 (List.replicate cap 0)) 5)) = W4 at *
  generalize W1.heap.size = g at *
  clear K1 hmk hlt c0 c1 c2 c3 c4 c5 c15 hcap
  have c0 := K4.out.p.cell 0 (v := .int .i64 (op : Nat)) rfl
  have c1 := K4.out.p.cell 1 (v := .bool imm) rfl
  have c2 := K4.out.p.cell 2 (v := .int .u8 (fl : Nat)) rfl
  have c3 := K4.out.p.cell 3 (v := .int .u8 (s0 : Nat)) rfl
  have c4 := K4.out.p.cell 4 (v := .int .u8 (s1 : Nat)) rfl
  have c5 := K4.out.p.cell 5 (v := .slice aa ahs.length ac) rfl
  have c15 := K4.out.p.cell 15 (v := .slice da data.length dc) rfl
  have hlen : (List.replicate cap 0).length = cap := by simp
  have d0 := K4.out.r.cell 0 (nv_get .u8 _ 0 (by rw [hlen]; omega))
  have fg := K4.out.r.fz
  rw [rep_getD] at d0
  have x0 : IntKind.u8.wrap (op : Int) = (op : Int) := by rw [IntKind.wrap_u8]; omega
  have x1 := or64 op q6
  clear hlen
  go_upto_if 33 with fail
  go_cut [] (fun wx => EncS w wx w.heap.size g #[.int .i64 (op : Nat), .bool imm, .int .u8 (fl : Nat), .int .u8 (s0 : Nat), .int .u8 (s1 : Nat), .slice aa ahs.length ac, .int .u64 (lun : Nat), .int .u32 (tag : Nat), .int .u32 (w0 : Nat), .int .u32 (w1 : Nat), .int .u32 (w2 : Nat), .int .u32 (w3 : Nat), .int .u32 (w4 : Nat), .int .u32 (w5 : Nat), .int .u32 (w6 : Nat), .slice da data.length dc] ((List.replicate cap 0).set 0 (op + if imm then 64 else 0)))
  case first =>
   as_aux_lemma =>
    cases imm with
    | false =>
      go_wp2_with fail
      go_meet
      exact K4.out.store 0 op
    | true =>
      go_wp2_with fail
      go_meet
      have := (K4.out.store 0 op).store 0 (op + 64)
      rw [List.set_set] at this
      exact this
  case rest =>
    clear K4 c0 c1 c2 c3 c4 c5 c15 d0 fg x0 x1
    have hl5 : ((List.replicate cap 0).set 0 (op + if imm then 64 else 0)).length = cap := by simp
    obtain ⟨opb, hob⟩ : ∃ b, b = (op + if imm then 64 else 0) := ⟨_, rfl⟩
    rw [← hob] at hl5 hcut
    have HOB := Lib.hid hob
    clear hob
    have K5 := Lib.hid hcut
    clear hcut
    have c2 := K5.out.p.cell 2 (v := .int .u8 (fl : Nat)) rfl
    have c3 := K5.out.p.cell 3 (v := .int .u8 (s0 : Nat)) rfl
    have c4 := K5.out.p.cell 4 (v := .int .u8 (s1 : Nat)) rfl
    have c5 := K5.out.p.cell 5 (v := .slice aa ahs.length ac) rfl
    have c15 := K5.out.p.cell 15 (v := .slice da data.length dc) rfl
    have fg := K5.out.r.fz
    have d1 := K5.out.r.cell 1 (nv_get .u8 _ 1 (by rw [hl5]; omega))
    have d2 := K5.out.r.cell 2 (nv_get .u8 _ 2 (by rw [hl5]; omega))
    have d3 := K5.out.r.cell 3 (nv_get .u8 _ 3 (by rw [hl5]; omega))
    have d4 := K5.out.r.cell 4 (nv_get .u8 _ 4 (by rw [hl5]; omega))
    have d6 := K5.out.r.cell 6 (nv_get .u8 _ 6 (by rw [hl5]; omega))
    have d7 := K5.out.r.cell 7 (nv_get .u8 _ 7 (by rw [hl5]; omega))
    clear hl5
    go_upto_region 9 with fail
    have K9 : Hid (EncS w ((((((wc.setCell ⟨g, 1, none⟩ (.int .u8 (fl : Nat))).setCell ⟨g, 2, none⟩ (.int .u8 (s0 : Nat))).setCell ⟨g, 3, none⟩ (.int .u8 (s1 : Nat))).setCell ⟨g, 4, none⟩ (.int .u8 ((ahs.length : Int) / 4))).setCell ⟨g, 6, none⟩ (.int .u8 ((data.length : Int) / 256))).setCell ⟨g, 7, none⟩ (.int .u8 ((data.length : Int) % 256))) w.heap.size g #[.int .i64 (op : Nat), .bool imm, .int .u8 (fl : Nat), .int .u8 (s0 : Nat), .int .u8 (s1 : Nat), .slice aa ahs.length ac, .int .u64 (lun : Nat), .int .u32 (tag : Nat), .int .u32 (w0 : Nat), .int .u32 (w1 : Nat), .int .u32 (w2 : Nat), .int .u32 (w3 : Nat), .int .u32 (w4 : Nat), .int .u32 (w5 : Nat), .int .u32 (w6 : Nat), .slice da data.length dc] (firstL cap opb fl s0 s1 (ahs.length / 4) (data.length / 256) (data.length % 256))) :=
      Lib.hid ((((((K5.out.store 1 fl).store 2 s0).store 3 s1).store 4 (ahs.length / 4)).store 6 (data.length / 256)).store 7 (data.length % 256))
    generalize ((((((wc.setCell ⟨g, 1, none⟩ (.int .u8 (fl : Nat))).setCell ⟨g, 2, none⟩ (.int .u8 (s0 : Nat))).setCell ⟨g, 3, none⟩ (.int .u8 (s1 : Nat))).setCell ⟨g, 4, none⟩ (.int .u8 ((ahs.length : Int) / 4))).setCell ⟨g, 6, none⟩ (.int .u8 ((data.length : Int) / 256))).setCell ⟨g, 7, none⟩ (.int .u8 ((data.length : Int) % 256))) = W9 at *
    clear K5 c2 c3 c4 c5 c15 fg d1 d2 d3 d4 d6 d7
    have hlun := HP.out.1.lun
    simp only at hlun
    obtain ⟨HD, hHD⟩ : ∃ HD, HD = headP (PDn op imm fl s0 s1 ahs lun tag w0 w1 w2 w3 w4 w5 w6 data) := ⟨_, rfl⟩
    have HHD := Lib.hid hHD
    clear hHD
    have hs9 : ∃ l, EncS w W9 w.heap.size g #[.int .i64 (op : Nat), .bool imm, .int .u8 (fl : Nat), .int .u8 (s0 : Nat), .int .u8 (s1 : Nat), .slice aa ahs.length ac, .int .u64 (lun : Nat), .int .u32 (tag : Nat), .int .u32 (w0 : Nat), .int .u32 (w1 : Nat), .int .u32 (w2 : Nat), .int .u32 (w3 : Nat), .int .u32 (w4 : Nat), .int .u32 (w5 : Nat), .int .u32 (w6 : Nat), .slice da data.length dc] l ∧ l.length = cap ∧ l.take 8 = HD.take 8 := ⟨_, K9.out, firstL_length _ _ _ _ _ _ _ _, by rw [firstL_take _ _ _ _ _ _ _ _ (by omega), HHD.out, HOB.out]; rfl⟩
    have H9 := Lib.hid hs9
    clear K9 hs9
    go_upto_block 0 with fail
    go_cut [] (fun wx => ∃ l, EncS w wx w.heap.size g #[.int .i64 (op : Nat), .bool imm, .int .u8 (fl : Nat), .int .u8 (s0 : Nat), .int .u8 (s1 : Nat), .slice aa ahs.length ac, .int .u64 (lun : Nat), .int .u32 (tag : Nat), .int .u32 (w0 : Nat), .int .u32 (w1 : Nat), .int .u32 (w2 : Nat), .int .u32 (w3 : Nat), .int .u32 (w4 : Nat), .int .u32 (w5 : Nat), .int .u32 (w6 : Nat), .slice da data.length dc] l ∧ l.length = cap ∧ l.take 16 = HD.take 16)
    case first =>
     as_aux_lemma =>
      go_wp2_with fail
      go_loopw [73] (fun i wr => ∃ k : Nat, k ≤ 8 ∧ i = .int .i64 k ∧ ∃ l, EncS w wr w.heap.size g #[.int .i64 (op : Nat), .bool imm, .int .u8 (fl : Nat), .int .u8 (s0 : Nat), .int .u8 (s1 : Nat), .slice aa ahs.length ac, .int .u64 (lun : Nat), .int .u32 (tag : Nat), .int .u32 (w0 : Nat), .int .u32 (w1 : Nat), .int .u32 (w2 : Nat), .int .u32 (w3 : Nat), .int .u32 (w4 : Nat), .int .u32 (w5 : Nat), .int .u32 (w6 : Nat), .slice da data.length dc] l ∧ l.length = cap ∧ l.take (8 + k) = HD.take (8 + k)) (fun i _ => 8 - (intOf i).toNat)
      case atStart => exact ⟨0, by omega, rfl, H9.out⟩
      case round =>
        obtain ⟨k, hk, rfl, l, hl, hlc, hlt⟩ := hrel
        have c6 := hl.p.cell 6 (v := .int .u64 (lun : Nat)) rfl
        have fg := hl.r.fz
        by_cases hk8 : k < 8
        · have dk := hl.r.cell (8 + k) (nv_get .u8 l (8 + k) (by omega))
          have HL := Lib.hid (And.intro hl (And.intro hlc hlt))
          clear hl hlc hlt
          go_wp2_with fail
          go_roundw
          case rel =>
            refine ⟨k + 1, by omega, by go_num, l.set (8 + k) (lun / 2 ^ (56 - 8 * k) % 256), ?_, by rw [List.length_set]; exact HL.out.2.1, take_set_succ (n := 8 + k) HL.out.2.2 (by rw [HL.out.2.1]; omega) (by rw [HHD.out]; exact head_lun _ hlun k hk8)⟩
            have := HL.out.1.store (8 + k) (lun / 2 ^ (56 - 8 * k) % 256)
            have e : ((lun / 2 ^ (56 - 8 * k) % 256 : Nat) : Int) = (lun : Int) / 2 ^ (56 - 8 * k) % 256 := by simp
            rw [e] at this
            exact this
          case measure => simp [intOf]; omega
        · obtain rfl : k = 8 := by omega
          have HL : Hid (∃ l, EncS w wr w.heap.size g #[.int .i64 (op : Nat), .bool imm, .int .u8 (fl : Nat), .int .u8 (s0 : Nat), .int .u8 (s1 : Nat), .slice aa ahs.length ac, .int .u64 (lun : Nat), .int .u32 (tag : Nat), .int .u32 (w0 : Nat), .int .u32 (w1 : Nat), .int .u32 (w2 : Nat), .int .u32 (w3 : Nat), .int .u32 (w4 : Nat), .int .u32 (w5 : Nat), .int .u32 (w6 : Nat), .slice da data.length dc] l ∧ l.length = cap ∧ l.take 16 = HD.take 16) := Lib.hid ⟨l, hl, hlc, hlt⟩
          clear hl hlc hlt
          go_wp2_with fail
          go_meet
          exact HL.out
    case rest =>
      obtain ⟨l, hl, hlc, hlt⟩ := hcut
      clear H9
      have HL := Lib.hid (And.intro hl (And.intro hlc hlt))
      clear hl hlc hlt hlun
      go_upto_region 14 with fail
      have HSC : Hid (∀ w', Below wc.heap.size wc w' → w'.cell? ⟨w.heap.size, 7, none⟩ = some (.int .u32 (tag : Nat))) := Lib.hid (fun w' hw => (HL.out.1.p.below hw HL.out.1.p.lt).cell 7 rfl)
      have HSA : Hid (∀ w', Below wc.heap.size wc w' → ∀ cs : Array Value, ((w'.alloc (.cells cs 25)).cell? ⟨w.heap.size, 7, none⟩ = some (.int .u32 (tag : Nat)) ∧ Below wc.heap.size wc (w'.alloc (.cells cs 25))) ∧ wc.heap.size ≤ w'.heap.size ∧ IsBlk (w'.alloc (.cells cs 25)) w'.heap.size cs 25 ∧
          ∀ i, i < 7 → (w'.alloc (.cells cs 25)).cell? ⟨w.heap.size, 8 + i, none⟩ = some (.int .u32 (([w0, w1, w2, w3, w4, w5, w6].getD i 0 : Nat) : Int))) := Lib.hid (fun w' hw cs => by
        have hw2 := hw.alloc hw.size (.cells cs 25)
        refine ⟨⟨HSC.out _ hw2, hw2⟩, hw.size, IsBlk.new _ _ _, fun i hi => ?_⟩
        refine (HL.out.1.p.below hw2 HL.out.1.p.lt).cell (8 + i) ?_
        rcases (by omega : i = 0 ∨ i = 1 ∨ i = 2 ∨ i = 3 ∨ i = 4 ∨ i = 5 ∨ i = 6) with rfl | rfl | rfl | rfl | rfl | rfl | rfl <;> rfl)
      have HS0 : Hid (wc.drew.cell? ⟨w.heap.size, 7, none⟩ = some (.int .u32 (tag : Nat)) ∧ Below wc.heap.size wc wc.drew) := Lib.hid ⟨HSC.out _ (Below.refl _ _).drew, (Below.refl _ _).drew⟩
      refine wp_region_held_drew (S := fun w' => w'.cell? ⟨w.heap.size, 7, none⟩ = some (.int .u32 (tag : Nat)) ∧ Below wc.heap.size wc w') (by kernel_rfl) HS0.out (fun hHeld => ?_)
      refine wpAnyH_take (i := 0) (v := ?_) rfl (by kernel_rfl) (by kernel_rfl) (by kernel_rfl) (fun _ _ _ h => h) (Or.inl ⟨by rfl, ?_⟩) (by with_reducible assumption) ?_
      rotate_left
      · intro w hSw; (try dsimp only at hSw); (try go_split_ands); go_simp; (try with_reducible rfl)
      (try simp only [Act.put, List.getElem_toArray, List.getElem_cons_succ, List.getElem_cons_zero, List.setIfInBounds_toArray, List.set_cons_zero, List.set_cons_succ])
      refine wpAnyH_take (i := 1) (v := ?_) rfl (by kernel_rfl) (by kernel_rfl) (by kernel_rfl) (fun _ _ _ h => h) (Or.inl ⟨by rfl, ?_⟩) (by with_reducible assumption) ?_
      rotate_left
      · intro w hSw; (try dsimp only at hSw); (try go_split_ands); go_simp; (try with_reducible rfl)
      (try simp only [Act.put, List.getElem_toArray, List.getElem_cons_succ, List.getElem_cons_zero, List.setIfInBounds_toArray, List.set_cons_zero, List.set_cons_succ])
      refine wpAnyH_take (i := 3) (v := ?_) rfl (by kernel_rfl) (by kernel_rfl) (by kernel_rfl) (fun _ _ _ h => h) (Or.inl ⟨by rfl, ?_⟩) (by with_reducible assumption) ?_
      rotate_left
      · intro w hSw; (try dsimp only at hSw); (try go_split_ands); go_simp; (try with_reducible rfl)
      (try simp only [Act.put, List.getElem_toArray, List.getElem_cons_succ, List.getElem_cons_zero, List.setIfInBounds_toArray, List.set_cons_zero, List.set_cons_succ])
      refine wpAnyH_take (i := 4) (v := ?_) rfl (by kernel_rfl) (by kernel_rfl) (by kernel_rfl) (fun _ _ _ h => h) (Or.inl ⟨by rfl, ?_⟩) (by with_reducible assumption) ?_
      rotate_left
      · intro w hSw; (try dsimp only at hSw); (try go_split_ands); go_simp; (try with_reducible rfl)
      (try simp only [Act.put, List.getElem_toArray, List.getElem_cons_succ, List.getElem_cons_zero, List.setIfInBounds_toArray, List.set_cons_zero, List.set_cons_succ])
      refine wpAnyH_take (i := 7) (v := ?_) rfl (by kernel_rfl) (by kernel_rfl) (by kernel_rfl) (fun _ _ _ h => h) (Or.inl ⟨by rfl, ?_⟩) (by with_reducible assumption) ?_
      rotate_left
      · intro w hSw; (try dsimp only at hSw); (try go_split_ands); go_simp; (try with_reducible rfl)
      (try simp only [Act.put, List.getElem_toArray, List.getElem_cons_succ, List.getElem_cons_zero, List.setIfInBounds_toArray, List.set_cons_zero, List.set_cons_succ])
      refine wpAnyH_ready (rs := [2]) (by kernel_rfl) (by simp) ?_
      refine AllReadyH.cons rfl (fun K hK => ?_) AllReadyH.nil
      go_simp
      have hS2 := HSA.out _ hHeld.2 #[.int .u32 (tag : Nat)]
      have hW2 := Lib.hid (And.intro hS2 hHeld.2)
      refine hK.out _ _ hS2.1 (fun hHeld => ?_)
      clear hK K hS2
      (try simp only [Act.put, List.getElem_toArray, List.getElem_cons_succ, List.getElem_cons_zero, List.setIfInBounds_toArray, List.set_cons_zero, List.set_cons_succ])
      refine wpAnyH_ready (rs := [5]) (by kernel_rfl) (by simp) ?_
      refine AllReadyH.cons rfl (fun K hK => ?_) AllReadyH.nil
      refine step_words (by rfl) (.tmp 90) (.tmp 92) (by rfl) wc hW2.out.1.1.2 tag _ (by rfl) hW2.out.1.2.1 hW2.out.1.2.2.1 w.heap.size [w0, w1, w2, w3, w4, w5, w6] (by rfl) rfl hW2.out.1.2.2.2 ?_
      intro q cq wf hrow
      have HRow := Lib.hid hrow
      refine hK.out _ _ ⟨HSC.out _ hrow.bel, hrow.bel⟩ (fun hHeld => ?_)
      clear hK K hW2 hrow
      (try simp only [Act.put, List.getElem_toArray, List.getElem_cons_succ, List.getElem_cons_zero, List.setIfInBounds_toArray, List.set_cons_zero, List.set_cons_succ])
      refine wpAnyH_take (i := 6) (v := ?_) rfl (by kernel_rfl) (by kernel_rfl) (by kernel_rfl) (fun _ _ _ h => h) (Or.inl ⟨by rfl, ?_⟩) (by with_reducible assumption) ?_
      rotate_left
      · intro w hSw; (try dsimp only at hSw); (try go_split_ands); go_simp; (try with_reducible rfl)
      (try simp only [Act.put, List.getElem_toArray, List.getElem_cons_succ, List.getElem_cons_zero, List.setIfInBounds_toArray, List.set_cons_zero, List.set_cons_succ])
      refine wpAnyH_done (by kernel_rfl) ?_ _
      clear hHeld HSA HSC HS0
      have H14 : Hid ((∃ l, EncS w wf w.heap.size g #[.int .i64 (op : Nat), .bool imm, .int .u8 (fl : Nat), .int .u8 (s0 : Nat), .int .u8 (s1 : Nat), .slice aa ahs.length ac, .int .u64 (lun : Nat), .int .u32 (tag : Nat), .int .u32 (w0 : Nat), .int .u32 (w1 : Nat), .int .u32 (w2 : Nat), .int .u32 (w3 : Nat), .int .u32 (w4 : Nat), .int .u32 (w5 : Nat), .int .u32 (w6 : Nat), .slice da data.length dc] l ∧ l.length = cap ∧ l.take 16 = HD.take 16) ∧ RowC wf q [tag, w0, w1, w2, w3, w4, w5, w6] ∧ q ≠ g ∧ q ≠ w.heap.size) := by
        have hb := HRow.out.bel
        have h1 := HL.out.1.r.lt
        have h2 := HL.out.1.p.lt
        have h3 := HRow.out.le
        exact Lib.hid ⟨⟨l, ⟨HL.out.1.p.below hb h2, HL.out.1.r.below hb h1, HL.out.1.bel.trans (hb.mono HL.out.1.bel.size), HL.out.1.hB, HL.out.1.hg, HL.out.1.ne⟩, HL.out.2.1, HL.out.2.2⟩, HRow.out.row, by omega, by omega⟩
      clear HL HRow
      go_upto_block 2 with fail
      go_cut [] (fun wx => ∃ l, EncS w wx w.heap.size g #[.int .i64 (op : Nat), .bool imm, .int .u8 (fl : Nat), .int .u8 (s0 : Nat), .int .u8 (s1 : Nat), .slice aa ahs.length ac, .int .u64 (lun : Nat), .int .u32 (tag : Nat), .int .u32 (w0 : Nat), .int .u32 (w1 : Nat), .int .u32 (w2 : Nat), .int .u32 (w3 : Nat), .int .u32 (w4 : Nat), .int .u32 (w5 : Nat), .int .u32 (w6 : Nat), .slice da data.length dc] l ∧ l.length = cap ∧ l.take 48 = HD)
      case first =>
       as_aux_lemma =>
        go_wp2_with fail
        have hqg := H14.out.2.2.1
        have hqB := H14.out.2.2.2
        go_loopw [95] (fun i wr => ∃ k : Nat, k ≤ 8 ∧ i = .int .i64 k ∧ (∃ l, EncS w wr w.heap.size g #[.int .i64 (op : Nat), .bool imm, .int .u8 (fl : Nat), .int .u8 (s0 : Nat), .int .u8 (s1 : Nat), .slice aa ahs.length ac, .int .u64 (lun : Nat), .int .u32 (tag : Nat), .int .u32 (w0 : Nat), .int .u32 (w1 : Nat), .int .u32 (w2 : Nat), .int .u32 (w3 : Nat), .int .u32 (w4 : Nat), .int .u32 (w5 : Nat), .int .u32 (w6 : Nat), .slice da data.length dc] l ∧ l.length = cap ∧ l.take (16 + 4 * k) = HD.take (16 + 4 * k)) ∧ RowC wr q [tag, w0, w1, w2, w3, w4, w5, w6]) (fun i _ => 8 - (intOf i).toNat)
        case atStart => exact ⟨0, by omega, rfl, H14.out.1, H14.out.2.1⟩
        case round =>
          obtain ⟨k, hk, rfl, ⟨l, hl, hlc, hlt⟩, hrow⟩ := hrel
          clear H14
          have fg := hl.r.fz
          by_cases hk8 : k < 8
          · have hx := hrow k hk8
            have hx2 := word_lt HP.out.1 k hk8
            obtain ⟨x, hxx⟩ : ∃ x, x = [tag, w0, w1, w2, w3, w4, w5, w6].getD k 0 := ⟨_, rfl⟩
            rw [← hxx] at hx hx2
            have HX := Lib.hid hxx
            clear hxx
            have e0 := hl.r.cell (16 + 4 * k) (nv_get .u8 l (16 + 4 * k) (by omega))
            have e1 := hl.r.cell (17 + 4 * k) (nv_get .u8 l (17 + 4 * k) (by omega))
            have e2 := hl.r.cell (18 + 4 * k) (nv_get .u8 l (18 + 4 * k) (by omega))
            have e3 := hl.r.cell (19 + 4 * k) (nv_get .u8 l (19 + 4 * k) (by omega))
            have HL := Lib.hid (And.intro hl (And.intro hlc (And.intro hlt hrow)))
            clear hl hlc hlt hrow
            go_wp2_with fail
            go_roundw
            case rel =>
              obtain ⟨b0, b1, b2, b3⟩ := head_word k hk8 HD HHD.out x HX.out hx2
              have t1 := take_set_succ (n := 16 + 4 * k) HL.out.2.2.1 (by rw [HL.out.2.1]; show 16 + 4 * k < cap; omega) b0
              rw [show 16 + 4 * k + 1 = 17 + 4 * k by omega] at t1
              have t2 := take_set_succ (n := 17 + 4 * k) t1 (by rw [List.length_set, HL.out.2.1]; show 17 + 4 * k < cap; omega) b1
              rw [show 17 + 4 * k + 1 = 18 + 4 * k by omega] at t2
              have t3 := take_set_succ (n := 18 + 4 * k) t2 (by rw [List.length_set, List.length_set, HL.out.2.1]; show 18 + 4 * k < cap; omega) b2
              rw [show 18 + 4 * k + 1 = 19 + 4 * k by omega] at t3
              have t4 := take_set_succ (n := 19 + 4 * k) t3 (by rw [List.length_set, List.length_set, List.length_set, HL.out.2.1]; show 19 + 4 * k < cap; omega) b3
              rw [show 19 + 4 * k + 1 = 16 + 4 * (k + 1) by omega] at t4
              exact ⟨k + 1, by omega, by go_num, ⟨_, (((HL.out.1.store (16 + 4 * k) (x / 16777216)).store (17 + 4 * k) (x / 65536 % 256)).store (18 + 4 * k) (x / 256 % 256)).store (19 + 4 * k) (x % 256), by rw [List.length_set, List.length_set, List.length_set, List.length_set]; exact HL.out.2.1, t4⟩, (((HL.out.2.2.2.setOther _ _ hqg).setOther _ _ hqg).setOther _ _ hqg).setOther _ _ hqg⟩
            case measure => simp [intOf]; omega
          · obtain rfl : k = 8 := by omega
            have HL : Hid (∃ l, EncS w wr w.heap.size g #[.int .i64 (op : Nat), .bool imm, .int .u8 (fl : Nat), .int .u8 (s0 : Nat), .int .u8 (s1 : Nat), .slice aa ahs.length ac, .int .u64 (lun : Nat), .int .u32 (tag : Nat), .int .u32 (w0 : Nat), .int .u32 (w1 : Nat), .int .u32 (w2 : Nat), .int .u32 (w3 : Nat), .int .u32 (w4 : Nat), .int .u32 (w5 : Nat), .int .u32 (w6 : Nat), .slice da data.length dc] l ∧ l.length = cap ∧ l.take 48 = HD) := Lib.hid ⟨l, hl, hlc, by rw [hlt]; exact List.take_of_length_le (by rw [HHD.out, headP_length _ HP.out.1.wl]; omega)⟩
            clear hl hlc hlt hrow
            go_wp2_with fail
            go_meet
            exact HL.out
      case rest =>
        obtain ⟨l, hl, hlc, hlt⟩ := hcut
        clear H14
        rename_i W17
        have hHDl : HD.length = 48 := by rw [HHD.out]; exact headP_length _ HP.out.1.wl
        have hown := own_prefix hl.r hlc (by rw [hHDl]; exact hlt) (fun c hc => by rw [HHD.out] at hc; exact headP_lt _ HP.out.1 HP.out.2.2.2.2.2 c hc) hl.hg (by rw [hHDl]; omega) (by unfold maxLen; omega)
        rw [hHDl] at hown
        have HO : Hid (EncO w wc w.heap.size #[.int .i64 (op : Nat), .bool imm, .int .u8 (fl : Nat), .int .u8 (s0 : Nat), .int .u8 (s1 : Nat), .slice aa ahs.length ac, .int .u64 (lun : Nat), .int .u32 (tag : Nat), .int .u32 (w0 : Nat), .int .u32 (w1 : Nat), .int .u32 (w2 : Nat), .int .u32 (w3 : Nat), .int .u32 (w4 : Nat), .int .u32 (w5 : Nat), .int .u32 (w6 : Nat), .slice da data.length dc] (.slice (some ⟨g, 0, none⟩) 48 cap) HD) := Lib.hid ⟨hl.p, hown, hl.bel, fun k hk e => by simp [Value.ownBlock] at hk; exact hl.ne (by omega)⟩
        have c5 := hl.p.cell 5 (v := .slice aa ahs.length ac) rfl
        have HHL := Lib.hid hHDl
        clear hl hlc hlt hown hHDl
        go_upto_region 20 with (at_builtin; refine wpList_app rfl (.tmp 132) (.tmp 134) rfl w.heap.size _ HD rfl HO.out.own aa ac ahs rfl (HP.out.2.1.of_below HO.out.bel) HP.out.2.2.2.1 (by rw [HHL.out]; omega) HO.out.bel.size ?_; intro v19 W19 ho hb hg hv; have HO := Lib.hid (HO.out.app ho hg hv); clear ho hb hg hv)
        clear c5
        go_upto_if 136 with fail
        go_cut [7] (fun s7 wx => EncO w wx w.heap.size #[.int .i64 (op : Nat), .bool imm, .int .u8 (fl : Nat), .int .u8 (s0 : Nat), .int .u8 (s1 : Nat), .slice aa ahs.length ac, .int .u64 (lun : Nat), .int .u32 (tag : Nat), .int .u32 (w0 : Nat), .int .u32 (w1 : Nat), .int .u32 (w2 : Nat), .int .u32 (w3 : Nat), .int .u32 (w4 : Nat), .int .u32 (w5 : Nat), .int .u32 (w6 : Nat), .slice da data.length dc] s7 (headsP (PDn op imm fl s0 s1 ahs lun tag w0 w1 w2 w3 w4 w5 w6 data) h))
        case first =>
         as_aux_lemma =>
          obtain ⟨a19, k19, rfl, hb19, hk19, hm19, hx19⟩ := HO.out.own.form
          have HB19 := Lib.hid (And.intro hb19 (And.intro hk19 (And.intro hm19 hx19)))
          clear hb19 hk19 hm19 hx19
          obtain ⟨n19, hn19⟩ : ∃ n, n = (HD ++ ahs).length := ⟨_, rfl⟩
          rw [← hn19] at HO ⊢
          have HN19 := Lib.hid hn19
          have hn19b : n19 ≤ 80 := by rw [hn19, List.length_append, HHL.out]; omega
          clear hn19
          cases h with
          | false =>
            go_wp2_with fail
            go_meet
            have e : headsP (PDn op imm fl s0 s1 ahs lun tag w0 w1 w2 w3 w4 w5 w6 data) false = HD ++ ahs := by rw [HHD.out]; simp [headsP]
            rw [e]; exact HO.out
          | true =>
            go_wp2_with fail
            refine (sum_nil_below' (HD ++ ahs) n19 _ _ HN19.out.symm HB19.out.1 (by omega)).mono ?_
            rintro e W21 ⟨rfl, hb21⟩
            have HO1 := Lib.hid (HO.out.below hb21)
            clear hb21
            have hxs := sumPlain_lt (HD ++ ahs)
            obtain ⟨sx, hsx⟩ : ∃ x, x = sumPlain (HD ++ ahs) := ⟨_, rfl⟩
            rw [← hsx] at hxs ⊢
            have HSX := Lib.hid hsx
            clear hsx
            go_wp2_with fail
            refine (bytes_vars sx hxs _).mono ?_
            rintro e W22 ⟨c0, c1, c2, c3, rfl, h4, hb22⟩
            have HO2 := Lib.hid (HO1.out.below hb22)
            clear hb22 HO1
            go_wp2_with (at_builtin; refine wpList_app rfl (.tmp 140) (.tmp 141) rfl w.heap.size _ (HD ++ ahs) rfl (HO2.out.alloc _).own (some ⟨W22.heap.size, 0, none⟩) 4 [c0, c1, c2, c3] rfl (new_four W22 h4.out _) (fun e => by cases e) (by have := HN19.out; simp only [List.length_cons, List.length_nil]; omega) (HO2.out.alloc (.cells #[.int .u8 (c0 : Nat), .int .u8 (c1 : Nat), .int .u8 (c2 : Nat), .int .u8 (c3 : Nat)] 53)).bel.size ?_; intro v22 W23 ho hb hg hv; have HO3 := Lib.hid ((HO2.out.alloc _).app ho hg hv); clear ho hb hg hv)
            go_meet
            have e : headsP (PDn op imm fl s0 s1 ahs lun tag w0 w1 w2 w3 w4 w5 w6 data) true = HD ++ ahs ++ [c0, c1, c2, c3] := by rw [← h4.out, HSX.out, HHD.out]; simp [headsP, sumd]
            rw [e]; exact HO3.out
        case rest =>
          clear HO
          have HO5 := Lib.hid hcut
          clear hcut
          obtain ⟨hs, hhs⟩ : ∃ l, l = headsP (PDn op imm fl s0 s1 ahs lun tag w0 w1 w2 w3 w4 w5 w6 data) h := ⟨_, rfl⟩
          rw [← hhs] at HO5
          have hsl : hs.length ≤ 84 := by rw [hhs, headsP_length _ HP.out.1.wl]; simp only; split <;> omega
          have HEN : Hid (encP (PDn op imm fl s0 s1 ahs lun tag w0 w1 w2 w3 w4 w5 w6 data) h d = hs ++ dataP (PDn op imm fl s0 s1 ahs lun tag w0 w1 w2 w3 w4 w5 w6 data) d) := Lib.hid (by rw [encP, if_pos HP.out.2.2.2.2.2, hhs])
          clear hhs HHD HHL
          have c15 := HO5.out.p.cell 15 (v := .slice da data.length dc) rfl
          obtain ⟨a5, k5, rfl, hb5, hk5, hm5, hx5⟩ := HO5.out.own.form
          have HB5 := Lib.hid (And.intro hb5 (And.intro hk5 (And.intro hm5 hx5)))
          clear hb5 hk5 hm5 hx5
          by_cases hz : data = []
          · have z1 : ((data.length : Int) == 0) = true := by simp [hz]
            have HZ := Lib.hid hz
            clear hz
            go_wp2_with fail
            go_ret
            exact ⟨_, rfl, by rw [HEN.out, dataP, if_pos HZ.out, List.append_nil]; exact HO5.out.own, HO5.out.bel⟩
          · have z1 : ((data.length : Int) == 0) = false := by
              have : 0 < data.length := List.length_pos_iff.2 hz
              simp; omega
            have HZ := Lib.hid hz
            clear hz
            go_upto_block 4 with (at_builtin; refine wpList_app rfl (.tmp 150) (.tmp 152) rfl w.heap.size _ hs rfl HO5.out.own da dc data rfl (HP.out.2.2.1.of_below HO5.out.bel) HP.out.2.2.2.2.1 (by omega) HO5.out.bel.size ?_; intro v26 W26 ho hb hg hv; have HO6 := Lib.hid (HO5.out.app ho hg hv); clear ho hb hg hv)
            go_cut [7] (fun s7 wx => EncO w wx w.heap.size #[.int .i64 (op : Nat), .bool imm, .int .u8 (fl : Nat), .int .u8 (s0 : Nat), .int .u8 (s1 : Nat), .slice aa ahs.length ac, .int .u64 (lun : Nat), .int .u32 (tag : Nat), .int .u32 (w0 : Nat), .int .u32 (w1 : Nat), .int .u32 (w2 : Nat), .int .u32 (w3 : Nat), .int .u32 (w4 : Nat), .int .u32 (w5 : Nat), .int .u32 (w6 : Nat), .slice da data.length dc] s7 (hs ++ pad data))
            case first =>
             as_aux_lemma =>
              clear HO5 c15 HB5
              go_wp2_with fail
              go_loopw [7] (fun v wr => ∃ j, j ≤ (4 - data.length % 4) % 4 ∧ EncO w wr w.heap.size #[.int .i64 (op : Nat), .bool imm, .int .u8 (fl : Nat), .int .u8 (s0 : Nat), .int .u8 (s1 : Nat), .slice aa ahs.length ac, .int .u64 (lun : Nat), .int .u32 (tag : Nat), .int .u32 (w0 : Nat), .int .u32 (w1 : Nat), .int .u32 (w2 : Nat), .int .u32 (w3 : Nat), .int .u32 (w4 : Nat), .int .u32 (w5 : Nat), .int .u32 (w6 : Nat), .slice da data.length dc] v (hs ++ data ++ List.replicate j 0)) (fun v _ => 1000 - lenOf v)
              case atStart => exact ⟨0, by omega, by rw [List.replicate_zero, List.append_nil]; exact HO6.out⟩
              case round =>
                clear HO6
                obtain ⟨j, hj, ho⟩ := hrel
                have HO := Lib.hid ho
                clear ho
                obtain ⟨a7, k7, rfl, hb7, hk7, hm7, hx7⟩ := HO.out.own.form
                have HB7 := Lib.hid (And.intro hb7 (And.intro hk7 (And.intro hm7 hx7)))
                clear hb7 hm7 hx7
                obtain ⟨n7, hn7⟩ : ∃ n, n = (hs ++ data ++ List.replicate j 0).length := ⟨_, rfl⟩
                rw [← hn7] at hk7 ⊢
                have hn7b : n7 = hs.length + data.length + j := by rw [hn7]; simp; omega
                obtain ⟨m7, hm7⟩ : ∃ m, m = data.length + j := ⟨_, rfl⟩
                have hm7b : m7 ≤ 260 := by omega
                have HN7 := Lib.hid (And.intro hn7 (And.intro hn7b hm7))
                by_cases hlt : j < (4 - data.length % 4) % 4
                · have z2 : ((m7 : Int) % 4 != 0) = true := by simp; omega
                  have HJ := Lib.hid hlt
                  have hn8 : n7 < 400 := by omega
                  clear hlt hn7 hn7b hm7 hj
                  go_wp2_with (first
                    | (refine wpList_cut' (by rfl) (.tmp 154) (some (.tmp 155)) none (by rfl) (t := 23) (e := 5) (by kernel_rfl) (by kernel_rfl) (a := a7) (len := n7) (cap := k7) (by rfl) hs.length n7 m7 (by have := HN7.out; omega) (by exact bounds_l hs.length (by have := HN7.out; omega)) ?_)
                    | (at_builtin; refine wpList_app' rfl (.tmp 160) (.tmp 161) rfl w.heap.size _ (hs ++ data ++ List.replicate j 0) (by rw [HN7.out.1]; rfl) (HO.out.alloc (.cells #[.int .u8 0] 5)).own (some ⟨wr.heap.size, 0, none⟩) 1 1 [0] rfl rfl (new_zero wr _) (fun e => by cases e) (by have := HN7.out; simp only [List.length_cons, List.length_nil]; omega) (HO.out.alloc (.cells #[.int .u8 0] 5)).bel.size ?_; intro v28 W28 ho hb hg hv; have HO8 := Lib.hid ((HO.out.alloc _).app ho hg hv); clear ho hb hg hv))
                  go_roundw
                  case rel =>
                    have e : hs ++ data ++ List.replicate (j + 1) 0 = hs ++ data ++ List.replicate j 0 ++ [0] := by rw [List.replicate_succ', List.append_assoc (hs ++ data)]
                    exact ⟨j + 1, by have := HJ.out; omega, by rw [e]; exact HO8.out⟩
                  case measure =>
                    obtain ⟨a8, k8, hv8, -⟩ := HO8.out.own.form
                    have h1 := HN7.out.1
                    rw [hv8]
                    simp only [lenOf]
                    rw [List.length_append, ← h1]
                    simp only [List.length_cons, List.length_nil]
                    omega
                · have z2 : ((m7 : Int) % 4 != 0) = false := by simp; omega
                  have HJ : Hid (j = (4 - data.length % 4) % 4) := Lib.hid (by omega)
                  clear hlt hn7 hn7b hm7 hj
                  go_wp2_with (refine wpList_cut' (by rfl) (.tmp 154) (some (.tmp 155)) none (by rfl) (t := 23) (e := 5) (by kernel_rfl) (by kernel_rfl) (a := a7) (len := n7) (cap := k7) (by rfl) hs.length n7 m7 (by have := HN7.out; omega) (by exact bounds_l hs.length (by have := HN7.out; omega)) ?_)
                  go_meet
                  have e : hs ++ pad data = hs ++ data ++ List.replicate j 0 := by rw [HJ.out, pad, List.append_assoc]
                  rw [e, HN7.out.1]
                  exact HO.out
            case rest =>
              clear HO6 HO5 HB5 c15
              have HO7 := Lib.hid hcut
              clear hcut
              go_upto_if 163 with fail
              obtain ⟨a9, k9, rfl, hb9, hk9, hm9, hx9⟩ := HO7.out.own.form
              have HB9 := Lib.hid (And.intro hb9 (And.intro hm9 hx9))
              clear hb9 hm9 hx9
              obtain ⟨n9, hn9⟩ : ∃ n, n = (hs ++ pad data).length := ⟨_, rfl⟩
              rw [← hn9] at hk9 HO7 ⊢
              obtain ⟨m9, hm9⟩ : ∃ m, m = (pad data).length := ⟨_, rfl⟩
              have hn9b : n9 = hs.length + m9 := by rw [hn9, hm9, List.length_append]
              have hm9b : m9 ≤ 260 := by rw [hm9, pad_length]; omega
              have HN9 := Lib.hid (And.intro hn9 (And.intro hn9b hm9))
              clear hn9 hn9b hm9
              cases d with
              | false =>
               as_aux_lemma =>
                go_wp2_with fail
                go_ret
                exact ⟨_, rfl, by rw [HEN.out, dataP, if_neg HZ.out]; simp only [Bool.false_eq_true, if_false, List.append_nil]; exact HO7.out.own, HO7.out.bel⟩
              | true =>
               as_aux_lemma =>
                have hcut : IsBytes wc (cutA a9 k9 hs.length) (pad data) := by
                  have := isBytes_cut HB9.out.1 k9 hs.length n9 (by have := HN9.out; omega) (by rw [← HN9.out.1]; exact Nat.le_refl _) (by rw [← HN9.out.1]; omega)
                  rw [List.drop_left, HN9.out.2.1, Nat.add_sub_cancel_left, List.take_of_length_le (by rw [← HN9.out.2.2]; exact Nat.le_refl _)] at this
                  exact this
                have HC := Lib.hid hcut
                clear hcut
                go_wp2_with (refine wpList_cut' (by rfl) (.tmp 164) (some (.tmp 165)) none (by rfl) (t := 23) (e := 5) (by kernel_rfl) (by kernel_rfl) (a := a9) (len := n9) (cap := k9) (by rfl) hs.length n9 m9 (by have := HN9.out; omega) (by exact bounds_l hs.length (by have := HN9.out; omega)) ?_)
                refine (sum_nil_below' (pad data) m9 _ _ HN9.out.2.2.symm HC.out (by omega)).mono ?_
                rintro e W31 ⟨rfl, hb31⟩
                have HO1 := Lib.hid (HO7.out.below hb31)
                clear hb31
                have hxs := sumPlain_lt (pad data)
                obtain ⟨sx, hsx⟩ : ∃ x, x = sumPlain (pad data) := ⟨_, rfl⟩
                rw [← hsx] at hxs ⊢
                have HSX := Lib.hid hsx
                clear hsx
                go_wp2_with fail
                refine (bytes_vars sx hxs _).mono ?_
                rintro e W32 ⟨c0, c1, c2, c3, rfl, h4, hb32⟩
                have HO2 := Lib.hid (HO1.out.below hb32)
                clear hb32 HO1
                go_wp2_with (at_builtin; refine wpList_app' rfl (.tmp 169) (.tmp 170) rfl w.heap.size _ (hs ++ pad data) (by rw [HN9.out.1]; rfl) (HO2.out.alloc _).own (some ⟨W32.heap.size, 0, none⟩) 4 4 [c0, c1, c2, c3] rfl rfl (new_four W32 h4.out _) (fun e => by cases e) (by have := HN9.out; simp only [List.length_cons, List.length_nil]; omega) (HO2.out.alloc (.cells #[.int .u8 (c0 : Nat), .int .u8 (c1 : Nat), .int .u8 (c2 : Nat), .int .u8 (c3 : Nat)] 53)).bel.size ?_; intro v32 W33 ho hb hg hv; have HO3 := Lib.hid ((HO2.out.alloc _).app ho hg hv); clear ho hb hg hv)
                go_ret
                have e : encP (PDn op imm fl s0 s1 ahs lun tag w0 w1 w2 w3 w4 w5 w6 data) h true = hs ++ pad data ++ [c0, c1, c2, c3] := by
                  rw [HEN.out, dataP, if_neg HZ.out, ← h4.out, HSX.out]; simp [sumd]
                exact ⟨_, rfl, by rw [e]; exact HO3.out.own, HO3.out.bel⟩
end Go.Proofs.Ytaehaclmagnncaa
